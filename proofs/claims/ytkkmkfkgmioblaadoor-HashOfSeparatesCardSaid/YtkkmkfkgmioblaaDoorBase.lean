/- Lemmas of this session for the walks and the plain laws. -/
import Derived.Test.YtkkmkfkgmioblaaDoorProg
import Derived.Test.YtkkmkfkgmioblaaDoorLib
import Derived.WalkKit
import Derived.Lib.Hide
set_option linter.unusedVariables false
set_option linter.unusedSimpArgs false
namespace CrcMath

abbrev R := BitVec 40
def poly : R := 0x0004820009#40
def X (r : R) : R := (r <<< 1) ^^^ (if r.getLsbD 39 then poly else 0#40)
def step (r : R) (b : Bool) : R := (r <<< 1) ^^^ (if (r.getLsbD 39 ^^ b) then poly else 0#40)

theorem ite_xor (p q : Bool) (c : R) : (if (p ^^ q) then c else 0#40) = (if p then c else 0#40) ^^^ (if q then c else 0#40) := by
  cases p <;> cases q <;> simp

theorem shl_xor (a b : R) (n : Nat) : (a ^^^ b) <<< n = (a <<< n) ^^^ (b <<< n) := by
  ext i
  simp
  by_cases h2 : i < n <;> simp [h2]

theorem X_xor (a b : R) : X (a ^^^ b) = X a ^^^ X b := by
  unfold X
  rw [BitVec.getLsbD_xor, ite_xor, shl_xor]
  ac_rfl

theorem X_zero : X 0#40 = 0#40 := by decide
theorem X_ite (p : Bool) (c : R) : X (if p then c else 0#40) = if p then X c else 0#40 := by
  cases p <;> simp [X_zero]

theorem step_eq (r : R) (b : Bool) : step r b = X r ^^^ (if b then poly else 0#40) := by
  unfold step X
  rw [ite_xor, BitVec.xor_assoc]

theorem X_inj0 (a : R) (h : X a = 0#40) : a = 0#40 := by
  unfold X at h
  have h0 := congrArg (fun r => r.getLsbD 0) h
  by_cases hm : a.getLsbD 39
  · simp [hm, poly] at h0
  · simp only [Bool.not_eq_true] at hm
    simp only [hm] at h
    ext i hi
    by_cases h39 : i = 39
    · subst h39
      rw [← BitVec.getLsbD_eq_getElem, hm]; simp
    · have := congrArg (fun r => r.getLsbD (i+1)) h
      simp at this
      rw [← BitVec.getLsbD_eq_getElem]
      simp
      have h2 := this (by omega)
      simpa using h2

/-- the table of the program -/
def tab : List Nat := [0x00000000, 0x04820009, 0x09040012, 0x0d86001b, 0x12080024, 0x168a002d, 0x1b0c0036, 0x1f8e003f,
  0x24100048, 0x20920041, 0x2d14005a, 0x29960053, 0x3618006c, 0x329a0065, 0x3f1c007e, 0x3b9e0077]
def tabR (v : BitVec 4) : R := BitVec.ofNat 40 (tab.getD v.toNat 0)

theorem tabR_bits : ∀ v : BitVec 4, tabR v = (if v.getLsbD 0 then poly else 0#40) ^^^ (if v.getLsbD 1 then X poly else 0#40) ^^^ (if v.getLsbD 2 then X (X poly) else 0#40) ^^^ (if v.getLsbD 3 then X (X (X poly)) else 0#40) := by
  decide

def nib (r : R) (n : BitVec 4) : R := (r <<< 4) ^^^ tabR ((r >>> 36).setWidth 4 ^^^ n)
def steps4 (r : R) (n : BitVec 4) : R := step (step (step (step r (n.getLsbD 3)) (n.getLsbD 2)) (n.getLsbD 1)) (n.getLsbD 0)

theorem X4 (r : R) : X (X (X (X r))) = (r <<< 4) ^^^ (if r.getLsbD 36 then poly else 0#40) ^^^ (if r.getLsbD 37 then X poly else 0#40) ^^^ (if r.getLsbD 38 then X (X poly) else 0#40) ^^^ (if r.getLsbD 39 then X (X (X poly)) else 0#40) := by
  have e1 : X r = (r <<< 1) ^^^ (if r.getLsbD 39 then poly else 0#40) := rfl
  have e2 : X (r <<< 1) = (r <<< 2) ^^^ (if r.getLsbD 38 then poly else 0#40) := by
    unfold X; simp [← BitVec.shiftLeft_add]
  have e3 : X (r <<< 2) = (r <<< 3) ^^^ (if r.getLsbD 37 then poly else 0#40) := by
    unfold X; simp [← BitVec.shiftLeft_add]
  have e4 : X (r <<< 3) = (r <<< 4) ^^^ (if r.getLsbD 36 then poly else 0#40) := by
    unfold X; simp [← BitVec.shiftLeft_add]
  rw [e1]; simp only [X_xor, X_ite, e2, e3, e4]

theorem nib_eq (r : R) (n : BitVec 4) : nib r n = steps4 r n := by
  unfold nib steps4
  simp only [step_eq, X_xor, X_ite, X4, tabR_bits, BitVec.getLsbD_xor, ite_xor]
  simp
  ac_rfl


/-! multiplication -/
def Xn : Nat → R → R
  | 0, r => r
  | n + 1, r => X (Xn n r)
theorem Xn_xor (n : Nat) (a b : R) : Xn n (a ^^^ b) = Xn n a ^^^ Xn n b := by
  induction n with
  | zero => rfl
  | succ n ih => simp only [Xn, ih, X_xor]
theorem Xn_zero (n : Nat) : Xn n 0#40 = 0#40 := by
  induction n with
  | zero => rfl
  | succ n ih => simp only [Xn, ih, X_zero]
theorem Xn_ite (n : Nat) (p : Bool) (c : R) : Xn n (if p then c else 0#40) = if p then Xn n c else 0#40 := by
  cases p <;> simp [Xn_zero]
theorem Xn_add (m n : Nat) (r : R) : Xn (m + n) r = Xn m (Xn n r) := by
  induction m with
  | zero => simp [Xn]
  | succ m ih => rw [Nat.add_right_comm]; simp only [Xn, ih]
theorem Xn_comm (m n : Nat) (r : R) : Xn m (Xn n r) = Xn n (Xn m r) := by
  rw [← Xn_add, Nat.add_comm, Xn_add]
theorem Xn_X (n : Nat) (r : R) : Xn n (X r) = X (Xn n r) := Xn_comm n 1 r
theorem Xn_inj0 (n : Nat) (a : R) (h : Xn n a = 0#40) : a = 0#40 := by
  induction n with
  | zero => exact h
  | succ n ih => exact ih (X_inj0 _ h)

/-- the sum of the first k powers of X that b names: Σ_{i<k} b_i X^i a -/
def psum (a b : R) : Nat → R
  | 0 => 0#40
  | k + 1 => psum a b k ^^^ (if b.getLsbD k then Xn k a else 0#40)
/-- Horner: from the i-th bit down -/
def horner (a b : R) : Nat → R → R
  | 0, o => o
  | k + 1, o => horner a b k (X o ^^^ (if b.getLsbD k then a else 0#40))
theorem horner_eq (a b : R) (k : Nat) : ∀ o, horner a b k o = Xn k o ^^^ psum a b k := by
  induction k with
  | zero => intro o; simp [horner, Xn, psum]
  | succ k ih => intro o; simp only [horner, ih, psum, Xn_xor, Xn_X, Xn_ite, Xn]; ac_rfl
def mul (a b : R) : R := horner a b 40 0#40
theorem mul_eq (a b : R) : mul a b = psum a b 40 := by
  unfold mul; rw [horner_eq, Xn_zero]; simp

theorem psum_xor_left (a a' b : R) (k : Nat) : psum (a ^^^ a') b k = psum a b k ^^^ psum a' b k := by
  induction k with
  | zero => simp [psum]
  | succ k ih =>
    simp only [psum, ih, Xn_xor]
    cases b.getLsbD k <;> simp <;> ac_rfl
theorem psum_xor_right (a b b' : R) (k : Nat) : psum a (b ^^^ b') k = psum a b k ^^^ psum a b' k := by
  induction k with
  | zero => simp [psum]
  | succ k ih =>
    simp only [psum, ih, BitVec.getLsbD_xor, ite_xor]
    ac_rfl
theorem psum_X_left (a b : R) (k : Nat) : psum (X a) b k = X (psum a b k) := by
  induction k with
  | zero => simp [psum, X_zero]
  | succ k ih => simp only [psum, ih, X_xor, X_ite, Xn_X]
theorem psum_Xn_left (n : Nat) (a b : R) (k : Nat) : psum (Xn n a) b k = Xn n (psum a b k) := by
  induction n with
  | zero => rfl
  | succ n ih => simp only [Xn, psum_X_left, ih]
theorem psum_zero_left (b : R) (k : Nat) : psum 0#40 b k = 0#40 := by
  induction k with
  | zero => rfl
  | succ k ih => simp [psum, ih, Xn_zero]
theorem psum_zero_right (a : R) (k : Nat) : psum a 0#40 k = 0#40 := by
  induction k with
  | zero => rfl
  | succ k ih => simp [psum, ih]

/-- the powers of X at 1 -/
theorem Xn_one (i : Nat) (h : i < 40) : Xn i 1#40 = 1#40 <<< i := by
  have : ∀ i : Fin 40, Xn i.val 1#40 = 1#40 <<< i.val := by decide
  exact this ⟨i, h⟩
theorem psum_one_bits (b : R) : ∀ k, k ≤ 40 → ∀ j, j < 40 → (psum 1#40 b k).getLsbD j = (decide (j < k) && b.getLsbD j) := by
  intro k
  induction k with
  | zero => intro _ j _; simp [psum]
  | succ k ih =>
    intro hk j hj
    simp only [psum, BitVec.getLsbD_xor, ih (by omega) j hj, Xn_one k (by omega)]
    by_cases hjk : j = k
    · subst hjk
      cases hb : b.getLsbD j <;> simp
      omega
    · cases hb : b.getLsbD k
      · by_cases h2 : j < k
        · simp [h2, show j < k + 1 from by omega]
        · simp [h2, show ¬ j < k + 1 from by omega]
      · by_cases h2 : j < k
        · simp [h2, show j < k + 1 from by omega]
        · simp [h2, show ¬ j < k + 1 from by omega, show ¬ j - k = 0 from by omega]
theorem psum_one (b : R) : psum 1#40 b 40 = b := by
  ext j hj
  rw [← BitVec.getLsbD_eq_getElem, psum_one_bits b 40 (by omega) j hj]
  simp [hj]

/-- a linear map that commutes with X goes through a sum of powers -/
theorem lin_psum (L : R → R) (h0 : L 0#40 = 0#40) (hx : ∀ a b, L (a ^^^ b) = L a ^^^ L b) (hX : ∀ a, L (X a) = X (L a)) (c b : R) (k : Nat) :
    L (psum c b k) = psum (L c) b k := by
  have hXn : ∀ n a, L (Xn n a) = Xn n (L a) := by
    intro n
    induction n with
    | zero => intro a; rfl
    | succ n ih => intro a; simp only [Xn, hX, ih]
  induction k with
  | zero => exact h0
  | succ k ih =>
    simp only [psum, hx, ih]
    cases b.getLsbD k <;> simp [h0, hXn]

set_option maxRecDepth 4000 in
theorem X40_one : Xn 40 1#40 = poly := by decide +kernel
/-- X fulfils its polynomial -/
theorem psum_poly (a : R) : psum a poly 40 = Xn 40 a := by
  have e : psum (psum 1#40 a 40) poly 40 = psum (psum 1#40 poly 40) a 40 :=
    lin_psum (fun c => psum c poly 40) (by simp [psum_zero_left]) (fun a b => psum_xor_left a b poly 40) (fun a => psum_X_left a poly 40) 1#40 a 40
  rw [psum_one, psum_one] at e
  rw [e, ← X40_one, psum_Xn_left, psum_one]

theorem psum_shl (a b : R) : ∀ k, k < 40 → psum a (b <<< 1) (k + 1) = X (psum a b k) := by
  intro k
  induction k with
  | zero => intro _; simp [psum, X_zero]
  | succ k ih =>
    intro hk
    rw [psum, ih (by omega)]
    simp only [psum, X_xor, X_ite, Xn]
    congr 1
    have : (b <<< 1).getLsbD (k + 1) = b.getLsbD k := by
      simp [BitVec.getLsbD_shiftLeft]; omega
    rw [this]

theorem mul_X_right (a b : R) : psum a (X b) 40 = X (psum a b 40) := by
  rw [show X b = (b <<< 1) ^^^ (if b.getLsbD 39 then poly else 0#40) from rfl, psum_xor_right, psum_shl a b 39 (by omega)]
  rw [show psum a b 40 = psum a b 39 ^^^ (if b.getLsbD 39 then Xn 39 a else 0#40) from rfl, X_xor, X_ite]
  congr 1
  cases b.getLsbD 39
  · simp [psum_zero_right]
  · simp only [if_true, psum_poly]; rfl
theorem mul_Xn_right (n : Nat) (a b : R) : psum a (Xn n b) 40 = Xn n (psum a b 40) := by
  induction n with
  | zero => rfl
  | succ n ih => simp only [Xn, mul_X_right, ih]
theorem psum_one_right (a : R) : ∀ k, 0 < k → psum a 1#40 k = a := by
  intro k hk
  induction k with
  | zero => omega
  | succ k ih =>
    rcases Nat.eq_zero_or_pos k with h | h
    · subst h; simp [psum, Xn]
    · rw [psum, ih h]; simp [show k ≠ 0 from by omega]

/-- multiplying by the power X^n -/
theorem mul_pow (n : Nat) (a : R) : mul a (Xn n 1#40) = Xn n a := by
  rw [mul_eq, mul_Xn_right, psum_one_right _ _ (by omega)]

/-- Join's loop: 'power' is X^m, and the rest of n is to come -/
def joinLoop : Nat → R → R → Nat → R
  | 0, o, _, _ => o
  | f + 1, o, p, n => if n = 0 then o else joinLoop f (if n % 2 = 1 then mul o p else o) (mul p p) (n / 2)
theorem joinLoop_eq : ∀ (f : Nat) (o : R) (m n : Nat), n < 2 ^ f → joinLoop f o (Xn m 1#40) n = Xn (m * n) o := by
  intro f
  induction f with
  | zero => intro o m n h; have : n = 0 := by omega
            subst this; simp [joinLoop, Xn]
  | succ f ih =>
    intro o m n h
    unfold joinLoop
    by_cases h0 : n = 0
    · simp [h0, Xn]
    · rw [if_neg h0, mul_pow, mul_pow, ← Xn_add, ih _ _ _ (by omega)]
      have e : m * n = (m + m) * (n / 2) + m * (n % 2) := by
        conv => lhs; rw [← Nat.div_add_mod n 2]
        rw [Nat.mul_add, ← Nat.mul_assoc, Nat.add_mul, Nat.mul_two, Nat.add_mul]
      rw [e, Xn_add]
      rcases Nat.mod_two_eq_zero_or_one n with h2 | h2
      · simp [h2, Xn]
      · simp [h2]

/-! messages as bits -/
def run (r : R) (l : List Bool) : R := l.foldl step r
theorem run_nil (r : R) : run r [] = r := rfl
theorem run_cons (r : R) (b : Bool) (l : List Bool) : run r (b :: l) = run (step r b) l := rfl
theorem run_append (r : R) (l m : List Bool) : run r (l ++ m) = run (run r l) m := by
  unfold run; rw [List.foldl_append]
theorem run_split (l : List Bool) : ∀ r, run r l = Xn l.length r ^^^ run 0#40 l := by
  induction l with
  | nil => intro r; simp [run, Xn]
  | cons b l ih =>
    intro r
    rw [run_cons, run_cons, ih (step r b), ih (step 0#40 b), step_eq, step_eq, X_zero, Xn_xor]
    simp only [List.length_cons, Xn, Xn_X, BitVec.zero_xor]
    ac_rfl
theorem run_zeros (n : Nat) (r : R) : run r (List.replicate n false) = Xn n r := by
  induction n generalizing r with
  | zero => rfl
  | succ n ih =>
    rw [List.replicate_succ, run_cons, ih, step_eq]
    simp [Xn, Xn_X]
def xorBits : List Bool → List Bool → List Bool := List.zipWith (fun a b => a ^^ b)
theorem step_xor (r s : R) (a b : Bool) : step (r ^^^ s) (a ^^ b) = step r a ^^^ step s b := by
  simp only [step_eq, X_xor, ite_xor]; ac_rfl
theorem run_xor : ∀ (l m : List Bool), l.length = m.length → ∀ r s, run (r ^^^ s) (xorBits l m) = run r l ^^^ run s m := by
  intro l
  induction l with
  | nil => intro m h r s; cases m with
    | nil => rfl
    | cons b m => simp at h
  | cons a l ih =>
    intro m h r s
    cases m with
    | nil => simp at h
    | cons b m =>
      show run (r ^^^ s) ((a ^^ b) :: xorBits l m) = _
      rw [run_cons, run_cons, run_cons, step_xor]
      exact ih m (by simpa using h) _ _

/-- the value of a list of bits, the last one first -/
def valR : List Bool → R
  | [] => 0#40
  | b :: t => X (valR t) ^^^ (if b then 1#40 else 0#40)
theorem run_valR (l : List Bool) : run 0#40 l.reverse = Xn 40 (valR l) := by
  induction l with
  | nil => simp [run, valR, Xn_zero]
  | cons b t ih =>
    rw [List.reverse_cons, run_append, ih, run_cons, run_nil, step_eq, valR, Xn_xor, Xn_X, Xn_ite, X40_one]
theorem valR_bits : ∀ (l : List Bool), l.length ≤ 40 → ∀ j, j < 40 → (valR l).getLsbD j = l.getD j false := by
  intro l
  induction l with
  | nil => intro _ j _; simp [valR]
  | cons b t ih =>
    intro h j hj
    have ih' := ih (by simp at h; omega)
    have h39 : (valR t).getLsbD 39 = false := by
      rw [ih' 39 (by omega), List.getD_eq_getElem?_getD, List.getElem?_eq_none (by simp at h; omega)]; rfl
    have e : X (valR t) = valR t <<< 1 := by unfold X; rw [h39]; simp
    rw [valR, e]
    cases j with
    | zero => cases b <;> simp
    | succ j =>
      have h1 := ih' j (by omega)
      have h2 : (valR t <<< 1).getLsbD (j + 1) = (valR t).getLsbD j := by
        rw [BitVec.getLsbD_shiftLeft]; simp [hj]
      rw [BitVec.getLsbD_xor, h2, h1]
      cases b <;> simp
/-- a burst: at most 40 bits, one of them set, does not go to 0 -/
theorem run_short (l : List Bool) (h : l.length ≤ 40) (h0 : run 0#40 l = 0#40) : ∀ b ∈ l, b = false := by
  have e : run 0#40 l = Xn 40 (valR l.reverse) := by rw [← run_valR, List.reverse_reverse]
  rw [e] at h0
  have hv := Xn_inj0 40 _ h0
  intro b hb
  have hb' : b ∈ l.reverse := by simpa using hb
  obtain ⟨j, hj, rfl⟩ := List.mem_iff_getElem.1 hb'
  have := valR_bits l.reverse (by simpa using h) j (by simp at hj; omega)
  rw [hv] at this
  simpa [List.getD_eq_getElem?_getD, List.getElem?_eq_getElem hj] using this.symm
theorem run_burst (k : Nat) (l : List Bool) (m : Nat) (h : l.length ≤ 40) (h0 : run 0#40 (List.replicate k false ++ l ++ List.replicate m false) = 0#40) : ∀ b ∈ l, b = false := by
  rw [run_append, run_append, run_zeros, run_zeros, Xn_zero] at h0
  exact run_short l h (Xn_inj0 _ _ h0)

end CrcMath
/- What the program's tables read as; numbers as bit vectors. -/
namespace Go.Proofs.YtkkmkfkgmioblaaDoor
open Go Go.RowKit Go.Lx

/-! ### types -/
theorem p_u64 : plainVar Tryd.prog 28 = true := by kernel_rfl
theorem p_u32 : plainVar Tryd.prog 49 = true := by kernel_rfl
theorem p_u8 : plainVar Tryd.prog 5 = true := by kernel_rfl
theorem p_int : plainVar Tryd.prog 3 = true := by kernel_rfl
theorem a_crc : aggVar Tryd.prog 30 = some 1 := by kernel_rfl
theorem s_crc : (Tryd.prog.info? 30).map (·.size) = some 1 := by kernel_rfl
theorem z_crc : zeroOf Tryd.prog 30 = some [.int .u64 0] := by kernel_rfl
theorem z_u8 : zeroOf Tryd.prog 5 = some [.int .u8 0] := by kernel_rfl
theorem i_u8 : (Tryd.prog.info? 5).map (fun i => (i.zero.map fun z => z.cells.toList, i.size, i.bytes)) = some (some [.int .u8 0], 1, 1) := by kernel_rfl
theorem s_u8 : (Tryd.prog.info? 5).map (·.size) = some 1 := by kernel_rfl
theorem u_bytes : Tryd.prog.underlying 22 = some (.slice 5) := by kernel_rfl
theorem u_u8 : Tryd.prog.underlying 5 = some (.int .u8) := by kernel_rfl
theorem u_string : Tryd.prog.underlying 9 = some .string := by kernel_rfl
theorem mixed : Tryd.prog.follows .mixedOrders = true := by kernel_rfl
theorem all1_nil : ∀ u ∈ ([] : List Value), u.one1 = true := fun _ h => (by cases h)
theorem all1_cons {v : Value} {l : List Value} (hv : v.one1 = true) (h : ∀ u ∈ l, u.one1 = true) : ∀ u ∈ v :: l, u.one1 = true := fun u hu => by
  rcases List.mem_cons.1 hu with rfl | hu
  · exact hv
  · exact h u hu

/-! ### numbers -/
abbrev U64 (x : BitVec 64) : Value := .int .u64 (x.toNat : Int)
abbrev U32 (x : BitVec 32) : Value := .int .u32 (x.toNat : Int)
abbrev U8 (x : BitVec 8) : Value := .int .u8 (x.toNat : Int)
abbrev reg (x : BitVec 40) : Value := .int .u64 (x.toNat : Int)

theorem wrap_u8 (n : Int) : IntKind.u8.wrap n = n % 256 := by simp [IntKind.wrap, IntKind.bits, IntKind.signed]
theorem wrap_u32 (n : Int) : IntKind.u32.wrap n = n % 4294967296 := by simp [IntKind.wrap, IntKind.bits, IntKind.signed]
theorem wrap_u64 (n : Int) : IntKind.u64.wrap n = n % 18446744073709551616 := by simp [IntKind.wrap, IntKind.bits, IntKind.signed]

theorem bits_nat_u64 (op : BinOp) (a b : Nat) (ha : a < 2 ^ 64) (hb : b < 2 ^ 64) :
    bits op .u64 (a : Int) (b : Int) = (((match op with | .and => BitVec.ofNat 64 a &&& BitVec.ofNat 64 b | .or => BitVec.ofNat 64 a ||| BitVec.ofNat 64 b | .xor => BitVec.ofNat 64 a ^^^ BitVec.ofNat 64 b | _ => BitVec.ofNat 64 a &&& ~~~(BitVec.ofNat 64 b)) : BitVec 64).toNat : Int) := by
  unfold bits
  rw [wrap_u64]
  have e1 : BitVec.ofInt IntKind.u64.bits (a : Int) = BitVec.ofNat 64 a := BitVec.ofInt_natCast _ _
  have e2 : BitVec.ofInt IntKind.u64.bits (b : Int) = BitVec.ofNat 64 b := BitVec.ofInt_natCast _ _
  simp only [e1, e2]
  rw [Int.emod_eq_of_lt (by omega)]
  · rfl
  · exact Int.ofNat_lt.2 (BitVec.isLt _)

/-! ### the tables -/
def kTab : List Nat := [0x428a2f98, 0x71374491, 0xb5c0fbcf, 0xe9b5dba5, 0x3956c25b, 0x59f111f1, 0x923f82a4, 0xab1c5ed5, 0xd807aa98, 0x12835b01, 0x243185be, 0x550c7dc3, 0x72be5d74, 0x80deb1fe, 0x9bdc06a7, 0xc19bf174,
  0xe49b69c1, 0xefbe4786, 0x0fc19dc6, 0x240ca1cc, 0x2de92c6f, 0x4a7484aa, 0x5cb0a9dc, 0x76f988da, 0x983e5152, 0xa831c66d, 0xb00327c8, 0xbf597fc7, 0xc6e00bf3, 0xd5a79147, 0x06ca6351, 0x14292967,
  0x27b70a85, 0x2e1b2138, 0x4d2c6dfc, 0x53380d13, 0x650a7354, 0x766a0abb, 0x81c2c92e, 0x92722c85, 0xa2bfe8a1, 0xa81a664b, 0xc24b8b70, 0xc76c51a3, 0xd192e819, 0xd6990624, 0xf40e3585, 0x106aa070,
  0x19a4c116, 0x1e376c08, 0x2748774c, 0x34b0bcb5, 0x391c0cb3, 0x4ed8aa4a, 0x5b9cca4f, 0x682e6ff3, 0x748f82ee, 0x78a5636f, 0x84c87814, 0x8cc70208, 0x90befffa, 0xa4506ceb, 0xbef9a3f7, 0xc67178f2]
/-- round constants -/
def kc (j : Nat) : BitVec 32 := BitVec.ofNat 32 (kTab.getD j 0)
/-- the number of a word: no lemma of the walk opens it -/
def w32 (x : BitVec 32) : Int := x.toNat
abbrev W32 (x : BitVec 32) : Value := .int .u32 (w32 x)
structure Tab (w : World) : Prop where
  nib : ∀ j, j < 16 → w.cell? ⟨1, j, none⟩ = some (.int .u64 (CrcMath.tab.getD j 0 : Nat))
  kcs : ∀ j, j < 64 → w.cell? ⟨2, j, none⟩ = some (W32 (kc j))
theorem Tab.below {w w' : World} (h : Tab w) (hb : Below w.heap.size w w') : Tab w' :=
  have hs : Sees w w' [] := Sees.mk hb (fun _ h => (by cases h)) (fun _ h => (by cases h)) List.nodup_nil
  ⟨fun j hj => hs.old (h.nib j hj), fun j hj => hs.old (h.kcs j hj)⟩
/-- the specification's own table -/
def TabR (w : World) : Prop := ∀ j, j < 64 → w.cell? ⟨0, j, none⟩ = some (W32 (kc j))
theorem TabR.below {w w' : World} (h : TabR w) (hb : Below w.heap.size w w') : TabR w' :=
  have hs : Sees w w' [] := Sees.mk hb (fun _ h => (by cases h)) (fun _ h => (by cases h)) List.nodup_nil
  fun j hj => hs.old (h j hj)
theorem TabR.since {w w' : World} {L : List Blk} (h : TabR w) (hL : Sees w w' L) : TabR w' := h.below hL.below

theorem Tab.since {w w' : World} {L : List Blk} (h : Tab w) (hL : Sees w w' L) : Tab w' := h.below hL.below
end Go.Proofs.YtkkmkfkgmioblaaDoor
