/- One text out of: Pu1, Pu, Pw, Pb. -/
import Derived.Test.YticponffemffnaaDoorXA
import Derived.Test.YticponffemffnaaDoorP2
import Derived.Test.YticponffemffnaaDoorP3
import Derived.Test.YticponffemffnaaDoorP5
import Derived.Test.YticponffemffnaaDoorCheckedLc
import Derived.Test.YticponffemffnaaDoorCheckedLf0
import Derived.Test.YticponffemffnaaDoorCheckedLf1
import Derived.Test.YticponffemffnaaDoorCheckedLf2
import Derived.Test.YticponffemffnaaDoorCheckedLf3
import Derived.Test.YticponffemffnaaDoorProg
import Derived.Test.YticponffemffnaaDoorWA
import Derived.Test.YticponffemffnaaDoorWB
import Derived.Test.YticponffemffnaaDoorP0
import Derived.Test.YticponffemffnaaDoorK
import Derived.Test.YticponffemffnaaDoorP1
import Derived.Test.YticponffemffnaaDoorP8
import Derived.Test.YticponffemffnaaDoorP13
section
set_option linter.unusedVariables false
set_option linter.unusedSimpArgs false
namespace Go.Proofs.YticponffemffnaaDoor.Pure
open Go Go.RowKit Go.Lx Go.Proofs.YticponffemffnaaDoor Go.Proofs.YticponffemffnaaDoor.P Go.Proofs.YticponffemffnaaDoor.Ext Go.Proofs.YticponffemffnaaDoorW.PrintWords Go.Proofs.YticponffemffnaaDoorW.PrintLast
def big : Nat := 9223372036854775807
theorem rd_at (a : List Int) (i : Nat) (h : i < a.length) : rd a (i : Int) = a[i] := by
  unfold rd; rw [Int.toNat_natCast, List.getD_eq_getElem?_getD, List.getElem?_eq_getElem h]; rfl
theorem rl_at (a : List (List Int)) (i : Nat) (h : i < a.length) : rd_L1 a (i : Int) = a[i] := by
  unfold rd_L1; rw [Int.toNat_natCast, List.getD_eq_getElem?_getD, List.getElem?_eq_getElem h]; rfl
theorem rr_at (a : List S45) (i : Nat) (h : i < a.length) : rd_T45 a (i : Int) = a[i] := rd_T45_at a i h
theorem wr (i n : Nat) (h : i < n) (hn : n ≤ big) : wrap64 ((i : Int) + 1) = ((i + 1 : Nat) : Int) := by unfold big at hn; unfold wrap64; omega
/-- one round, and what is left -/
theorem Ev.to {α : Type} {g f : Nat → Option α} {r r' : α} (hg : ∀ k, g (k + 1) = f k) (hf : Ev f r') (h : r' = r) : Ev g r := h ▸ Ev.step hg hf
theorem Ev.done {α : Type} {g : Nat → Option α} {r : α} (hg : ∀ k, g (k + 1) = some r) : Ev g r := Ev.step (f := fun _ => some r) hg (Ev.now r)
end Go.Proofs.YticponffemffnaaDoor.Pure
end
section
set_option linter.unusedVariables false
set_option linter.unusedSimpArgs false
namespace Go.Proofs.YticponffemffnaaDoor.Pure
open Go Go.RowKit Go.Lx Go.Proofs.YticponffemffnaaDoor Go.Proofs.YticponffemffnaaDoor.P Go.Proofs.YticponffemffnaaDoor.Ext Go.Proofs.YticponffemffnaaDoorW.PrintWords Go.Proofs.YticponffemffnaaDoorW.PrintLast
def inB (x : Int) : Bool := decide (-1000 ≤ x) && decide (x ≤ 1000)
def v04 (l : List Int) : Bool := l.all inB && decide (1 ≤ l.length) && decide (l.length ≤ 32)
theorem v04_l (l : List Int) (hl : l.length ≤ big) (d : Nat) : ∀ i : Nat, l.length - i = d → i ≤ l.length → Ev (fun k => antiquaryref04_Valid.l0 k l (i : Int)) ((l.drop i).all inB && decide (1 ≤ l.length) && decide (l.length ≤ 32)) := by
  induction d with
  | zero =>
    intro i hd hi
    refine Ev.done fun k => ?_
    simp only [antiquaryref04_Valid.l0]
    rw [if_neg (by omega), List.drop_of_length_le (by omega)]
    by_cases h1 : (l.length : Int) ≥ 1
    · have e : decide (1 ≤ l.length) = true := decide_eq_true (by omega)
      have e2 : decide ((l.length : Int) ≤ 32) = decide (l.length ≤ 32) := decide_eq_decide.2 (by omega)
      rw [if_pos h1, e, e2]; simp
    · have e : decide (1 ≤ l.length) = false := decide_eq_false (by omega)
      rw [if_neg h1, e]; simp
  | succ d ih =>
    intro i hd hi
    have hlt : i < l.length := by omega
    have e : (l.drop i).all inB = (inB l[i] && (l.drop (i + 1)).all inB) := by rw [List.drop_eq_getElem_cons hlt]; rfl
    by_cases h1 : l[i] < -1000
    · refine Ev.to (f := fun _ => some false) (fun k => ?_) (Ev.now _) ?_
      · simp only [antiquaryref04_Valid.l0]
        rw [if_pos (by omega), if_pos (by omega), rd_at l i hlt, if_pos h1]
      · have : inB l[i] = false := by unfold inB; simp; omega
        rw [e, this]; simp
    · by_cases h2 : l[i] > 1000
      · refine Ev.to (f := fun _ => some false) (fun k => ?_) (Ev.now _) ?_
        · simp only [antiquaryref04_Valid.l0]
          rw [if_pos (by omega), if_pos (by omega), rd_at l i hlt, if_neg h1, if_pos h2]
        · have : inB l[i] = false := by unfold inB; simp; omega
          rw [e, this]; simp
      · refine Ev.to (fun k => ?_) (ih (i + 1) (by omega) (by omega)) ?_
        · simp only [antiquaryref04_Valid.l0]
          rw [if_pos (by omega), if_pos (by omega), rd_at l i hlt, if_neg h1, if_neg h2, wr i _ hlt hl]
        · rw [e]
          have : inB l[i] = true := by unfold inB; simp; omega
          rw [this]; simp
theorem v04_f (l : List Int) (hl : l.length ≤ big) : Ev (fun k => antiquaryref04_Valid.f k l) (v04 l) := v04_l l hl l.length 0 (by omega) (by omega)
theorem v04_iff {l : List Int} (h : v04 l = true) : (∀ x ∈ l, -1000 ≤ x ∧ x ≤ 1000) ∧ 1 ≤ l.length ∧ l.length ≤ 32 := by
  unfold v04 inB at h
  simp at h
  exact ⟨fun x hx => h.1.1 x hx, h.1.2, h.2⟩
def narrow (x : Int) : Bool := !wideB x
theorem steep_l (l : List Int) (m : Int) (hl : l.length ≤ big) (d : Nat) : ∀ (i : Nat) (b : Bool), l.length - i = d → i ≤ l.length → Ev (fun k => antiquaryref07_steep.l0 k l m b (i : Int)) ((l.drop i).all narrow && (b || (l.drop i).any nzB) && ((l.length : Int) == m)) := by
  induction d with
  | zero =>
    intro i b hd hi
    refine Ev.done fun k => ?_
    simp only [antiquaryref07_steep.l0]
    rw [if_neg (by omega), List.drop_of_length_le (by omega)]
    cases b <;> simp
  | succ d ih =>
    intro i b hd hi
    have hlt : i < l.length := by omega
    have e1 : (l.drop i).all narrow = (narrow l[i] && (l.drop (i + 1)).all narrow) := by rw [List.drop_eq_getElem_cons hlt]; rfl
    have e2 : (l.drop i).any nzB = (nzB l[i] || (l.drop (i + 1)).any nzB) := by rw [List.drop_eq_getElem_cons hlt]; rfl
    by_cases h1 : l[i] < -16
    · refine Ev.to (f := fun _ => some false) (fun k => ?_) (Ev.now _) ?_
      · simp only [antiquaryref07_steep.l0]
        rw [if_pos (by omega), if_pos (by omega), rd_at l i hlt, if_pos h1]
      · rw [e1]; unfold narrow wideB; simp [h1]
    · by_cases h2 : l[i] > 16
      · refine Ev.to (f := fun _ => some false) (fun k => ?_) (Ev.now _) ?_
        · simp only [antiquaryref07_steep.l0]
          rw [if_pos (by omega), if_pos (by omega), rd_at l i hlt, if_neg h1, if_pos h2]
        · have : wideB l[i] = true := by unfold wideB; simp; omega
          rw [e1]; unfold narrow; rw [this]; simp
      · have hn : narrow l[i] = true := by unfold narrow wideB; simp; omega
        refine Ev.to (fun k => ?_) (ih (i + 1) (b || nzB l[i]) (by omega) (by omega)) ?_
        · simp only [antiquaryref07_steep.l0]
          rw [if_pos (by omega), if_pos (by omega), rd_at l i hlt, if_neg h1, if_neg h2, wr i _ hlt hl]
          cases b <;> simp [nzB]
        · rw [e1, e2, hn]; simp [Bool.or_assoc]
theorem steep_f (l : List Int) (m : Int) (hl : l.length ≤ big) : Ev (fun k => antiquaryref07_steep.f k l m) (!badRow m l) := by
  have := steep_l l m hl l.length 0 false (by omega) (by omega)
  have e : (!badRow m l) = (((l.drop 0).all narrow && (false || (l.drop 0).any nzB) && ((l.length : Int) == m))) := by
    unfold badRow narrow
    rw [Bool.not_or, Bool.not_or, List.not_any_eq_all_not, List.drop_zero]
    simp only [Bool.not_not, Bool.false_or, bne]
    cases ((l.length : Int) == m) <;> cases (l.all fun x => !wideB x) <;> cases l.any nzB <;> rfl
  rw [e]; exact this
theorem valid_l (l : List (List Int)) (m : Int) (hl : l.length ≤ big) (hr : ∀ r ∈ l, r.length ≤ big) (d : Nat) : ∀ i : Nat, l.length - i = d → i ≤ l.length → Ev (fun k => antiquaryref07_Valid.l0 k l m (i : Int)) (!(l.drop i).any (badRow m)) := by
  induction d with
  | zero =>
    intro i hd hi
    refine Ev.done fun k => ?_
    simp only [antiquaryref07_Valid.l0]
    rw [if_neg (by omega), List.drop_of_length_le (by omega)]
    rfl
  | succ d ih =>
    intro i hd hi
    have hlt : i < l.length := by omega
    have e : (l.drop i).any (badRow m) = (badRow m l[i] || (l.drop (i + 1)).any (badRow m)) := by rw [List.drop_eq_getElem_cons hlt]; rfl
    have hs := steep_f l[i] m (hr _ (List.getElem_mem hlt))
    have hrd := rl_at l i hlt
    have hnext := ih (i + 1) (by omega) (by omega)
    generalize l[i] = x at e hs hrd
    rw [e]
    refine Ev.step (f := fun k => (antiquaryref07_steep.f k x m).bind fun t => if t = true then antiquaryref07_Valid.l0 k l m ((i + 1 : Nat) : Int) else some false) (fun k => ?_) (Ev.bind hs ?_)
    · simp only [antiquaryref07_Valid.l0]
      rw [if_pos (by omega), if_pos (by omega), hrd, wr i _ hlt hl]
    · cases badRow m x
      · simpa using hnext
      · exact Ev.now false
theorem valid_f (l : List (List Int)) (m : Int) (hl : l.length ≤ big) (hr : ∀ r ∈ l, r.length ≤ big) : Ev (fun k => antiquaryref07_Valid.f k l m) (validV l m) := by
  have h0 := valid_l l m hl hr l.length 0 (by omega) (by omega)
  have hF : ∀ b : Bool, Ev (fun k => antiquaryref07_Valid.j0 k l m b) (if b then false else !l.any (badRow m)) := fun b => by
    cases b
    · refine Ev.to (fun k => ?_) h0 rfl
      simp only [antiquaryref07_Valid.j0]; rfl
    · exact Ev.done fun k => by simp only [antiquaryref07_Valid.j0]; rfl
  unfold antiquaryref07_Valid.f
  by_cases h1 : m < 1
  · have e : validV l m = false := by unfold validV; simp; omega
    rw [e]; simp only [if_pos h1]; exact hF true
  · by_cases h2 : m > 32
    · have e : validV l m = false := by unfold validV; simp; omega
      rw [e]; simp only [if_neg h1, if_pos h2]; exact hF true
    · by_cases h3 : (l.length : Int) < 1
      · have e : validV l m = false := by unfold validV; simp; omega
        rw [e]; simp only [if_neg h1, if_neg h2, if_pos h3]; exact hF true
      · simp only [if_neg h1, if_neg h2, if_neg h3]
        by_cases h4 : (l.length : Int) > 8
        · have e : validV l m = false := by unfold validV; simp; omega
          have e2 : decide ((l.length : Int) > 8) = true := decide_eq_true h4
          rw [e, e2]; exact hF true
        · have e : validV l m = !l.any (badRow m) := by unfold validV; simp; omega
          have e2 : decide ((l.length : Int) > 8) = false := decide_eq_false h4
          rw [e, e2]; exact hF false
theorem validV_iff {l : List (List Int)} {m : Int} (h : validV l m = true) : 1 ≤ m ∧ m ≤ 32 ∧ 1 ≤ l.length ∧ l.length ≤ 8 ∧ ∀ r ∈ l, (r.length : Int) = m ∧ (∀ x ∈ r, -16 ≤ x ∧ x ≤ 16) ∧ ∃ x ∈ r, x ≠ 0 := by
  unfold validV at h
  simp only [Bool.and_eq_true, decide_eq_true_eq, Bool.not_eq_true'] at h
  obtain ⟨⟨⟨⟨h1, h2⟩, h3⟩, h4⟩, h5⟩ := h
  refine ⟨h1, h2, h3, h4, fun r hr => ?_⟩
  have h6 : badRow m r = false := by
    cases hb : badRow m r with
    | false => rfl
    | true => rw [List.any_eq_true.2 ⟨r, hr, hb⟩] at h5; cases h5
  unfold badRow at h6
  simp only [Bool.or_eq_false_iff, Bool.not_eq_false'] at h6
  obtain ⟨⟨h7, h8⟩, h9⟩ := h6
  refine ⟨by simpa using h7, fun x hx => ?_, ?_⟩
  · have : wideB x = false := by
      cases hb : wideB x with
      | false => rfl
      | true => rw [List.any_eq_true.2 ⟨x, hx, hb⟩] at h8; cases h8
    unfold wideB at this
    simp at this
    omega
  · obtain ⟨x, hx, hz⟩ := List.any_eq_true.1 h9
    exact ⟨x, hx, by simpa [nzB] using hz⟩
end Go.Proofs.YticponffemffnaaDoor.Pure
end
section
set_option linter.unusedVariables false
set_option linter.unusedSimpArgs false
namespace Go.Proofs.YticponffemffnaaDoor.Pure
open Go Go.RowKit Go.Lx Go.Proofs.YticponffemffnaaDoor Go.Proofs.YticponffemffnaaDoor.P Go.Proofs.YticponffemffnaaDoor.Ext Go.Proofs.YticponffemffnaaDoorW.PrintWords Go.Proofs.YticponffemffnaaDoorW.PrintLast
theorem w64 {n : Int} (h1 : -4611686018427387904 ≤ n) (h2 : n ≤ 4611686018427387904) : wrap64 n = n := by unfold wrap64; omega
def rightR (r : S45) : Bool := decide (r.f0 ≤ r.f1) && decide (-1073741824 ≤ r.f0) && decide (r.f1 ≤ 1073741824)
def rangesB (r : List S45) (n : Int) : Bool := r.all rightR && ((r.length : Int) == n)
theorem ranges_l (r : List S45) (m : Int) (hl : r.length ≤ big) (d : Nat) : ∀ i : Nat, r.length - i = d → i ≤ r.length → Ev (fun k => antiquaryref07_Ranges.l0 k r m (i : Int)) ((r.drop i).all rightR && ((r.length : Int) == m)) := by
  induction d with
  | zero =>
    intro i hd hi
    refine Ev.done fun k => ?_
    simp only [antiquaryref07_Ranges.l0]
    rw [if_neg (by omega), List.drop_of_length_le (by omega)]
    simp
  | succ d ih =>
    intro i hd hi
    have hlt : i < r.length := by omega
    have e : (r.drop i).all rightR = (rightR r[i] && (r.drop (i + 1)).all rightR) := by rw [List.drop_eq_getElem_cons hlt]; rfl
    have er := rr_at r i hlt
    by_cases h1 : r[i].f0 > r[i].f1
    · have : rightR r[i] = false := by unfold rightR; simp; omega
      rw [e, this]
      refine Ev.done fun k => ?_
      simp only [antiquaryref07_Ranges.l0]
      rw [if_pos (by omega), if_pos (by omega), er, if_pos h1]; simp
    · by_cases h2 : r[i].f0 < -1073741824
      · have : rightR r[i] = false := by unfold rightR; simp; omega
        rw [e, this]
        refine Ev.done fun k => ?_
        simp only [antiquaryref07_Ranges.l0]
        rw [if_pos (by omega), if_pos (by omega), er, if_neg h1, if_pos h2]; simp
      · by_cases h3 : r[i].f1 > 1073741824
        · have : rightR r[i] = false := by unfold rightR; simp; omega
          rw [e, this]
          refine Ev.done fun k => ?_
          simp only [antiquaryref07_Ranges.l0]
          rw [if_pos (by omega), if_pos (by omega), er, if_neg h1, if_neg h2, if_pos h3]; simp
        · have : rightR r[i] = true := by unfold rightR; simp; omega
          rw [e, this, Bool.true_and]
          refine Ev.step (fun k => ?_) (ih (i + 1) (by omega) (by omega))
          simp only [antiquaryref07_Ranges.l0]
          rw [if_pos (by omega), if_pos (by omega), er, if_neg h1, if_neg h2, if_neg h3, wr i _ hlt hl]
theorem ranges_f (r : List S45) (m : Int) (hl : r.length ≤ big) : Ev (fun k => antiquaryref07_Ranges.f k r m) (rangesB r m) := ranges_l r m hl r.length 0 (by omega) (by omega)
theorem rangesB_iff {r : List S45} {n : Int} (h : rangesB r n = true) : (r.length : Int) = n ∧ ∀ x ∈ r, x.f0 ≤ x.f1 ∧ -1073741824 ≤ x.f0 ∧ x.f1 ≤ 1073741824 := by
  unfold rangesB rightR at h
  simp at h
  exact ⟨h.2, fun x hx => by have := h.1 x hx; omega⟩
def metB (m : Int) : Bool := decide (1 ≤ m) && decide (m ≤ 3)
theorem metric_f (m : Int) : antiquaryref04_Metric.f m = some (metB m) := by
  unfold antiquaryref04_Metric.f metB
  by_cases h : m ≥ 1
  · rw [if_pos h]; simp; omega
  · rw [if_neg h]; simp; omega
def absI (x : Int) : Int := if x < 0 then -x else x
def dotE : List Int → List Int → Int
  | a :: s, b :: t => a * b + dotE s t
  | _, _ => 0
def sumE : List Int → Int
  | [] => 0
  | a :: s => absI a + sumE s
def sqE : List Int → Int
  | [] => 0
  | a :: s => a * a + sqE s
def maxE : List Int → Int
  | [] => 0
  | a :: s => mx (absI a) (maxE s)
theorem absI_le {x b : Int} (h : -b ≤ x ∧ x ≤ b) : 0 ≤ absI x ∧ absI x ≤ b := by unfold absI; split <;> omega
theorem mul_le' {x y a b : Int} (hx : -a ≤ x ∧ x ≤ a) (hy : -b ≤ y ∧ y ≤ b) (hb : 0 ≤ b) : -(a * b) ≤ x * y ∧ x * y ≤ a * b := by
  have ha : 0 ≤ a := by omega
  have h1 : absI x * absI y ≤ a * b := Int.mul_le_mul (absI_le hx).2 (absI_le hy).2 (absI_le hy).1 ha
  have h2 : x * y ≤ absI x * absI y ∧ -(absI x * absI y) ≤ x * y := by
    unfold absI
    split <;> split
    · rw [Int.neg_mul_neg]
      have : 0 ≤ x * y := Int.mul_nonneg_of_nonpos_of_nonpos (by omega) (by omega)
      omega
    · rw [Int.neg_mul]
      have : x * y ≤ 0 := Int.mul_nonpos_of_nonpos_of_nonneg (by omega) (by omega)
      omega
    · rw [Int.mul_neg]
      have : x * y ≤ 0 := Int.mul_nonpos_of_nonneg_of_nonpos (by omega) (by omega)
      omega
    · have : 0 ≤ x * y := Int.mul_nonneg (by omega) (by omega)
      omega
  omega
/-- no product of such lists wraps: n + p: what is added -/
theorem dot_fold (A B : Int) (hA : 0 ≤ A) (hB : 0 ≤ B) (hAB : A * B ≤ 1000000000000) : ∀ (a b : List Int), (∀ x ∈ a, -A ≤ x ∧ x ≤ A) → (∀ x ∈ b, -B ≤ x ∧ x ≤ B) → ∀ n : Int, ∀ M : Nat, a.length ≤ M → M ≤ 100000 → -(1000000000000 * (100000 - M)) ≤ n → n ≤ 1000000000000 * (100000 - M) →
    (a.zip b).foldl (fun n p => wrap64 (n + wrap64 (p.1 * p.2))) n = n + dotE a b
  | [], b, _, _, n, M, _, _, _, _ => by simp [dotE]
  | x :: a, [], _, _, n, M, _, _, _, _ => by simp [dotE]
  | x :: a, y :: b, ha, hb, n, M, hM, hM2, h1, h2 => by
    obtain ⟨p1, p2⟩ := mul_le' (ha x (.head _)) (hb y (.head _)) hB
    have hM' : 1 ≤ M := by simp only [List.length_cons] at hM; omega
    rw [List.zip_cons_cons, List.foldl_cons]
    simp only [dotE]
    rw [w64 (n := x * y) (by omega) (by omega), w64 (n := n + x * y) (by omega) (by omega),
      dot_fold A B hA hB hAB a b (fun z hz => ha z (.tail _ hz)) (fun z hz => hb z (.tail _ hz)) _ (M - 1) (by simp only [List.length_cons] at hM; omega) (by omega) (by omega) (by omega)]
    omega
theorem dotV_exact (A B : Int) (hA : 0 ≤ A) (hB : 0 ≤ B) (hAB : A * B ≤ 1000000000000) (a b : List Int) (hl : a.length ≤ 100000) (ha : ∀ x ∈ a, -A ≤ x ∧ x ≤ A) (hb : ∀ x ∈ b, -B ≤ x ∧ x ≤ B) : dotV a b = dotE a b := by
  have := dot_fold A B hA hB hAB a b ha hb 0 100000 hl (by omega) (by omega) (by omega)
  unfold dotV
  rw [this]; omega
theorem dotE_le (A B : Int) (hA : 0 ≤ A) (hB : 0 ≤ B) : ∀ (a b : List Int), (∀ x ∈ a, -A ≤ x ∧ x ≤ A) → (∀ x ∈ b, -B ≤ x ∧ x ≤ B) → -(A * B * a.length) ≤ dotE a b ∧ dotE a b ≤ A * B * a.length
  | [], b, _, _ => by simp [dotE]
  | x :: a, [], _, _ => by
    have : 0 ≤ A * B := Int.mul_nonneg hA hB
    have : 0 ≤ A * B * ((x :: a).length : Int) := Int.mul_nonneg this (by omega)
    simp only [dotE]; omega
  | x :: a, y :: b, ha, hb => by
    obtain ⟨p1, p2⟩ := mul_le' (ha x (.head _)) (hb y (.head _)) hB
    obtain ⟨q1, q2⟩ := dotE_le A B hA hB a b (fun z hz => ha z (.tail _ hz)) (fun z hz => hb z (.tail _ hz))
    simp only [dotE, List.length_cons, Int.natCast_add, Int.natCast_one, Int.mul_add, Int.mul_one]
    omega
theorem norm_fold1 (A : Int) (hA : A ≤ 1000000000000) : ∀ (l : List Int), (∀ x ∈ l, -A ≤ x ∧ x ≤ A) → ∀ n : Int, ∀ M : Nat, l.length ≤ M → M ≤ 100000 → 0 ≤ n → n ≤ 1000000000000 * (100000 - M) → l.foldl nS n = n + sumE l
  | [], _, n, M, _, _, _, _ => by simp [sumE]
  | x :: l, h, n, M, hM, hM2, h1, h2 => by
    have hx := h x (.head _)
    obtain ⟨a1, a2⟩ := absI_le hx
    have hM' : 1 ≤ M := by simp only [List.length_cons] at hM; omega
    have e : nS n x = n + absI x := by
      unfold nS mx
      rw [w64 (n := -x) (by omega) (by omega)]
      have : (if x < -x then -x else x) = absI x := by unfold absI; split <;> split <;> omega
      rw [this, w64 (by omega) (by omega)]
    rw [List.foldl_cons, e, norm_fold1 A hA l (fun z hz => h z (.tail _ hz)) _ (M - 1) (by simp only [List.length_cons] at hM; omega) (by omega) (by omega) (by omega)]
    simp only [sumE]; omega
theorem norm_fold2 (A : Int) (h0 : 0 ≤ A) (hA : A * A ≤ 1000000000000) : ∀ (l : List Int), (∀ x ∈ l, -A ≤ x ∧ x ≤ A) → ∀ n : Int, ∀ M : Nat, l.length ≤ M → M ≤ 100000 → 0 ≤ n → n ≤ 1000000000000 * (100000 - M) → l.foldl nE n = n + sqE l
  | [], _, n, M, _, _, _, _ => by simp [sqE]
  | x :: l, h, n, M, hM, hM2, h1, h2 => by
    have hx := h x (.head _)
    obtain ⟨p1, p2⟩ := mul_le' hx hx h0
    have hs : 0 ≤ x * x := by
      rcases Int.le_total 0 x with hx | hx
      · exact Int.mul_nonneg hx hx
      · exact Int.mul_nonneg_of_nonpos_of_nonpos hx hx
    have hM' : 1 ≤ M := by simp only [List.length_cons] at hM; omega
    have e : nE n x = n + x * x := by
      unfold nE
      rw [w64 (n := x * x) (by omega) (by omega), w64 (by omega) (by omega)]
    rw [List.foldl_cons, e, norm_fold2 A h0 hA l (fun z hz => h z (.tail _ hz)) _ (M - 1) (by simp only [List.length_cons] at hM; omega) (by omega) (by omega) (by omega)]
    simp only [sqE]; omega
theorem maxE_nn : ∀ l : List Int, 0 ≤ maxE l
  | [] => by simp [maxE]
  | a :: s => by have := maxE_nn s; unfold maxE mx; split <;> omega
theorem norm_fold3 (A : Int) (hA : A ≤ 1000000000000) : ∀ (l : List Int), (∀ x ∈ l, -A ≤ x ∧ x ≤ A) → ∀ n : Int, 0 ≤ n → l.foldl nM n = mx n (maxE l)
  | [], _, n, h => by
    have : mx n (maxE []) = n := by unfold mx; exact if_neg (show ¬ n < 0 by omega)
    rw [this]; rfl
  | x :: l, h, n, h1 => by
    have hx := h x (.head _)
    obtain ⟨a1, a2⟩ := absI_le hx
    have e : nM n x = mx n (absI x) := by
      unfold nM mx absI
      rw [w64 (n := -x) (by omega) (by omega)]
      split <;> split <;> split <;> (try split) <;> omega
    have hn : 0 ≤ nM n x := by rw [e]; unfold mx; split <;> omega
    rw [List.foldl_cons, norm_fold3 A hA l (fun z hz => h z (.tail _ hz)) _ hn, e]
    simp only [maxE]
    have := maxE_nn l
    unfold mx
    split <;> split <;> (try split) <;> (try split) <;> omega
/-- the norms, exactly -/
def normX (m : Int) (l : List Int) : Int := if m = 1 then sumE l else if m = 2 then sqE l else maxE l
theorem normV_exact (m A : Int) (h0 : 0 ≤ A) (hA : A * A ≤ 1000000000000) (l : List Int) (hl : l.length ≤ 100000) (h : ∀ x ∈ l, -A ≤ x ∧ x ≤ A) : normV m l = normX m l := by
  have hA1 : A ≤ 1000000000000 := by
    rcases Int.lt_or_le A 1 with h | h
    · omega
    · have : A * 1 ≤ A * A := Int.mul_le_mul_of_nonneg_left h h0
      omega
  unfold normV normF normX
  split
  · rw [norm_fold1 A hA1 l h 0 100000 hl (by omega) (by omega) (by omega)]; omega
  · split
    · rw [norm_fold2 A h0 hA l h 0 100000 hl (by omega) (by omega) (by omega)]; omega
    · rw [norm_fold3 A hA1 l h 0 (by omega)]
      unfold mx; have := maxE_nn l; split <;> omega
structure Line (l : List Int) (n : Nat) : Prop where
  len : l.length = n
  dim : 1 ≤ n ∧ n ≤ 32
  bd : ∀ x ∈ l, -16 ≤ x ∧ x ≤ 16
  nz : ∃ x ∈ l, x ≠ 0
theorem valid_line {lines : List (List Int)} {n : Nat} (h : validV lines (n : Int) = true) : 1 ≤ lines.length ∧ lines.length ≤ 8 ∧ ∀ l ∈ lines, Line l n := by
  obtain ⟨h1, h2, h3, h4, h5⟩ := validV_iff h
  refine ⟨h3, h4, fun l hl => ?_⟩
  obtain ⟨a, b, c⟩ := h5 l hl
  exact ⟨by omega, ⟨by omega, by omega⟩, b, c⟩
theorem sumE_pos : ∀ l : List Int, 0 ≤ sumE l ∧ ((∃ x ∈ l, x ≠ 0) → 0 < sumE l)
  | [] => ⟨by simp [sumE], fun ⟨x, hx, _⟩ => by cases hx⟩
  | a :: s => by
    obtain ⟨h1, h2⟩ := sumE_pos s
    have h3 : 0 ≤ absI a := by unfold absI; split <;> omega
    refine ⟨by simp only [sumE]; omega, fun ⟨x, hx, hz⟩ => ?_⟩
    simp only [sumE]
    rcases List.mem_cons.1 hx with rfl | hx
    · have : 0 < absI x := by unfold absI; split <;> omega
      omega
    · have := h2 ⟨x, hx, hz⟩; omega
theorem sq_nn (x : Int) : 0 ≤ x * x := by
  rcases Int.le_total 0 x with hx | hx
  · exact Int.mul_nonneg hx hx
  · exact Int.mul_nonneg_of_nonpos_of_nonpos hx hx
theorem sq_pos {x : Int} (h : x ≠ 0) : 0 < x * x := by
  rcases Int.lt_or_lt_of_ne h with hx | hx
  · exact Int.mul_pos_of_neg_of_neg hx hx
  · exact Int.mul_pos hx hx
theorem sqE_pos : ∀ l : List Int, 0 ≤ sqE l ∧ ((∃ x ∈ l, x ≠ 0) → 0 < sqE l)
  | [] => ⟨by simp [sqE], fun ⟨x, hx, _⟩ => by cases hx⟩
  | a :: s => by
    obtain ⟨h1, h2⟩ := sqE_pos s
    have h3 := sq_nn a
    refine ⟨by simp only [sqE]; omega, fun ⟨x, hx, hz⟩ => ?_⟩
    simp only [sqE]
    rcases List.mem_cons.1 hx with rfl | hx
    · have := sq_pos hz; omega
    · have := h2 ⟨x, hx, hz⟩; omega
theorem maxE_pos : ∀ l : List Int, (∃ x ∈ l, x ≠ 0) → 0 < maxE l
  | [] => fun ⟨x, hx, _⟩ => by cases hx
  | a :: s => fun ⟨x, hx, hz⟩ => by
    have h1 := maxE_nn s
    rcases List.mem_cons.1 hx with rfl | hx
    · have : 0 < absI x := by unfold absI; split <;> omega
      simp only [maxE]; unfold mx; split <;> omega
    · have := maxE_pos s ⟨x, hx, hz⟩
      simp only [maxE]; unfold mx; split <;> omega
theorem sumE_le (A : Int) (hA : 0 ≤ A) : ∀ l : List Int, (∀ x ∈ l, -A ≤ x ∧ x ≤ A) → sumE l ≤ A * l.length
  | [], _ => by simp [sumE]
  | a :: s, h => by
    have := sumE_le A hA s fun x hx => h x (.tail _ hx)
    have := (absI_le (h a (.head _))).2
    simp only [sumE, List.length_cons, Int.natCast_add, Int.natCast_one, Int.mul_add, Int.mul_one]; omega
theorem sqE_le (A : Int) (hA : 0 ≤ A) : ∀ l : List Int, (∀ x ∈ l, -A ≤ x ∧ x ≤ A) → sqE l ≤ A * A * l.length
  | [], _ => by simp [sqE]
  | a :: s, h => by
    have := sqE_le A hA s fun x hx => h x (.tail _ hx)
    have := (mul_le' (h a (.head _)) (h a (.head _)) hA).2
    simp only [sqE, List.length_cons, Int.natCast_add, Int.natCast_one, Int.mul_add, Int.mul_one]; omega
theorem maxE_le (A : Int) (hA : 0 ≤ A) : ∀ l : List Int, (∀ x ∈ l, -A ≤ x ∧ x ≤ A) → maxE l ≤ A
  | [], _ => by simpa [maxE] using hA
  | a :: s, h => by
    have := maxE_le A hA s fun x hx => h x (.tail _ hx)
    have := (absI_le (h a (.head _))).2
    simp only [maxE]; unfold mx; split <;> omega
theorem line_norm {l : List Int} {n : Nat} (h : Line l n) (m : Int) : normV m l = normX m l ∧ 0 < normX m l ∧ normX m l ≤ 8192 := by
  have hl := h.len
  have hd := h.dim
  refine ⟨normV_exact m 16 (by omega) (by decide) l (by omega) h.bd, ?_, ?_⟩
  · unfold normX
    split
    · exact (sumE_pos l).2 h.nz
    · split
      · exact (sqE_pos l).2 h.nz
      · exact maxE_pos l h.nz
  · have h1 := sumE_le 16 (by omega) l h.bd
    have h2 := sqE_le 16 (by omega) l h.bd
    have h3 := maxE_le 16 (by omega) l h.bd
    unfold normX
    split
    · omega
    · split <;> omega
theorem line_dot {l q : List Int} {n : Nat} (h : Line l n) (A : Int) (hA : 0 ≤ A) (hA2 : A ≤ 100000) (hq : ∀ x ∈ q, -A ≤ x ∧ x ≤ A) : dotV l q = dotE l q ∧ -(512 * A) ≤ dotE l q ∧ dotE l q ≤ 512 * A := by
  have hl := h.len
  have hd := h.dim
  refine ⟨dotV_exact 16 A (by omega) hA (by omega) l q (by omega) h.bd hq, ?_⟩
  obtain ⟨h1, h2⟩ := dotE_le 16 A (by omega) hA l q h.bd hq
  have hp : 0 ≤ 16 * A := by omega
  have : 16 * A * (l.length : Int) ≤ 16 * A * 32 := Int.mul_le_mul_of_nonneg_left (by omega) hp
  omega
/-- the gap, exactly -/
def gapX (l q : List Int) (r : S45) : Int := mx (mx 0 (r.f0 - dotE l q)) (dotE l q - r.f1)
theorem gap_exact {l q : List Int} {n : Nat} (h : Line l n) (hq : ∀ x ∈ q, -1000 ≤ x ∧ x ≤ 1000) (r : S45) (hr : -1073741824 ≤ r.f0 ∧ r.f0 ≤ r.f1 ∧ r.f1 ≤ 1073741824) : gapOf l q r = gapX l q r ∧ 0 ≤ gapX l q r ∧ gapX l q r ≤ 1074300000 := by
  obtain ⟨h1, h2, h3⟩ := line_dot h 1000 (by omega) (by omega) hq
  unfold gapOf gapX
  rw [h1, w64 (by omega) (by omega), w64 (by omega) (by omega)]
  unfold mx
  refine ⟨rfl, ?_, ?_⟩ <;> split <;> split <;> omega
theorem gN_exact {g : Int} (m : Int) (h0 : 0 ≤ g) (h1 : g ≤ 1074300000) : gN m g = (if m = 2 then g * g else g) ∧ 0 ≤ gN m g ∧ gN m g ≤ 2000000000000000000 := by
  have hs : g * g ≤ 1074300000 * 1074300000 := Int.mul_le_mul h1 h1 h0 (by omega)
  have hs0 := sq_nn g
  unfold gN
  split
  · rw [w64 (by omega) (by omega)]; exact ⟨rfl, hs0, by omega⟩
  · exact ⟨rfl, h0, by omega⟩
theorem ok_line {l q : List Int} {n : Nat} (h : Line l n) (hq : ∀ x ∈ q, -1000 ≤ x ∧ x ≤ 1000) (r : S45) (hr : -1073741824 ≤ r.f0 ∧ r.f0 ≤ r.f1 ∧ r.f1 ≤ 1073741824) (m : Int) : okG m (gapOf l q r) l = true := by
  obtain ⟨h1, h2, h3⟩ := gap_exact h hq r hr
  rw [h1]
  obtain ⟨_, g2, g3⟩ := gN_exact m h2 h3
  have hn : 0 < nrm m l ∧ nrm m l ≤ 8192 := by
    unfold nrm
    split
    · obtain ⟨e, a, b⟩ := line_norm h 2; rw [e]; exact ⟨a, b⟩
    · split
      · obtain ⟨e, a, b⟩ := line_norm h 1; rw [e]; exact ⟨a, b⟩
      · obtain ⟨e, a, b⟩ := line_norm h 3; rw [e]; exact ⟨a, b⟩
  unfold okG
  exact decide_eq_true ⟨g2, hn.1, by omega⟩
/-- what a law may take from Bound, Apply, Of .. -/
structure Sett (lines : List (List Int)) (q : List Int) : Prop where
  line : ∀ l ∈ lines, Line l q.length
  le8 : lines.length ≤ 8
  ge1 : 1 ≤ lines.length
  bd : ∀ x ∈ q, -1000 ≤ x ∧ x ≤ 1000
theorem sett {lines : List (List Int)} {q : List Int} (h1 : v04 q = true) (h2 : validV lines (q.length : Int) = true) : Sett lines q := by
  obtain ⟨a, b, c⟩ := valid_line h2
  exact ⟨c, b, a, (v04_iff h1).1⟩
theorem Sett.fit {lines : List (List Int)} {q : List Int} (h : Sett lines q) : fitB lines q.length = true := List.all_eq_true.2 fun l hl => decide_eq_true (by have := (h.line l hl).len; omega)
def right (r : List S45) : Prop := ∀ x ∈ r, -1073741824 ≤ x.f0 ∧ x.f0 ≤ x.f1 ∧ x.f1 ≤ 1073741824
theorem bound_f {lines : List (List Int)} {q : List Int} (h : Sett lines q) (r : List S45) (hr : right r) (hl : lines.length ≤ r.length) (m : Int) : project_Bound.f m lines r q = some (boundV m lines r q) := by
  unfold project_Bound.f
  rw [if_pos]
  refine ⟨by have := h.le8; omega, hl, h.fit, List.all_eq_true.2 fun p hp => ?_⟩
  have := List.of_mem_zip (a := p.1) (b := p.2) hp
  exact ok_line (h.line _ this.1) h.bd p.2 (hr _ this.2) m
end Go.Proofs.YticponffemffnaaDoor.Pure
end
section
set_option linter.unusedVariables false
set_option linter.unusedSimpArgs false
namespace Go.Proofs.YticponffemffnaaDoor.Pure
open Go Go.RowKit Go.Lx Go.Proofs.YticponffemffnaaDoor Go.Proofs.YticponffemffnaaDoor.P Go.Proofs.YticponffemffnaaDoor.Ext Go.Proofs.YticponffemffnaaDoorW.PrintWords Go.Proofs.YticponffemffnaaDoorW.PrintLast
theorem right_of {r : List S45} {n : Int} (h : rangesB r n = true) : right r := fun x hx => by have := (rangesB_iff h).2 x hx; omega

theorem bfold_le (m : Int) (q : List Int) (B : Int) : ∀ (l : List (List Int × S45)) (n : Int), n ≤ B → (∀ p ∈ l, oneV m q p.1 p.2 ≤ B) → l.foldl (fun out p => mx out (oneV m q p.1 p.2)) n ≤ B
  | [], n, h, _ => h
  | p :: l, n, h, h2 => by
    rw [List.foldl_cons]
    refine bfold_le m q B l _ ?_ fun z hz => h2 z (.tail _ hz)
    have := h2 p (.head _)
    unfold mx; split <;> omega
theorem bfold_ge (m : Int) (q : List Int) : ∀ (l : List (List Int × S45)) (n : Int), n ≤ l.foldl (fun out p => mx out (oneV m q p.1 p.2)) n ∧ ∀ p ∈ l, oneV m q p.1 p.2 ≤ l.foldl (fun out p => mx out (oneV m q p.1 p.2)) n
  | [], n => ⟨Int.le_refl _, fun p hp => absurd hp List.not_mem_nil⟩
  | p :: l, n => by
    rw [List.foldl_cons]
    obtain ⟨h1, h2⟩ := bfold_ge m q l (mx n (oneV m q p.1 p.2))
    have h3 : n ≤ mx n (oneV m q p.1 p.2) ∧ oneV m q p.1 p.2 ≤ mx n (oneV m q p.1 p.2) := by unfold mx; split <;> omega
    refine ⟨by omega, fun z hz => ?_⟩
    rcases List.mem_cons.1 hz with rfl | hz
    · omega
    · exact h2 z hz
theorem bound_le {m : Int} {lines : List (List Int)} {r : List S45} {q : List Int} {B : Int} (h0 : 0 ≤ B) (h : ∀ (i : Nat) (h1 : i < lines.length) (h2 : i < r.length), oneV m q lines[i] r[i] ≤ B) : boundV m lines r q ≤ B := by
  refine bfold_le m q B _ 0 h0 fun p hp => ?_
  obtain ⟨i, hi, rfl⟩ := List.mem_iff_getElem.1 hp
  rw [List.length_zip] at hi
  rw [List.getElem_zip]
  exact h i (by omega) (by omega)
theorem bound_ge {m : Int} {lines : List (List Int)} {r : List S45} {q : List Int} (i : Nat) (h1 : i < lines.length) (h2 : i < r.length) : oneV m q lines[i] r[i] ≤ boundV m lines r q := by
  refine (bfold_ge m q (lines.zip r) 0).2 (lines[i], r[i]) ?_
  rw [List.mem_iff_getElem]
  exact ⟨i, by simp; omega, by simp⟩
theorem bound_nn {m : Int} {lines : List (List Int)} {r : List S45} {q : List Int} : 0 ≤ boundV m lines r q := (bfold_ge m q (lines.zip r) 0).1
theorem nrm_line {l : List Int} {n : Nat} (h : Line l n) (m : Int) : 0 < nrm m l ∧ nrm m l ≤ 8192 := by
  unfold nrm
  split
  · obtain ⟨e, a, b⟩ := line_norm h 2; rw [e]; exact ⟨a, b⟩
  · split
    · obtain ⟨e, a, b⟩ := line_norm h 1; rw [e]; exact ⟨a, b⟩
    · obtain ⟨e, a, b⟩ := line_norm h 3; rw [e]; exact ⟨a, b⟩
def rightI (r : S45) : Prop := -1073741824 ≤ r.f0 ∧ r.f0 ≤ r.f1 ∧ r.f1 ≤ 1073741824
/-- a line's bound: the gap, raised to the metric's power, divided upwards -/
theorem one_exact {l q : List Int} {n : Nat} (h : Line l n) (hq : ∀ x ∈ q, -1000 ≤ x ∧ x ≤ 1000) (r : S45) (hr : rightI r) (m : Int) : oneV m q l r = upV (if m = 2 then gapX l q r * gapX l q r else gapX l q r) (nrm m l) := by
  obtain ⟨g1, g2, g3⟩ := gap_exact h hq r hr
  unfold oneV gapV
  rw [g1, (gN_exact m g2 g3).1]
end Go.Proofs.YticponffemffnaaDoor.Pure
end
