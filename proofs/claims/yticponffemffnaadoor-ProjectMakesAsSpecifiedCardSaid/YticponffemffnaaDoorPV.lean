/- One text out of: Pu1, Pu, Pv, Pw. -/
import Derived.Test.YticponffemffnaaDoorXA
import Derived.Test.YticponffemffnaaDoorP2
import Derived.Test.YticponffemffnaaDoorP3
import Derived.Test.YticponffemffnaaDoorP5
import Derived.Test.YticponffemffnaaDoorP6
import Derived.Test.YticponffemffnaaDoorCheckedLc
import Derived.Test.YticponffemffnaaDoorCheckedLf0
import Derived.Test.YticponffemffnaaDoorCheckedLf1
import Derived.Test.YticponffemffnaaDoorCheckedLf2
import Derived.Test.YticponffemffnaaDoorCheckedLf3
import Derived.Test.YticponffemffnaaDoorProg
import Derived.Test.YticponffemffnaaDoorWA
import Derived.Test.YticponffemffnaaDoorWB
import Derived.Test.YticponffemffnaaDoorP0
import Derived.Test.YticponffemffnaaDoorK
section
set_option linter.unusedVariables false
set_option linter.unusedSimpArgs false
namespace Go.Proofs.YticponffemffnaaDoor.Pure
open Go Go.RowKit Go.Lx Go.Proofs.YticponffemffnaaDoor Go.Proofs.YticponffemffnaaDoor.P Go.Proofs.YticponffemffnaaDoor.Ext Go.Proofs.YticponffemffnaaDoorW.PrintWords Go.Proofs.YticponffemffnaaDoorW.PrintLast
def big : Nat := 9223372036854775807
theorem rd_at (a : List Int) (i : Nat) (h : i < a.length) : rd a (i : Int) = a[i] := by
  unfold rd; rw [Int.toNat_natCast, List.getD_eq_getElem?_getD, List.getElem?_eq_getElem h]; rfl
theorem rl_at (a : List (List Int)) (i : Nat) (h : i < a.length) : rd_L1 a (i : Int) = a[i] := by
  unfold rd_L1; rw [Int.toNat_natCast, List.getD_eq_getElem?_getD, List.getElem?_eq_getElem h]; rfl
theorem wr (i n : Nat) (h : i < n) (hn : n ≤ big) : wrap64 ((i : Int) + 1) = ((i + 1 : Nat) : Int) := by unfold big at hn; unfold wrap64; omega
/-- one round, and what is left -/
theorem Ev.to {α : Type} {g f : Nat → Option α} {r r' : α} (hg : ∀ k, g (k + 1) = f k) (hf : Ev f r') (h : r' = r) : Ev g r := h ▸ Ev.step hg hf
theorem Ev.done {α : Type} {g : Nat → Option α} {r : α} (hg : ∀ k, g (k + 1) = some r) : Ev g r := Ev.step (f := fun _ => some r) hg (Ev.now r)
end Go.Proofs.YticponffemffnaaDoor.Pure
end
section
set_option linter.unusedVariables false
set_option linter.unusedSimpArgs false
namespace Go.Proofs.YticponffemffnaaDoor.Pure
open Go Go.RowKit Go.Lx Go.Proofs.YticponffemffnaaDoor Go.Proofs.YticponffemffnaaDoor.P Go.Proofs.YticponffemffnaaDoor.Ext Go.Proofs.YticponffemffnaaDoorW.PrintWords Go.Proofs.YticponffemffnaaDoorW.PrintLast
def inB (x : Int) : Bool := decide (-1000 ≤ x) && decide (x ≤ 1000)
def narrow (x : Int) : Bool := !wideB x
theorem steep_l (l : List Int) (m : Int) (hl : l.length ≤ big) (d : Nat) : ∀ (i : Nat) (b : Bool), l.length - i = d → i ≤ l.length → Ev (fun k => antiquaryref07_steep.l0 k l m b (i : Int)) ((l.drop i).all narrow && (b || (l.drop i).any nzB) && ((l.length : Int) == m)) := by
  induction d with
  | zero =>
    intro i b hd hi
    refine Ev.done fun k => ?_
    simp only [antiquaryref07_steep.l0]
    rw [if_neg (by omega), List.drop_of_length_le (by omega)]
    cases b <;> simp
  | succ d ih =>
    intro i b hd hi
    have hlt : i < l.length := by omega
    have e1 : (l.drop i).all narrow = (narrow l[i] && (l.drop (i + 1)).all narrow) := by rw [List.drop_eq_getElem_cons hlt]; rfl
    have e2 : (l.drop i).any nzB = (nzB l[i] || (l.drop (i + 1)).any nzB) := by rw [List.drop_eq_getElem_cons hlt]; rfl
    by_cases h1 : l[i] < -16
    · refine Ev.to (f := fun _ => some false) (fun k => ?_) (Ev.now _) ?_
      · simp only [antiquaryref07_steep.l0]
        rw [if_pos (by omega), if_pos (by omega), rd_at l i hlt, if_pos h1]
      · rw [e1]; unfold narrow wideB; simp [h1]
    · by_cases h2 : l[i] > 16
      · refine Ev.to (f := fun _ => some false) (fun k => ?_) (Ev.now _) ?_
        · simp only [antiquaryref07_steep.l0]
          rw [if_pos (by omega), if_pos (by omega), rd_at l i hlt, if_neg h1, if_pos h2]
        · have : wideB l[i] = true := by unfold wideB; simp; omega
          rw [e1]; unfold narrow; rw [this]; simp
      · have hn : narrow l[i] = true := by unfold narrow wideB; simp; omega
        refine Ev.to (fun k => ?_) (ih (i + 1) (b || nzB l[i]) (by omega) (by omega)) ?_
        · simp only [antiquaryref07_steep.l0]
          rw [if_pos (by omega), if_pos (by omega), rd_at l i hlt, if_neg h1, if_neg h2, wr i _ hlt hl]
          cases b <;> simp [nzB]
        · rw [e1, e2, hn]; simp [Bool.or_assoc]
theorem steep_f (l : List Int) (m : Int) (hl : l.length ≤ big) : Ev (fun k => antiquaryref07_steep.f k l m) (!badRow m l) := by
  have := steep_l l m hl l.length 0 false (by omega) (by omega)
  have e : (!badRow m l) = (((l.drop 0).all narrow && (false || (l.drop 0).any nzB) && ((l.length : Int) == m))) := by
    unfold badRow narrow
    rw [Bool.not_or, Bool.not_or, List.not_any_eq_all_not, List.drop_zero]
    simp only [Bool.not_not, Bool.false_or, bne]
    cases ((l.length : Int) == m) <;> cases (l.all fun x => !wideB x) <;> cases l.any nzB <;> rfl
  rw [e]; exact this
theorem valid_l (l : List (List Int)) (m : Int) (hl : l.length ≤ big) (hr : ∀ r ∈ l, r.length ≤ big) (d : Nat) : ∀ i : Nat, l.length - i = d → i ≤ l.length → Ev (fun k => antiquaryref07_Valid.l0 k l m (i : Int)) (!(l.drop i).any (badRow m)) := by
  induction d with
  | zero =>
    intro i hd hi
    refine Ev.done fun k => ?_
    simp only [antiquaryref07_Valid.l0]
    rw [if_neg (by omega), List.drop_of_length_le (by omega)]
    rfl
  | succ d ih =>
    intro i hd hi
    have hlt : i < l.length := by omega
    have e : (l.drop i).any (badRow m) = (badRow m l[i] || (l.drop (i + 1)).any (badRow m)) := by rw [List.drop_eq_getElem_cons hlt]; rfl
    have hs := steep_f l[i] m (hr _ (List.getElem_mem hlt))
    have hrd := rl_at l i hlt
    have hnext := ih (i + 1) (by omega) (by omega)
    generalize l[i] = x at e hs hrd
    rw [e]
    refine Ev.step (f := fun k => (antiquaryref07_steep.f k x m).bind fun t => if t = true then antiquaryref07_Valid.l0 k l m ((i + 1 : Nat) : Int) else some false) (fun k => ?_) (Ev.bind hs ?_)
    · simp only [antiquaryref07_Valid.l0]
      rw [if_pos (by omega), if_pos (by omega), hrd, wr i _ hlt hl]
    · cases badRow m x
      · simpa using hnext
      · exact Ev.now false
theorem valid_f (l : List (List Int)) (m : Int) (hl : l.length ≤ big) (hr : ∀ r ∈ l, r.length ≤ big) : Ev (fun k => antiquaryref07_Valid.f k l m) (validV l m) := by
  have h0 := valid_l l m hl hr l.length 0 (by omega) (by omega)
  have hF : ∀ b : Bool, Ev (fun k => antiquaryref07_Valid.j0 k l m b) (if b then false else !l.any (badRow m)) := fun b => by
    cases b
    · refine Ev.to (fun k => ?_) h0 rfl
      simp only [antiquaryref07_Valid.j0]; rfl
    · exact Ev.done fun k => by simp only [antiquaryref07_Valid.j0]; rfl
  unfold antiquaryref07_Valid.f
  by_cases h1 : m < 1
  · have e : validV l m = false := by unfold validV; simp; omega
    rw [e]; simp only [if_pos h1]; exact hF true
  · by_cases h2 : m > 32
    · have e : validV l m = false := by unfold validV; simp; omega
      rw [e]; simp only [if_neg h1, if_pos h2]; exact hF true
    · by_cases h3 : (l.length : Int) < 1
      · have e : validV l m = false := by unfold validV; simp; omega
        rw [e]; simp only [if_neg h1, if_neg h2, if_pos h3]; exact hF true
      · simp only [if_neg h1, if_neg h2, if_neg h3]
        by_cases h4 : (l.length : Int) > 8
        · have e : validV l m = false := by unfold validV; simp; omega
          have e2 : decide ((l.length : Int) > 8) = true := decide_eq_true h4
          rw [e, e2]; exact hF true
        · have e : validV l m = !l.any (badRow m) := by unfold validV; simp; omega
          have e2 : decide ((l.length : Int) > 8) = false := decide_eq_false h4
          rw [e, e2]; exact hF false
end Go.Proofs.YticponffemffnaaDoor.Pure
end
section
set_option linter.unusedVariables false
set_option linter.unusedSimpArgs false
namespace Go.Proofs.YticponffemffnaaDoor.Pure
open Go Go.RowKit Go.Lx Go.Proofs.YticponffemffnaaDoor Go.Proofs.YticponffemffnaaDoor.P Go.Proofs.YticponffemffnaaDoor.Ext Go.Proofs.YticponffemffnaaDoorW.PrintWords Go.Proofs.YticponffemffnaaDoorW.PrintLast
theorem cmp_l (l : List Int) (hl : l.length ≤ big) (d : Nat) : ∀ i : Nat, l.length - i = d → i ≤ l.length → Ev (fun k => antiquaryref04_Compare.l0 k l l (i : Int)) 0 := by
  induction d with
  | zero =>
    intro i hd hi
    refine Ev.done fun k => ?_
    simp only [antiquaryref04_Compare.l0]
    rw [if_neg (by omega)]
  | succ d ih =>
    intro i hd hi
    have hlt : i < l.length := by omega
    refine Ev.step (fun k => ?_) (ih (i + 1) (by omega) (by omega))
    simp only [antiquaryref04_Compare.l0]
    rw [if_pos (by omega), if_pos (by omega), if_pos (by omega), if_neg (by omega), if_neg (by omega), wr i _ hlt hl]
theorem same4_f (l : List Int) (hl : l.length ≤ big) : Ev (fun k => antiquaryref04_Same.f k l l) true := by
  unfold antiquaryref04_Same.f antiquaryref04_Compare.f
  refine Ev.bind (a := 0) ?_ (Ev.now _)
  have h1 : ¬ ((l.length : Int) < (l.length : Int)) := by omega
  have h2 : ¬ ((l.length : Int) > (l.length : Int)) := by omega
  simp only [if_neg h1, if_neg h2]
  exact cmp_l l hl l.length 0 (by omega) (by omega)
theorem sameL_l (l : List (List Int)) (hl : l.length ≤ big) (hr : ∀ r ∈ l, r.length ≤ big) (d : Nat) : ∀ i : Nat, l.length - i = d → i ≤ l.length → Ev (fun k => antiquaryref07_SameLines.l0 k l l (i : Int)) true := by
  induction d with
  | zero =>
    intro i hd hi
    refine Ev.done fun k => ?_
    simp only [antiquaryref07_SameLines.l0]
    rw [if_neg (by omega)]
  | succ d ih =>
    intro i hd hi
    have hlt : i < l.length := by omega
    have hs := same4_f l[i] (hr _ (List.getElem_mem hlt))
    refine Ev.step (f := fun k => (antiquaryref04_Same.f k l[i] l[i]).bind fun t => if t = true then antiquaryref07_SameLines.l0 k l l ((i + 1 : Nat) : Int) else some false) (fun k => ?_) (Ev.bind hs ?_)
    · simp only [antiquaryref07_SameLines.l0]
      rw [if_pos (by omega), if_pos (by omega), if_pos (by omega), rl_at l i hlt, wr i _ hlt hl]
    · simpa using ih (i + 1) (by omega) (by omega)
theorem sameL_f (l : List (List Int)) (hl : l.length ≤ big) (hr : ∀ r ∈ l, r.length ≤ big) : Ev (fun k => antiquaryref07_SameLines.f k l l) true := by
  unfold antiquaryref07_SameLines.f
  simp only [if_true]
  exact sameL_l l hl hr l.length 0 (by omega) (by omega)

end Go.Proofs.YticponffemffnaaDoor.Pure
end
section
set_option linter.unusedVariables false
set_option linter.unusedSimpArgs false
namespace Go.Proofs.YticponffemffnaaDoor.Pure
open Go Go.RowKit Go.Lx Go.Proofs.YticponffemffnaaDoor Go.Proofs.YticponffemffnaaDoor.P Go.Proofs.YticponffemffnaaDoor.Ext Go.Proofs.YticponffemffnaaDoorW.PrintWords Go.Proofs.YticponffemffnaaDoorW.PrintLast
theorem w64 {n : Int} (h1 : -4611686018427387904 ≤ n) (h2 : n ≤ 4611686018427387904) : wrap64 n = n := by unfold wrap64; omega
def absI (x : Int) : Int := if x < 0 then -x else x
def sumE : List Int → Int
  | [] => 0
  | a :: s => absI a + sumE s
def sqE : List Int → Int
  | [] => 0
  | a :: s => a * a + sqE s
def maxE : List Int → Int
  | [] => 0
  | a :: s => mx (absI a) (maxE s)
theorem absI_le {x b : Int} (h : -b ≤ x ∧ x ≤ b) : 0 ≤ absI x ∧ absI x ≤ b := by unfold absI; split <;> omega
theorem mul_le' {x y a b : Int} (hx : -a ≤ x ∧ x ≤ a) (hy : -b ≤ y ∧ y ≤ b) (hb : 0 ≤ b) : -(a * b) ≤ x * y ∧ x * y ≤ a * b := by
  have ha : 0 ≤ a := by omega
  have h1 : absI x * absI y ≤ a * b := Int.mul_le_mul (absI_le hx).2 (absI_le hy).2 (absI_le hy).1 ha
  have h2 : x * y ≤ absI x * absI y ∧ -(absI x * absI y) ≤ x * y := by
    unfold absI
    split <;> split
    · rw [Int.neg_mul_neg]
      have : 0 ≤ x * y := Int.mul_nonneg_of_nonpos_of_nonpos (by omega) (by omega)
      omega
    · rw [Int.neg_mul]
      have : x * y ≤ 0 := Int.mul_nonpos_of_nonpos_of_nonneg (by omega) (by omega)
      omega
    · rw [Int.mul_neg]
      have : x * y ≤ 0 := Int.mul_nonpos_of_nonneg_of_nonpos (by omega) (by omega)
      omega
    · have : 0 ≤ x * y := Int.mul_nonneg (by omega) (by omega)
      omega
  omega
theorem norm_fold1 (A : Int) (hA : A ≤ 1000000000000) : ∀ (l : List Int), (∀ x ∈ l, -A ≤ x ∧ x ≤ A) → ∀ n : Int, ∀ M : Nat, l.length ≤ M → M ≤ 100000 → 0 ≤ n → n ≤ 1000000000000 * (100000 - M) → l.foldl nS n = n + sumE l
  | [], _, n, M, _, _, _, _ => by simp [sumE]
  | x :: l, h, n, M, hM, hM2, h1, h2 => by
    have hx := h x (.head _)
    obtain ⟨a1, a2⟩ := absI_le hx
    have hM' : 1 ≤ M := by simp only [List.length_cons] at hM; omega
    have e : nS n x = n + absI x := by
      unfold nS mx
      rw [w64 (n := -x) (by omega) (by omega)]
      have : (if x < -x then -x else x) = absI x := by unfold absI; split <;> split <;> omega
      rw [this, w64 (by omega) (by omega)]
    rw [List.foldl_cons, e, norm_fold1 A hA l (fun z hz => h z (.tail _ hz)) _ (M - 1) (by simp only [List.length_cons] at hM; omega) (by omega) (by omega) (by omega)]
    simp only [sumE]; omega
theorem norm_fold2 (A : Int) (h0 : 0 ≤ A) (hA : A * A ≤ 1000000000000) : ∀ (l : List Int), (∀ x ∈ l, -A ≤ x ∧ x ≤ A) → ∀ n : Int, ∀ M : Nat, l.length ≤ M → M ≤ 100000 → 0 ≤ n → n ≤ 1000000000000 * (100000 - M) → l.foldl nE n = n + sqE l
  | [], _, n, M, _, _, _, _ => by simp [sqE]
  | x :: l, h, n, M, hM, hM2, h1, h2 => by
    have hx := h x (.head _)
    obtain ⟨p1, p2⟩ := mul_le' hx hx h0
    have hs : 0 ≤ x * x := by
      rcases Int.le_total 0 x with hx | hx
      · exact Int.mul_nonneg hx hx
      · exact Int.mul_nonneg_of_nonpos_of_nonpos hx hx
    have hM' : 1 ≤ M := by simp only [List.length_cons] at hM; omega
    have e : nE n x = n + x * x := by
      unfold nE
      rw [w64 (n := x * x) (by omega) (by omega), w64 (by omega) (by omega)]
    rw [List.foldl_cons, e, norm_fold2 A h0 hA l (fun z hz => h z (.tail _ hz)) _ (M - 1) (by simp only [List.length_cons] at hM; omega) (by omega) (by omega) (by omega)]
    simp only [sqE]; omega
theorem maxE_nn : ∀ l : List Int, 0 ≤ maxE l
  | [] => by simp [maxE]
  | a :: s => by have := maxE_nn s; unfold maxE mx; split <;> omega
theorem norm_fold3 (A : Int) (hA : A ≤ 1000000000000) : ∀ (l : List Int), (∀ x ∈ l, -A ≤ x ∧ x ≤ A) → ∀ n : Int, 0 ≤ n → l.foldl nM n = mx n (maxE l)
  | [], _, n, h => by
    have : mx n (maxE []) = n := by unfold mx; exact if_neg (show ¬ n < 0 by omega)
    rw [this]; rfl
  | x :: l, h, n, h1 => by
    have hx := h x (.head _)
    obtain ⟨a1, a2⟩ := absI_le hx
    have e : nM n x = mx n (absI x) := by
      unfold nM mx absI
      rw [w64 (n := -x) (by omega) (by omega)]
      split <;> split <;> split <;> (try split) <;> omega
    have hn : 0 ≤ nM n x := by rw [e]; unfold mx; split <;> omega
    rw [List.foldl_cons, norm_fold3 A hA l (fun z hz => h z (.tail _ hz)) _ hn, e]
    simp only [maxE]
    have := maxE_nn l
    unfold mx
    split <;> split <;> (try split) <;> (try split) <;> omega
/-- the norms, exactly -/
def normX (m : Int) (l : List Int) : Int := if m = 1 then sumE l else if m = 2 then sqE l else maxE l
theorem normV_exact (m A : Int) (h0 : 0 ≤ A) (hA : A * A ≤ 1000000000000) (l : List Int) (hl : l.length ≤ 100000) (h : ∀ x ∈ l, -A ≤ x ∧ x ≤ A) : normV m l = normX m l := by
  have hA1 : A ≤ 1000000000000 := by
    rcases Int.lt_or_le A 1 with h | h
    · omega
    · have : A * 1 ≤ A * A := Int.mul_le_mul_of_nonneg_left h h0
      omega
  unfold normV normF normX
  split
  · rw [norm_fold1 A hA1 l h 0 100000 hl (by omega) (by omega) (by omega)]; omega
  · split
    · rw [norm_fold2 A h0 hA l h 0 100000 hl (by omega) (by omega) (by omega)]; omega
    · rw [norm_fold3 A hA1 l h 0 (by omega)]
      unfold mx; have := maxE_nn l; split <;> omega
def right (r : List S45) : Prop := ∀ x ∈ r, -1073741824 ≤ x.f0 ∧ x.f0 ≤ x.f1 ∧ x.f1 ≤ 1073741824
end Go.Proofs.YticponffemffnaaDoor.Pure
end
