/- One text out of: Pu1, Pu, Pv, Pw, Pb. -/
import Derived.Test.YticponffemffnaaDoorXA
import Derived.Test.YticponffemffnaaDoorP2
import Derived.Test.YticponffemffnaaDoorP3
import Derived.Test.YticponffemffnaaDoorP5
import Derived.Test.YticponffemffnaaDoorCheckedLc
import Derived.Test.YticponffemffnaaDoorCheckedLf0
import Derived.Test.YticponffemffnaaDoorCheckedLf1
import Derived.Test.YticponffemffnaaDoorCheckedLf2
import Derived.Test.YticponffemffnaaDoorCheckedLf3
import Derived.Test.YticponffemffnaaDoorProg
import Derived.Test.YticponffemffnaaDoorWA
import Derived.Test.YticponffemffnaaDoorWB
import Derived.Test.YticponffemffnaaDoorP0
import Derived.Test.YticponffemffnaaDoorK
import Derived.Test.YticponffemffnaaDoorP1
import Derived.Test.YticponffemffnaaDoorP8
import Derived.Test.YticponffemffnaaDoorP10
import Derived.Test.YticponffemffnaaDoorP13
import Derived.Test.YticponffemffnaaDoorP14
section
set_option linter.unusedVariables false
set_option linter.unusedSimpArgs false
namespace Go.Proofs.YticponffemffnaaDoor.Pure
open Go Go.RowKit Go.Lx Go.Proofs.YticponffemffnaaDoor Go.Proofs.YticponffemffnaaDoor.P Go.Proofs.YticponffemffnaaDoor.Ext Go.Proofs.YticponffemffnaaDoorW.PrintWords Go.Proofs.YticponffemffnaaDoorW.PrintLast
def big : Nat := 9223372036854775807
theorem rd_at (a : List Int) (i : Nat) (h : i < a.length) : rd a (i : Int) = a[i] := by
  unfold rd; rw [Int.toNat_natCast, List.getD_eq_getElem?_getD, List.getElem?_eq_getElem h]; rfl
theorem rl_at (a : List (List Int)) (i : Nat) (h : i < a.length) : rd_L1 a (i : Int) = a[i] := by
  unfold rd_L1; rw [Int.toNat_natCast, List.getD_eq_getElem?_getD, List.getElem?_eq_getElem h]; rfl
theorem rr_at (a : List S45) (i : Nat) (h : i < a.length) : rd_T45 a (i : Int) = a[i] := rd_T45_at a i h
theorem wr (i n : Nat) (h : i < n) (hn : n ≤ big) : wrap64 ((i : Int) + 1) = ((i + 1 : Nat) : Int) := by unfold big at hn; unfold wrap64; omega
/-- one round, and what is left -/
theorem Ev.to {α : Type} {g f : Nat → Option α} {r r' : α} (hg : ∀ k, g (k + 1) = f k) (hf : Ev f r') (h : r' = r) : Ev g r := h ▸ Ev.step hg hf
theorem Ev.done {α : Type} {g : Nat → Option α} {r : α} (hg : ∀ k, g (k + 1) = some r) : Ev g r := Ev.step (f := fun _ => some r) hg (Ev.now r)
end Go.Proofs.YticponffemffnaaDoor.Pure
end
section
set_option linter.unusedVariables false
set_option linter.unusedSimpArgs false
namespace Go.Proofs.YticponffemffnaaDoor.Pure
open Go Go.RowKit Go.Lx Go.Proofs.YticponffemffnaaDoor Go.Proofs.YticponffemffnaaDoor.P Go.Proofs.YticponffemffnaaDoor.Ext Go.Proofs.YticponffemffnaaDoorW.PrintWords Go.Proofs.YticponffemffnaaDoorW.PrintLast
def inB (x : Int) : Bool := decide (-1000 ≤ x) && decide (x ≤ 1000)
def v04 (l : List Int) : Bool := l.all inB && decide (1 ≤ l.length) && decide (l.length ≤ 32)
theorem v04_l (l : List Int) (hl : l.length ≤ big) (d : Nat) : ∀ i : Nat, l.length - i = d → i ≤ l.length → Ev (fun k => antiquaryref04_Valid.l0 k l (i : Int)) ((l.drop i).all inB && decide (1 ≤ l.length) && decide (l.length ≤ 32)) := by
  induction d with
  | zero =>
    intro i hd hi
    refine Ev.done fun k => ?_
    simp only [antiquaryref04_Valid.l0]
    rw [if_neg (by omega), List.drop_of_length_le (by omega)]
    by_cases h1 : (l.length : Int) ≥ 1
    · have e : decide (1 ≤ l.length) = true := decide_eq_true (by omega)
      have e2 : decide ((l.length : Int) ≤ 32) = decide (l.length ≤ 32) := decide_eq_decide.2 (by omega)
      rw [if_pos h1, e, e2]; simp
    · have e : decide (1 ≤ l.length) = false := decide_eq_false (by omega)
      rw [if_neg h1, e]; simp
  | succ d ih =>
    intro i hd hi
    have hlt : i < l.length := by omega
    have e : (l.drop i).all inB = (inB l[i] && (l.drop (i + 1)).all inB) := by rw [List.drop_eq_getElem_cons hlt]; rfl
    by_cases h1 : l[i] < -1000
    · refine Ev.to (f := fun _ => some false) (fun k => ?_) (Ev.now _) ?_
      · simp only [antiquaryref04_Valid.l0]
        rw [if_pos (by omega), if_pos (by omega), rd_at l i hlt, if_pos h1]
      · have : inB l[i] = false := by unfold inB; simp; omega
        rw [e, this]; simp
    · by_cases h2 : l[i] > 1000
      · refine Ev.to (f := fun _ => some false) (fun k => ?_) (Ev.now _) ?_
        · simp only [antiquaryref04_Valid.l0]
          rw [if_pos (by omega), if_pos (by omega), rd_at l i hlt, if_neg h1, if_pos h2]
        · have : inB l[i] = false := by unfold inB; simp; omega
          rw [e, this]; simp
      · refine Ev.to (fun k => ?_) (ih (i + 1) (by omega) (by omega)) ?_
        · simp only [antiquaryref04_Valid.l0]
          rw [if_pos (by omega), if_pos (by omega), rd_at l i hlt, if_neg h1, if_neg h2, wr i _ hlt hl]
        · rw [e]
          have : inB l[i] = true := by unfold inB; simp; omega
          rw [this]; simp
theorem v04_f (l : List Int) (hl : l.length ≤ big) : Ev (fun k => antiquaryref04_Valid.f k l) (v04 l) := v04_l l hl l.length 0 (by omega) (by omega)
theorem v04_iff {l : List Int} (h : v04 l = true) : (∀ x ∈ l, -1000 ≤ x ∧ x ≤ 1000) ∧ 1 ≤ l.length ∧ l.length ≤ 32 := by
  unfold v04 inB at h
  simp at h
  exact ⟨fun x hx => h.1.1 x hx, h.1.2, h.2⟩
def narrow (x : Int) : Bool := !wideB x
theorem steep_l (l : List Int) (m : Int) (hl : l.length ≤ big) (d : Nat) : ∀ (i : Nat) (b : Bool), l.length - i = d → i ≤ l.length → Ev (fun k => antiquaryref07_steep.l0 k l m b (i : Int)) ((l.drop i).all narrow && (b || (l.drop i).any nzB) && ((l.length : Int) == m)) := by
  induction d with
  | zero =>
    intro i b hd hi
    refine Ev.done fun k => ?_
    simp only [antiquaryref07_steep.l0]
    rw [if_neg (by omega), List.drop_of_length_le (by omega)]
    cases b <;> simp
  | succ d ih =>
    intro i b hd hi
    have hlt : i < l.length := by omega
    have e1 : (l.drop i).all narrow = (narrow l[i] && (l.drop (i + 1)).all narrow) := by rw [List.drop_eq_getElem_cons hlt]; rfl
    have e2 : (l.drop i).any nzB = (nzB l[i] || (l.drop (i + 1)).any nzB) := by rw [List.drop_eq_getElem_cons hlt]; rfl
    by_cases h1 : l[i] < -16
    · refine Ev.to (f := fun _ => some false) (fun k => ?_) (Ev.now _) ?_
      · simp only [antiquaryref07_steep.l0]
        rw [if_pos (by omega), if_pos (by omega), rd_at l i hlt, if_pos h1]
      · rw [e1]; unfold narrow wideB; simp [h1]
    · by_cases h2 : l[i] > 16
      · refine Ev.to (f := fun _ => some false) (fun k => ?_) (Ev.now _) ?_
        · simp only [antiquaryref07_steep.l0]
          rw [if_pos (by omega), if_pos (by omega), rd_at l i hlt, if_neg h1, if_pos h2]
        · have : wideB l[i] = true := by unfold wideB; simp; omega
          rw [e1]; unfold narrow; rw [this]; simp
      · have hn : narrow l[i] = true := by unfold narrow wideB; simp; omega
        refine Ev.to (fun k => ?_) (ih (i + 1) (b || nzB l[i]) (by omega) (by omega)) ?_
        · simp only [antiquaryref07_steep.l0]
          rw [if_pos (by omega), if_pos (by omega), rd_at l i hlt, if_neg h1, if_neg h2, wr i _ hlt hl]
          cases b <;> simp [nzB]
        · rw [e1, e2, hn]; simp [Bool.or_assoc]
theorem steep_f (l : List Int) (m : Int) (hl : l.length ≤ big) : Ev (fun k => antiquaryref07_steep.f k l m) (!badRow m l) := by
  have := steep_l l m hl l.length 0 false (by omega) (by omega)
  have e : (!badRow m l) = (((l.drop 0).all narrow && (false || (l.drop 0).any nzB) && ((l.length : Int) == m))) := by
    unfold badRow narrow
    rw [Bool.not_or, Bool.not_or, List.not_any_eq_all_not, List.drop_zero]
    simp only [Bool.not_not, Bool.false_or, bne]
    cases ((l.length : Int) == m) <;> cases (l.all fun x => !wideB x) <;> cases l.any nzB <;> rfl
  rw [e]; exact this
theorem valid_l (l : List (List Int)) (m : Int) (hl : l.length ≤ big) (hr : ∀ r ∈ l, r.length ≤ big) (d : Nat) : ∀ i : Nat, l.length - i = d → i ≤ l.length → Ev (fun k => antiquaryref07_Valid.l0 k l m (i : Int)) (!(l.drop i).any (badRow m)) := by
  induction d with
  | zero =>
    intro i hd hi
    refine Ev.done fun k => ?_
    simp only [antiquaryref07_Valid.l0]
    rw [if_neg (by omega), List.drop_of_length_le (by omega)]
    rfl
  | succ d ih =>
    intro i hd hi
    have hlt : i < l.length := by omega
    have e : (l.drop i).any (badRow m) = (badRow m l[i] || (l.drop (i + 1)).any (badRow m)) := by rw [List.drop_eq_getElem_cons hlt]; rfl
    have hs := steep_f l[i] m (hr _ (List.getElem_mem hlt))
    have hrd := rl_at l i hlt
    have hnext := ih (i + 1) (by omega) (by omega)
    generalize l[i] = x at e hs hrd
    rw [e]
    refine Ev.step (f := fun k => (antiquaryref07_steep.f k x m).bind fun t => if t = true then antiquaryref07_Valid.l0 k l m ((i + 1 : Nat) : Int) else some false) (fun k => ?_) (Ev.bind hs ?_)
    · simp only [antiquaryref07_Valid.l0]
      rw [if_pos (by omega), if_pos (by omega), hrd, wr i _ hlt hl]
    · cases badRow m x
      · simpa using hnext
      · exact Ev.now false
theorem valid_f (l : List (List Int)) (m : Int) (hl : l.length ≤ big) (hr : ∀ r ∈ l, r.length ≤ big) : Ev (fun k => antiquaryref07_Valid.f k l m) (validV l m) := by
  have h0 := valid_l l m hl hr l.length 0 (by omega) (by omega)
  have hF : ∀ b : Bool, Ev (fun k => antiquaryref07_Valid.j0 k l m b) (if b then false else !l.any (badRow m)) := fun b => by
    cases b
    · refine Ev.to (fun k => ?_) h0 rfl
      simp only [antiquaryref07_Valid.j0]; rfl
    · exact Ev.done fun k => by simp only [antiquaryref07_Valid.j0]; rfl
  unfold antiquaryref07_Valid.f
  by_cases h1 : m < 1
  · have e : validV l m = false := by unfold validV; simp; omega
    rw [e]; simp only [if_pos h1]; exact hF true
  · by_cases h2 : m > 32
    · have e : validV l m = false := by unfold validV; simp; omega
      rw [e]; simp only [if_neg h1, if_pos h2]; exact hF true
    · by_cases h3 : (l.length : Int) < 1
      · have e : validV l m = false := by unfold validV; simp; omega
        rw [e]; simp only [if_neg h1, if_neg h2, if_pos h3]; exact hF true
      · simp only [if_neg h1, if_neg h2, if_neg h3]
        by_cases h4 : (l.length : Int) > 8
        · have e : validV l m = false := by unfold validV; simp; omega
          have e2 : decide ((l.length : Int) > 8) = true := decide_eq_true h4
          rw [e, e2]; exact hF true
        · have e : validV l m = !l.any (badRow m) := by unfold validV; simp; omega
          have e2 : decide ((l.length : Int) > 8) = false := decide_eq_false h4
          rw [e, e2]; exact hF false
theorem validV_iff {l : List (List Int)} {m : Int} (h : validV l m = true) : 1 ≤ m ∧ m ≤ 32 ∧ 1 ≤ l.length ∧ l.length ≤ 8 ∧ ∀ r ∈ l, (r.length : Int) = m ∧ (∀ x ∈ r, -16 ≤ x ∧ x ≤ 16) ∧ ∃ x ∈ r, x ≠ 0 := by
  unfold validV at h
  simp only [Bool.and_eq_true, decide_eq_true_eq, Bool.not_eq_true'] at h
  obtain ⟨⟨⟨⟨h1, h2⟩, h3⟩, h4⟩, h5⟩ := h
  refine ⟨h1, h2, h3, h4, fun r hr => ?_⟩
  have h6 : badRow m r = false := by
    cases hb : badRow m r with
    | false => rfl
    | true => rw [List.any_eq_true.2 ⟨r, hr, hb⟩] at h5; cases h5
  unfold badRow at h6
  simp only [Bool.or_eq_false_iff, Bool.not_eq_false'] at h6
  obtain ⟨⟨h7, h8⟩, h9⟩ := h6
  refine ⟨by simpa using h7, fun x hx => ?_, ?_⟩
  · have : wideB x = false := by
      cases hb : wideB x with
      | false => rfl
      | true => rw [List.any_eq_true.2 ⟨x, hx, hb⟩] at h8; cases h8
    unfold wideB at this
    simp at this
    omega
  · obtain ⟨x, hx, hz⟩ := List.any_eq_true.1 h9
    exact ⟨x, hx, by simpa [nzB] using hz⟩
end Go.Proofs.YticponffemffnaaDoor.Pure
end
section
set_option linter.unusedVariables false
set_option linter.unusedSimpArgs false
namespace Go.Proofs.YticponffemffnaaDoor.Pure
open Go Go.RowKit Go.Lx Go.Proofs.YticponffemffnaaDoor Go.Proofs.YticponffemffnaaDoor.P Go.Proofs.YticponffemffnaaDoor.Ext Go.Proofs.YticponffemffnaaDoorW.PrintWords Go.Proofs.YticponffemffnaaDoorW.PrintLast
theorem dot_l (a b : List Int) (hl : a.length ≤ big) (hb : a.length ≤ b.length) (d : Nat) : ∀ i : Nat, a.length - i = d → i ≤ a.length → Ev (fun k => antiquaryref04_Dot.l0 k a b (dotV (a.take i) b) (i : Int)) (dotV a b) := by
  induction d with
  | zero =>
    intro i hd hi
    refine Ev.done fun k => ?_
    simp only [antiquaryref04_Dot.l0]
    rw [if_neg (by omega), List.take_of_length_le (by omega)]
  | succ d ih =>
    intro i hd hi
    have hlt : i < a.length := by omega
    have hlt2 : i < b.length := by omega
    refine Ev.step (fun k => ?_) (ih (i + 1) (by omega) (by omega))
    simp only [antiquaryref04_Dot.l0]
    rw [if_pos (by omega), if_pos (by omega), if_pos (by omega), rd_at a i hlt, rd_at b i hlt2, wr i _ hlt hl, dotV_succ a b i hlt hlt2]
theorem dot_f (a b : List Int) (hl : a.length ≤ big) (hb : a.length ≤ b.length) : Ev (fun k => antiquaryref04_Dot.f k a b) (dotV a b) := dot_l a b hl hb a.length 0 (by omega) (by omega)
end Go.Proofs.YticponffemffnaaDoor.Pure
end
section
set_option linter.unusedVariables false
set_option linter.unusedSimpArgs false
namespace Go.Proofs.YticponffemffnaaDoor.Pure
open Go Go.RowKit Go.Lx Go.Proofs.YticponffemffnaaDoor Go.Proofs.YticponffemffnaaDoor.P Go.Proofs.YticponffemffnaaDoor.Ext Go.Proofs.YticponffemffnaaDoorW.PrintWords Go.Proofs.YticponffemffnaaDoorW.PrintLast
theorem w64 {n : Int} (h1 : -4611686018427387904 ≤ n) (h2 : n ≤ 4611686018427387904) : wrap64 n = n := by unfold wrap64; omega
def rightR (r : S45) : Bool := decide (r.f0 ≤ r.f1) && decide (-1073741824 ≤ r.f0) && decide (r.f1 ≤ 1073741824)
def rangesB (r : List S45) (n : Int) : Bool := r.all rightR && ((r.length : Int) == n)
theorem ranges_l (r : List S45) (m : Int) (hl : r.length ≤ big) (d : Nat) : ∀ i : Nat, r.length - i = d → i ≤ r.length → Ev (fun k => antiquaryref07_Ranges.l0 k r m (i : Int)) ((r.drop i).all rightR && ((r.length : Int) == m)) := by
  induction d with
  | zero =>
    intro i hd hi
    refine Ev.done fun k => ?_
    simp only [antiquaryref07_Ranges.l0]
    rw [if_neg (by omega), List.drop_of_length_le (by omega)]
    simp
  | succ d ih =>
    intro i hd hi
    have hlt : i < r.length := by omega
    have e : (r.drop i).all rightR = (rightR r[i] && (r.drop (i + 1)).all rightR) := by rw [List.drop_eq_getElem_cons hlt]; rfl
    have er := rr_at r i hlt
    by_cases h1 : r[i].f0 > r[i].f1
    · have : rightR r[i] = false := by unfold rightR; simp; omega
      rw [e, this]
      refine Ev.done fun k => ?_
      simp only [antiquaryref07_Ranges.l0]
      rw [if_pos (by omega), if_pos (by omega), er, if_pos h1]; simp
    · by_cases h2 : r[i].f0 < -1073741824
      · have : rightR r[i] = false := by unfold rightR; simp; omega
        rw [e, this]
        refine Ev.done fun k => ?_
        simp only [antiquaryref07_Ranges.l0]
        rw [if_pos (by omega), if_pos (by omega), er, if_neg h1, if_pos h2]; simp
      · by_cases h3 : r[i].f1 > 1073741824
        · have : rightR r[i] = false := by unfold rightR; simp; omega
          rw [e, this]
          refine Ev.done fun k => ?_
          simp only [antiquaryref07_Ranges.l0]
          rw [if_pos (by omega), if_pos (by omega), er, if_neg h1, if_neg h2, if_pos h3]; simp
        · have : rightR r[i] = true := by unfold rightR; simp; omega
          rw [e, this, Bool.true_and]
          refine Ev.step (fun k => ?_) (ih (i + 1) (by omega) (by omega))
          simp only [antiquaryref07_Ranges.l0]
          rw [if_pos (by omega), if_pos (by omega), er, if_neg h1, if_neg h2, if_neg h3, wr i _ hlt hl]
theorem ranges_f (r : List S45) (m : Int) (hl : r.length ≤ big) : Ev (fun k => antiquaryref07_Ranges.f k r m) (rangesB r m) := ranges_l r m hl r.length 0 (by omega) (by omega)
theorem rangesB_iff {r : List S45} {n : Int} (h : rangesB r n = true) : (r.length : Int) = n ∧ ∀ x ∈ r, x.f0 ≤ x.f1 ∧ -1073741824 ≤ x.f0 ∧ x.f1 ≤ 1073741824 := by
  unfold rangesB rightR at h
  simp at h
  exact ⟨h.2, fun x hx => by have := h.1 x hx; omega⟩
def metB (m : Int) : Bool := decide (1 ≤ m) && decide (m ≤ 3)
theorem metric_f (m : Int) : antiquaryref04_Metric.f m = some (metB m) := by
  unfold antiquaryref04_Metric.f metB
  by_cases h : m ≥ 1
  · rw [if_pos h]; simp; omega
  · rw [if_neg h]; simp; omega
theorem metB_iff {m : Int} (h : metB m = true) : m = 1 ∨ m = 2 ∨ m = 3 := by unfold metB at h; simp at h; omega

def absI (x : Int) : Int := if x < 0 then -x else x
def dotE : List Int → List Int → Int
  | a :: s, b :: t => a * b + dotE s t
  | _, _ => 0
def sumE : List Int → Int
  | [] => 0
  | a :: s => absI a + sumE s
def sqE : List Int → Int
  | [] => 0
  | a :: s => a * a + sqE s
def maxE : List Int → Int
  | [] => 0
  | a :: s => mx (absI a) (maxE s)
theorem absI_le {x b : Int} (h : -b ≤ x ∧ x ≤ b) : 0 ≤ absI x ∧ absI x ≤ b := by unfold absI; split <;> omega
theorem mul_le' {x y a b : Int} (hx : -a ≤ x ∧ x ≤ a) (hy : -b ≤ y ∧ y ≤ b) (hb : 0 ≤ b) : -(a * b) ≤ x * y ∧ x * y ≤ a * b := by
  have ha : 0 ≤ a := by omega
  have h1 : absI x * absI y ≤ a * b := Int.mul_le_mul (absI_le hx).2 (absI_le hy).2 (absI_le hy).1 ha
  have h2 : x * y ≤ absI x * absI y ∧ -(absI x * absI y) ≤ x * y := by
    unfold absI
    split <;> split
    · rw [Int.neg_mul_neg]
      have : 0 ≤ x * y := Int.mul_nonneg_of_nonpos_of_nonpos (by omega) (by omega)
      omega
    · rw [Int.neg_mul]
      have : x * y ≤ 0 := Int.mul_nonpos_of_nonpos_of_nonneg (by omega) (by omega)
      omega
    · rw [Int.mul_neg]
      have : x * y ≤ 0 := Int.mul_nonpos_of_nonneg_of_nonpos (by omega) (by omega)
      omega
    · have : 0 ≤ x * y := Int.mul_nonneg (by omega) (by omega)
      omega
  omega
/-- no product of such lists wraps: n + p: what is added -/
theorem dot_fold (A B : Int) (hA : 0 ≤ A) (hB : 0 ≤ B) (hAB : A * B ≤ 1000000000000) : ∀ (a b : List Int), (∀ x ∈ a, -A ≤ x ∧ x ≤ A) → (∀ x ∈ b, -B ≤ x ∧ x ≤ B) → ∀ n : Int, ∀ M : Nat, a.length ≤ M → M ≤ 100000 → -(1000000000000 * (100000 - M)) ≤ n → n ≤ 1000000000000 * (100000 - M) →
    (a.zip b).foldl (fun n p => wrap64 (n + wrap64 (p.1 * p.2))) n = n + dotE a b
  | [], b, _, _, n, M, _, _, _, _ => by simp [dotE]
  | x :: a, [], _, _, n, M, _, _, _, _ => by simp [dotE]
  | x :: a, y :: b, ha, hb, n, M, hM, hM2, h1, h2 => by
    obtain ⟨p1, p2⟩ := mul_le' (ha x (.head _)) (hb y (.head _)) hB
    have hM' : 1 ≤ M := by simp only [List.length_cons] at hM; omega
    rw [List.zip_cons_cons, List.foldl_cons]
    simp only [dotE]
    rw [w64 (n := x * y) (by omega) (by omega), w64 (n := n + x * y) (by omega) (by omega),
      dot_fold A B hA hB hAB a b (fun z hz => ha z (.tail _ hz)) (fun z hz => hb z (.tail _ hz)) _ (M - 1) (by simp only [List.length_cons] at hM; omega) (by omega) (by omega) (by omega)]
    omega
theorem dotV_exact (A B : Int) (hA : 0 ≤ A) (hB : 0 ≤ B) (hAB : A * B ≤ 1000000000000) (a b : List Int) (hl : a.length ≤ 100000) (ha : ∀ x ∈ a, -A ≤ x ∧ x ≤ A) (hb : ∀ x ∈ b, -B ≤ x ∧ x ≤ B) : dotV a b = dotE a b := by
  have := dot_fold A B hA hB hAB a b ha hb 0 100000 hl (by omega) (by omega) (by omega)
  unfold dotV
  rw [this]; omega
theorem dotE_le (A B : Int) (hA : 0 ≤ A) (hB : 0 ≤ B) : ∀ (a b : List Int), (∀ x ∈ a, -A ≤ x ∧ x ≤ A) → (∀ x ∈ b, -B ≤ x ∧ x ≤ B) → -(A * B * a.length) ≤ dotE a b ∧ dotE a b ≤ A * B * a.length
  | [], b, _, _ => by simp [dotE]
  | x :: a, [], _, _ => by
    have : 0 ≤ A * B := Int.mul_nonneg hA hB
    have : 0 ≤ A * B * ((x :: a).length : Int) := Int.mul_nonneg this (by omega)
    simp only [dotE]; omega
  | x :: a, y :: b, ha, hb => by
    obtain ⟨p1, p2⟩ := mul_le' (ha x (.head _)) (hb y (.head _)) hB
    obtain ⟨q1, q2⟩ := dotE_le A B hA hB a b (fun z hz => ha z (.tail _ hz)) (fun z hz => hb z (.tail _ hz))
    simp only [dotE, List.length_cons, Int.natCast_add, Int.natCast_one, Int.mul_add, Int.mul_one]
    omega
theorem norm_fold1 (A : Int) (hA : A ≤ 1000000000000) : ∀ (l : List Int), (∀ x ∈ l, -A ≤ x ∧ x ≤ A) → ∀ n : Int, ∀ M : Nat, l.length ≤ M → M ≤ 100000 → 0 ≤ n → n ≤ 1000000000000 * (100000 - M) → l.foldl nS n = n + sumE l
  | [], _, n, M, _, _, _, _ => by simp [sumE]
  | x :: l, h, n, M, hM, hM2, h1, h2 => by
    have hx := h x (.head _)
    obtain ⟨a1, a2⟩ := absI_le hx
    have hM' : 1 ≤ M := by simp only [List.length_cons] at hM; omega
    have e : nS n x = n + absI x := by
      unfold nS mx
      rw [w64 (n := -x) (by omega) (by omega)]
      have : (if x < -x then -x else x) = absI x := by unfold absI; split <;> split <;> omega
      rw [this, w64 (by omega) (by omega)]
    rw [List.foldl_cons, e, norm_fold1 A hA l (fun z hz => h z (.tail _ hz)) _ (M - 1) (by simp only [List.length_cons] at hM; omega) (by omega) (by omega) (by omega)]
    simp only [sumE]; omega
theorem norm_fold2 (A : Int) (h0 : 0 ≤ A) (hA : A * A ≤ 1000000000000) : ∀ (l : List Int), (∀ x ∈ l, -A ≤ x ∧ x ≤ A) → ∀ n : Int, ∀ M : Nat, l.length ≤ M → M ≤ 100000 → 0 ≤ n → n ≤ 1000000000000 * (100000 - M) → l.foldl nE n = n + sqE l
  | [], _, n, M, _, _, _, _ => by simp [sqE]
  | x :: l, h, n, M, hM, hM2, h1, h2 => by
    have hx := h x (.head _)
    obtain ⟨p1, p2⟩ := mul_le' hx hx h0
    have hs : 0 ≤ x * x := by
      rcases Int.le_total 0 x with hx | hx
      · exact Int.mul_nonneg hx hx
      · exact Int.mul_nonneg_of_nonpos_of_nonpos hx hx
    have hM' : 1 ≤ M := by simp only [List.length_cons] at hM; omega
    have e : nE n x = n + x * x := by
      unfold nE
      rw [w64 (n := x * x) (by omega) (by omega), w64 (by omega) (by omega)]
    rw [List.foldl_cons, e, norm_fold2 A h0 hA l (fun z hz => h z (.tail _ hz)) _ (M - 1) (by simp only [List.length_cons] at hM; omega) (by omega) (by omega) (by omega)]
    simp only [sqE]; omega
theorem maxE_nn : ∀ l : List Int, 0 ≤ maxE l
  | [] => by simp [maxE]
  | a :: s => by have := maxE_nn s; unfold maxE mx; split <;> omega
theorem norm_fold3 (A : Int) (hA : A ≤ 1000000000000) : ∀ (l : List Int), (∀ x ∈ l, -A ≤ x ∧ x ≤ A) → ∀ n : Int, 0 ≤ n → l.foldl nM n = mx n (maxE l)
  | [], _, n, h => by
    have : mx n (maxE []) = n := by unfold mx; exact if_neg (show ¬ n < 0 by omega)
    rw [this]; rfl
  | x :: l, h, n, h1 => by
    have hx := h x (.head _)
    obtain ⟨a1, a2⟩ := absI_le hx
    have e : nM n x = mx n (absI x) := by
      unfold nM mx absI
      rw [w64 (n := -x) (by omega) (by omega)]
      split <;> split <;> split <;> (try split) <;> omega
    have hn : 0 ≤ nM n x := by rw [e]; unfold mx; split <;> omega
    rw [List.foldl_cons, norm_fold3 A hA l (fun z hz => h z (.tail _ hz)) _ hn, e]
    simp only [maxE]
    have := maxE_nn l
    unfold mx
    split <;> split <;> (try split) <;> (try split) <;> omega
/-- the norms, exactly -/
def normX (m : Int) (l : List Int) : Int := if m = 1 then sumE l else if m = 2 then sqE l else maxE l
theorem normV_exact (m A : Int) (h0 : 0 ≤ A) (hA : A * A ≤ 1000000000000) (l : List Int) (hl : l.length ≤ 100000) (h : ∀ x ∈ l, -A ≤ x ∧ x ≤ A) : normV m l = normX m l := by
  have hA1 : A ≤ 1000000000000 := by
    rcases Int.lt_or_le A 1 with h | h
    · omega
    · have : A * 1 ≤ A * A := Int.mul_le_mul_of_nonneg_left h h0
      omega
  unfold normV normF normX
  split
  · rw [norm_fold1 A hA1 l h 0 100000 hl (by omega) (by omega) (by omega)]; omega
  · split
    · rw [norm_fold2 A h0 hA l h 0 100000 hl (by omega) (by omega) (by omega)]; omega
    · rw [norm_fold3 A hA1 l h 0 (by omega)]
      unfold mx; have := maxE_nn l; split <;> omega
theorem size_f (x : Int) (h : -4611686018427387904 ≤ x ∧ x ≤ 4611686018427387904) : antiquaryref04_size.f x = some (absI x) := by
  unfold antiquaryref04_size.f absI
  split
  · rw [w64 (by omega) (by omega)]
  · rfl
theorem norm_l (m : Int) (l : List Int) (hl : l.length ≤ big) (h : ∀ x ∈ l, -1000000 ≤ x ∧ x ≤ 1000000) (d : Nat) : ∀ i : Nat, l.length - i = d → i ≤ l.length → Ev (fun k => antiquaryref04_Norm.l0 k m l (normV m (l.take i)) (i : Int)) (normV m l) := by
  induction d with
  | zero =>
    intro i hd hi
    refine Ev.done fun k => ?_
    simp only [antiquaryref04_Norm.l0]
    rw [if_neg (by omega), List.take_of_length_le (by omega)]
  | succ d ih =>
    intro i hd hi
    have hlt : i < l.length := by omega
    have hx := h _ (List.getElem_mem hlt)
    have hs := size_f l[i] (by omega)
    refine Ev.step (fun k => ?_) (ih (i + 1) (by omega) (by omega))
    have e : normV m (l.take (i + 1)) = normF m (normV m (l.take i)) l[i] := by unfold normV; rw [List.take_succ_eq_append_getElem hlt, List.foldl_append]; rfl
    rw [e]
    have hrd := rd_at l i hlt
    have hneg : wrap64 (-l[i]) = -l[i] := w64 (by omega) (by omega)
    simp only [antiquaryref04_Norm.l0]
    rw [if_pos (by omega)]
    unfold normF
    by_cases m1 : m = 1
    · rw [if_pos m1, if_pos (by omega), hrd, hs, if_pos m1]
      simp only [Option.bind_some]
      rw [wr i _ hlt hl]
      have e1 : mx l[i] (wrap64 (-l[i])) = absI l[i] := by unfold mx absI; rw [hneg]; split <;> split <;> omega
      have e2 : nS (normV 1 (l.take i)) l[i] = wrap64 (normV 1 (l.take i) + absI l[i]) := by unfold nS; rw [e1]
      rw [m1, e2]
    · rw [if_neg m1, if_neg m1]
      by_cases m2 : m = 2
      · rw [if_pos m2, if_pos (by omega), hrd, if_pos m2, wr i _ hlt hl]
        rfl
      · rw [if_neg m2, if_pos (by omega), hrd, hs, if_neg m2]
        simp only [Option.bind_some]
        rw [wr i _ hlt hl]
        have e2 : ∀ n, nM n l[i] = mx n (absI l[i]) := by
          intro n
          unfold nM mx absI
          rw [hneg]
          split <;> split <;> split <;> (try split) <;> omega
        rw [e2]
theorem norm_f (m : Int) (l : List Int) (hl : l.length ≤ big) (h : ∀ x ∈ l, -1000000 ≤ x ∧ x ≤ 1000000) : Ev (fun k => antiquaryref04_Norm.f k m l) (normV m l) := norm_l m l hl h l.length 0 (by omega) (by omega)
theorem up_eq (n b : Int) (h0 : 0 ≤ n) (h1 : 0 < b) : upV n b = if n / b * b < n then n / b + 1 else n / b := by
  unfold upV
  have hd := Int.emod_add_mul_ediv n b
  have h2 := Int.emod_nonneg n (show b ≠ 0 by omega)
  have h3 := Int.emod_lt_of_pos n h1
  have hc : n / b * b = b * (n / b) := Int.mul_comm _ _
  split
  · rename_i hlt
    rw [show n + b - 1 = (n % b - 1) + (n / b + 1) * b by rw [Int.add_mul]; omega, Int.add_mul_ediv_right _ _ (show b ≠ 0 by omega), Int.ediv_eq_zero_of_lt (by omega) (by omega)]
    omega
  · rename_i hge
    rw [show n + b - 1 = (b - 1) + (n / b) * b by omega, Int.add_mul_ediv_right _ _ (show b ≠ 0 by omega), Int.ediv_eq_zero_of_lt (by omega) (by omega)]
    omega
theorem refup_f (n b : Int) (h0 : 0 ≤ n) (h1 : 0 < b) (h2 : n ≤ 4000000000000000000) (h3 : b ≤ 1000000) : antiquaryref07_up.f n b = some (upV n b) := by
  have hq0 : 0 ≤ n / b := Int.ediv_nonneg h0 (by omega)
  have hq1 : n / b ≤ n := Int.ediv_le_self _ h0
  have hm : n / b * b ≤ n := Int.ediv_mul_le n (show b ≠ 0 by omega)
  have hm0 : 0 ≤ n / b * b := Int.mul_nonneg hq0 (by omega)
  unfold antiquaryref07_up.f
  rw [if_neg (by omega), Int.tdiv_eq_ediv_of_nonneg h0, w64 (n := n / b) (by omega) (by omega), w64 (n := n / b * b) (by omega) (by omega), w64 (n := n / b + 1) (by omega) (by omega), up_eq n b h0 h1]
  split <;> rfl

structure Line (l : List Int) (n : Nat) : Prop where
  len : l.length = n
  dim : 1 ≤ n ∧ n ≤ 32
  bd : ∀ x ∈ l, -16 ≤ x ∧ x ≤ 16
  nz : ∃ x ∈ l, x ≠ 0
theorem valid_line {lines : List (List Int)} {n : Nat} (h : validV lines (n : Int) = true) : 1 ≤ lines.length ∧ lines.length ≤ 8 ∧ ∀ l ∈ lines, Line l n := by
  obtain ⟨h1, h2, h3, h4, h5⟩ := validV_iff h
  refine ⟨h3, h4, fun l hl => ?_⟩
  obtain ⟨a, b, c⟩ := h5 l hl
  exact ⟨by omega, ⟨by omega, by omega⟩, b, c⟩
theorem sumE_pos : ∀ l : List Int, 0 ≤ sumE l ∧ ((∃ x ∈ l, x ≠ 0) → 0 < sumE l)
  | [] => ⟨by simp [sumE], fun ⟨x, hx, _⟩ => by cases hx⟩
  | a :: s => by
    obtain ⟨h1, h2⟩ := sumE_pos s
    have h3 : 0 ≤ absI a := by unfold absI; split <;> omega
    refine ⟨by simp only [sumE]; omega, fun ⟨x, hx, hz⟩ => ?_⟩
    simp only [sumE]
    rcases List.mem_cons.1 hx with rfl | hx
    · have : 0 < absI x := by unfold absI; split <;> omega
      omega
    · have := h2 ⟨x, hx, hz⟩; omega
theorem sq_nn (x : Int) : 0 ≤ x * x := by
  rcases Int.le_total 0 x with hx | hx
  · exact Int.mul_nonneg hx hx
  · exact Int.mul_nonneg_of_nonpos_of_nonpos hx hx
theorem sq_pos {x : Int} (h : x ≠ 0) : 0 < x * x := by
  rcases Int.lt_or_lt_of_ne h with hx | hx
  · exact Int.mul_pos_of_neg_of_neg hx hx
  · exact Int.mul_pos hx hx
theorem sqE_pos : ∀ l : List Int, 0 ≤ sqE l ∧ ((∃ x ∈ l, x ≠ 0) → 0 < sqE l)
  | [] => ⟨by simp [sqE], fun ⟨x, hx, _⟩ => by cases hx⟩
  | a :: s => by
    obtain ⟨h1, h2⟩ := sqE_pos s
    have h3 := sq_nn a
    refine ⟨by simp only [sqE]; omega, fun ⟨x, hx, hz⟩ => ?_⟩
    simp only [sqE]
    rcases List.mem_cons.1 hx with rfl | hx
    · have := sq_pos hz; omega
    · have := h2 ⟨x, hx, hz⟩; omega
theorem maxE_pos : ∀ l : List Int, (∃ x ∈ l, x ≠ 0) → 0 < maxE l
  | [] => fun ⟨x, hx, _⟩ => by cases hx
  | a :: s => fun ⟨x, hx, hz⟩ => by
    have h1 := maxE_nn s
    rcases List.mem_cons.1 hx with rfl | hx
    · have : 0 < absI x := by unfold absI; split <;> omega
      simp only [maxE]; unfold mx; split <;> omega
    · have := maxE_pos s ⟨x, hx, hz⟩
      simp only [maxE]; unfold mx; split <;> omega
theorem sumE_le (A : Int) (hA : 0 ≤ A) : ∀ l : List Int, (∀ x ∈ l, -A ≤ x ∧ x ≤ A) → sumE l ≤ A * l.length
  | [], _ => by simp [sumE]
  | a :: s, h => by
    have := sumE_le A hA s fun x hx => h x (.tail _ hx)
    have := (absI_le (h a (.head _))).2
    simp only [sumE, List.length_cons, Int.natCast_add, Int.natCast_one, Int.mul_add, Int.mul_one]; omega
theorem sqE_le (A : Int) (hA : 0 ≤ A) : ∀ l : List Int, (∀ x ∈ l, -A ≤ x ∧ x ≤ A) → sqE l ≤ A * A * l.length
  | [], _ => by simp [sqE]
  | a :: s, h => by
    have := sqE_le A hA s fun x hx => h x (.tail _ hx)
    have := (mul_le' (h a (.head _)) (h a (.head _)) hA).2
    simp only [sqE, List.length_cons, Int.natCast_add, Int.natCast_one, Int.mul_add, Int.mul_one]; omega
theorem maxE_le (A : Int) (hA : 0 ≤ A) : ∀ l : List Int, (∀ x ∈ l, -A ≤ x ∧ x ≤ A) → maxE l ≤ A
  | [], _ => by simpa [maxE] using hA
  | a :: s, h => by
    have := maxE_le A hA s fun x hx => h x (.tail _ hx)
    have := (absI_le (h a (.head _))).2
    simp only [maxE]; unfold mx; split <;> omega
theorem line_norm {l : List Int} {n : Nat} (h : Line l n) (m : Int) : normV m l = normX m l ∧ 0 < normX m l ∧ normX m l ≤ 8192 := by
  have hl := h.len
  have hd := h.dim
  refine ⟨normV_exact m 16 (by omega) (by decide) l (by omega) h.bd, ?_, ?_⟩
  · unfold normX
    split
    · exact (sumE_pos l).2 h.nz
    · split
      · exact (sqE_pos l).2 h.nz
      · exact maxE_pos l h.nz
  · have h1 := sumE_le 16 (by omega) l h.bd
    have h2 := sqE_le 16 (by omega) l h.bd
    have h3 := maxE_le 16 (by omega) l h.bd
    unfold normX
    split
    · omega
    · split <;> omega
theorem line_dot {l q : List Int} {n : Nat} (h : Line l n) (A : Int) (hA : 0 ≤ A) (hA2 : A ≤ 100000) (hq : ∀ x ∈ q, -A ≤ x ∧ x ≤ A) : dotV l q = dotE l q ∧ -(512 * A) ≤ dotE l q ∧ dotE l q ≤ 512 * A := by
  have hl := h.len
  have hd := h.dim
  refine ⟨dotV_exact 16 A (by omega) hA (by omega) l q (by omega) h.bd hq, ?_⟩
  obtain ⟨h1, h2⟩ := dotE_le 16 A (by omega) hA l q h.bd hq
  have hp : 0 ≤ 16 * A := by omega
  have : 16 * A * (l.length : Int) ≤ 16 * A * 32 := Int.mul_le_mul_of_nonneg_left (by omega) hp
  omega
/-- the gap, exactly -/
def gapX (l q : List Int) (r : S45) : Int := mx (mx 0 (r.f0 - dotE l q)) (dotE l q - r.f1)
theorem gap_exact {l q : List Int} {n : Nat} (h : Line l n) (hq : ∀ x ∈ q, -1000 ≤ x ∧ x ≤ 1000) (r : S45) (hr : -1073741824 ≤ r.f0 ∧ r.f0 ≤ r.f1 ∧ r.f1 ≤ 1073741824) : gapOf l q r = gapX l q r ∧ 0 ≤ gapX l q r ∧ gapX l q r ≤ 1074300000 := by
  obtain ⟨h1, h2, h3⟩ := line_dot h 1000 (by omega) (by omega) hq
  unfold gapOf gapX
  rw [h1, w64 (by omega) (by omega), w64 (by omega) (by omega)]
  unfold mx
  refine ⟨rfl, ?_, ?_⟩ <;> split <;> split <;> omega
theorem gN_exact {g : Int} (m : Int) (h0 : 0 ≤ g) (h1 : g ≤ 1074300000) : gN m g = (if m = 2 then g * g else g) ∧ 0 ≤ gN m g ∧ gN m g ≤ 2000000000000000000 := by
  have hs : g * g ≤ 1074300000 * 1074300000 := Int.mul_le_mul h1 h1 h0 (by omega)
  have hs0 := sq_nn g
  unfold gN
  split
  · rw [w64 (by omega) (by omega)]; exact ⟨rfl, hs0, by omega⟩
  · exact ⟨rfl, h0, by omega⟩
theorem ok_line {l q : List Int} {n : Nat} (h : Line l n) (hq : ∀ x ∈ q, -1000 ≤ x ∧ x ≤ 1000) (r : S45) (hr : -1073741824 ≤ r.f0 ∧ r.f0 ≤ r.f1 ∧ r.f1 ≤ 1073741824) (m : Int) : okG m (gapOf l q r) l = true := by
  obtain ⟨h1, h2, h3⟩ := gap_exact h hq r hr
  rw [h1]
  obtain ⟨_, g2, g3⟩ := gN_exact m h2 h3
  have hn : 0 < nrm m l ∧ nrm m l ≤ 8192 := by
    unfold nrm
    split
    · obtain ⟨e, a, b⟩ := line_norm h 2; rw [e]; exact ⟨a, b⟩
    · split
      · obtain ⟨e, a, b⟩ := line_norm h 1; rw [e]; exact ⟨a, b⟩
      · obtain ⟨e, a, b⟩ := line_norm h 3; rw [e]; exact ⟨a, b⟩
  unfold okG
  exact decide_eq_true ⟨g2, hn.1, by omega⟩
/-- what a law may take from Bound, Apply, Of .. -/
structure Sett (lines : List (List Int)) (q : List Int) : Prop where
  line : ∀ l ∈ lines, Line l q.length
  le8 : lines.length ≤ 8
  ge1 : 1 ≤ lines.length
  bd : ∀ x ∈ q, -1000 ≤ x ∧ x ≤ 1000
theorem sett {lines : List (List Int)} {q : List Int} (h1 : v04 q = true) (h2 : validV lines (q.length : Int) = true) : Sett lines q := by
  obtain ⟨a, b, c⟩ := valid_line h2
  exact ⟨c, b, a, (v04_iff h1).1⟩
theorem Sett.fit {lines : List (List Int)} {q : List Int} (h : Sett lines q) : fitB lines q.length = true := List.all_eq_true.2 fun l hl => decide_eq_true (by have := (h.line l hl).len; omega)
def right (r : List S45) : Prop := ∀ x ∈ r, -1073741824 ≤ x.f0 ∧ x.f0 ≤ x.f1 ∧ x.f1 ≤ 1073741824
theorem bound_f {lines : List (List Int)} {q : List Int} (h : Sett lines q) (r : List S45) (hr : right r) (hl : lines.length ≤ r.length) (m : Int) : project_Bound.f m lines r q = some (boundV m lines r q) := by
  unfold project_Bound.f
  rw [if_pos]
  refine ⟨by have := h.le8; omega, hl, h.fit, List.all_eq_true.2 fun p hp => ?_⟩
  have := List.of_mem_zip (a := p.1) (b := p.2) hp
  exact ok_line (h.line _ this.1) h.bd p.2 (hr _ this.2) m
theorem one_f {l q : List Int} {n : Nat} (h : Line l n) (hl : l.length ≤ q.length) (hq : ∀ x ∈ q, -1000 ≤ x ∧ x ≤ 1000) (r : S45) (hr : -1073741824 ≤ r.f0 ∧ r.f0 ≤ r.f1 ∧ r.f1 ≤ 1073741824) (m : Int) (hm : m = 1 ∨ m = 2 ∨ m = 3) :
    Ev (fun k => antiquaryref07_One.f k m l r.f0 r.f1 q) (oneV m q l r) := by
  have hlen := h.len
  have hdim := h.dim
  have hb : l.length ≤ big := by unfold big; omega
  have hbd : ∀ x ∈ l, -1000000 ≤ x ∧ x ≤ 1000000 := fun x hx => by have := h.bd x hx; omega
  obtain ⟨g1, g2, g3⟩ := gap_exact h hq r hr
  unfold antiquaryref07_One.f
  refine Ev.bind (dot_f l q hb hl) ?_
  have hg : gapOf l q r = mx (mx 0 (wrap64 (r.f0 - dotV l q))) (wrap64 (dotV l q - r.f1)) := rfl
  rw [← hg]
  unfold oneV gapV
  rw [g1]
  rcases hm with rfl | rfl | rfl
  · simp only [if_true]
    refine Ev.bind (norm_f 3 l hb hbd) ?_
    obtain ⟨e, a, b⟩ := line_norm h 3
    obtain ⟨n1, n2, n3⟩ := gN_exact 1 g2 g3
    rw [if_neg (by decide)] at n1
    have hu := refup_f (gapX l q r) (normV 3 l) (by omega) (by omega) (by omega) (by omega)
    have e2 : nrm 1 l = normV 3 l := rfl
    rw [hu, n1, e2]
    exact Ev.now _
  · have h1 : ¬ ((2 : Int) = 1) := by decide
    simp only [if_neg h1, if_true]
    refine Ev.bind (norm_f 2 l hb hbd) ?_
    obtain ⟨e, a, b⟩ := line_norm h 2
    obtain ⟨n1, n2, n3⟩ := gN_exact 2 g2 g3
    have e1 : wrap64 (gapX l q r * gapX l q r) = gN 2 (gapX l q r) := rfl
    have hu := refup_f (gN 2 (gapX l q r)) (normV 2 l) (by omega) (by omega) (by omega) (by omega)
    have e2 : nrm 2 l = normV 2 l := rfl
    rw [e1, hu, e2]
    exact Ev.now _
  · have h1 : ¬ ((3 : Int) = 1) := by decide
    have h2 : ¬ ((3 : Int) = 2) := by decide
    simp only [if_neg h1, if_neg h2]
    refine Ev.bind (norm_f 1 l hb hbd) ?_
    obtain ⟨e, a, b⟩ := line_norm h 1
    obtain ⟨n1, n2, n3⟩ := gN_exact 3 g2 g3
    rw [if_neg (by decide)] at n1
    have hu := refup_f (gapX l q r) (normV 1 l) (by omega) (by omega) (by omega) (by omega)
    have e2 : nrm 3 l = normV 1 l := rfl
    rw [hu, n1, e2]
    exact Ev.now _
theorem refbound_l {lines : List (List Int)} {q : List Int} (h : Sett lines q) (r : List S45) (hr : right r) (hl : lines.length ≤ r.length) (m : Int) (hm : m = 1 ∨ m = 2 ∨ m = 3) (d : Nat) : ∀ i : Nat, lines.length - i = d → i ≤ lines.length → Ev (fun k => antiquaryref07_Bound.l0 k m lines r q (boundV m (lines.take i) r q) (i : Int)) (boundV m lines r q) := by
  have h8 := h.le8
  induction d with
  | zero =>
    intro i hd hi
    refine Ev.done fun k => ?_
    simp only [antiquaryref07_Bound.l0]
    rw [if_neg (by omega), List.take_of_length_le (by omega)]
  | succ d ih =>
    intro i hd hi
    have hlt : i < lines.length := by omega
    have hlt2 : i < r.length := by omega
    have hm1 := List.getElem_mem hlt
    have hnext := ih (i + 1) (by omega) (by omega)
    rw [boundV_succ m lines r q i hlt hlt2] at hnext
    have h1 := one_f (h.line _ hm1) (by have := (h.line _ hm1).len; omega) h.bd r[i] (hr _ (List.getElem_mem hlt2)) m hm
    refine Ev.step (f := fun k => (antiquaryref07_One.f k m lines[i] r[i].f0 r[i].f1 q).bind fun t => antiquaryref07_Bound.l0 k m lines r q (mx (boundV m (lines.take i) r q) t) ((i + 1 : Nat) : Int)) (fun k => ?_) (Ev.bind h1 hnext)
    simp only [antiquaryref07_Bound.l0]
    rw [if_pos (by omega), if_pos (by omega), if_pos (by omega), rl_at lines i hlt, rr_at r i hlt2, wr i lines.length hlt (by unfold big; omega)]
theorem refbound_f {lines : List (List Int)} {q : List Int} (h : Sett lines q) (r : List S45) (hr : right r) (hl : lines.length ≤ r.length) (m : Int) (hm : m = 1 ∨ m = 2 ∨ m = 3) : Ev (fun k => antiquaryref07_Bound.f k m lines r q) (boundV m lines r q) := refbound_l h r hr hl m hm lines.length 0 (by omega) (by omega)
end Go.Proofs.YticponffemffnaaDoor.Pure
end
section
set_option linter.unusedVariables false
set_option linter.unusedSimpArgs false
namespace Go.Proofs.YticponffemffnaaDoor.Pure
open Go Go.RowKit Go.Lx Go.Proofs.YticponffemffnaaDoor Go.Proofs.YticponffemffnaaDoor.P Go.Proofs.YticponffemffnaaDoor.Ext Go.Proofs.YticponffemffnaaDoorW.PrintWords Go.Proofs.YticponffemffnaaDoorW.PrintLast
theorem right_of {r : List S45} {n : Int} (h : rangesB r n = true) : right r := fun x hx => by have := (rangesB_iff h).2 x hx; omega

end Go.Proofs.YticponffemffnaaDoor.Pure
end
