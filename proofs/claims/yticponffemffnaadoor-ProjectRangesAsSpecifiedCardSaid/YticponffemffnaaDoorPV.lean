/- One text out of: Pu1, Pu, Pv, Pw, Pb, Pf. -/
import Derived.Test.YticponffemffnaaDoorXA
import Derived.Test.YticponffemffnaaDoorP2
import Derived.Test.YticponffemffnaaDoorP3
import Derived.Test.YticponffemffnaaDoorP5
import Derived.Test.YticponffemffnaaDoorCheckedLc
import Derived.Test.YticponffemffnaaDoorCheckedLf0
import Derived.Test.YticponffemffnaaDoorCheckedLf1
import Derived.Test.YticponffemffnaaDoorCheckedLf2
import Derived.Test.YticponffemffnaaDoorCheckedLf3
import Derived.Test.YticponffemffnaaDoorProg
import Derived.Test.YticponffemffnaaDoorWA
import Derived.Test.YticponffemffnaaDoorWB
import Derived.Test.YticponffemffnaaDoorP0
import Derived.Test.YticponffemffnaaDoorK
import Derived.Test.YticponffemffnaaDoorP1
import Derived.Test.YticponffemffnaaDoorP8
import Derived.Test.YticponffemffnaaDoorP9
import Derived.Test.YticponffemffnaaDoorP10
import Derived.Test.YticponffemffnaaDoorP11
section
set_option linter.unusedVariables false
set_option linter.unusedSimpArgs false
namespace Go.Proofs.YticponffemffnaaDoor.Pure
open Go Go.RowKit Go.Lx Go.Proofs.YticponffemffnaaDoor Go.Proofs.YticponffemffnaaDoor.P Go.Proofs.YticponffemffnaaDoor.Ext Go.Proofs.YticponffemffnaaDoorW.PrintWords Go.Proofs.YticponffemffnaaDoorW.PrintLast
def big : Nat := 9223372036854775807
theorem rd_at (a : List Int) (i : Nat) (h : i < a.length) : rd a (i : Int) = a[i] := by
  unfold rd; rw [Int.toNat_natCast, List.getD_eq_getElem?_getD, List.getElem?_eq_getElem h]; rfl
theorem rl_at (a : List (List Int)) (i : Nat) (h : i < a.length) : rd_L1 a (i : Int) = a[i] := by
  unfold rd_L1; rw [Int.toNat_natCast, List.getD_eq_getElem?_getD, List.getElem?_eq_getElem h]; rfl
theorem rr_at (a : List S45) (i : Nat) (h : i < a.length) : rd_T45 a (i : Int) = a[i] := rd_T45_at a i h
theorem wr (i n : Nat) (h : i < n) (hn : n ≤ big) : wrap64 ((i : Int) + 1) = ((i + 1 : Nat) : Int) := by unfold big at hn; unfold wrap64; omega
/-- one round, and what is left -/
theorem Ev.to {α : Type} {g f : Nat → Option α} {r r' : α} (hg : ∀ k, g (k + 1) = f k) (hf : Ev f r') (h : r' = r) : Ev g r := h ▸ Ev.step hg hf
theorem Ev.done {α : Type} {g : Nat → Option α} {r : α} (hg : ∀ k, g (k + 1) = some r) : Ev g r := Ev.step (f := fun _ => some r) hg (Ev.now r)
end Go.Proofs.YticponffemffnaaDoor.Pure
end
section
set_option linter.unusedVariables false
set_option linter.unusedSimpArgs false
namespace Go.Proofs.YticponffemffnaaDoor.Pure
open Go Go.RowKit Go.Lx Go.Proofs.YticponffemffnaaDoor Go.Proofs.YticponffemffnaaDoor.P Go.Proofs.YticponffemffnaaDoor.Ext Go.Proofs.YticponffemffnaaDoorW.PrintWords Go.Proofs.YticponffemffnaaDoorW.PrintLast
def inB (x : Int) : Bool := decide (-1000 ≤ x) && decide (x ≤ 1000)
def v04 (l : List Int) : Bool := l.all inB && decide (1 ≤ l.length) && decide (l.length ≤ 32)
theorem v04_l (l : List Int) (hl : l.length ≤ big) (d : Nat) : ∀ i : Nat, l.length - i = d → i ≤ l.length → Ev (fun k => antiquaryref04_Valid.l0 k l (i : Int)) ((l.drop i).all inB && decide (1 ≤ l.length) && decide (l.length ≤ 32)) := by
  induction d with
  | zero =>
    intro i hd hi
    refine Ev.done fun k => ?_
    simp only [antiquaryref04_Valid.l0]
    rw [if_neg (by omega), List.drop_of_length_le (by omega)]
    by_cases h1 : (l.length : Int) ≥ 1
    · have e : decide (1 ≤ l.length) = true := decide_eq_true (by omega)
      have e2 : decide ((l.length : Int) ≤ 32) = decide (l.length ≤ 32) := decide_eq_decide.2 (by omega)
      rw [if_pos h1, e, e2]; simp
    · have e : decide (1 ≤ l.length) = false := decide_eq_false (by omega)
      rw [if_neg h1, e]; simp
  | succ d ih =>
    intro i hd hi
    have hlt : i < l.length := by omega
    have e : (l.drop i).all inB = (inB l[i] && (l.drop (i + 1)).all inB) := by rw [List.drop_eq_getElem_cons hlt]; rfl
    by_cases h1 : l[i] < -1000
    · refine Ev.to (f := fun _ => some false) (fun k => ?_) (Ev.now _) ?_
      · simp only [antiquaryref04_Valid.l0]
        rw [if_pos (by omega), if_pos (by omega), rd_at l i hlt, if_pos h1]
      · have : inB l[i] = false := by unfold inB; simp; omega
        rw [e, this]; simp
    · by_cases h2 : l[i] > 1000
      · refine Ev.to (f := fun _ => some false) (fun k => ?_) (Ev.now _) ?_
        · simp only [antiquaryref04_Valid.l0]
          rw [if_pos (by omega), if_pos (by omega), rd_at l i hlt, if_neg h1, if_pos h2]
        · have : inB l[i] = false := by unfold inB; simp; omega
          rw [e, this]; simp
      · refine Ev.to (fun k => ?_) (ih (i + 1) (by omega) (by omega)) ?_
        · simp only [antiquaryref04_Valid.l0]
          rw [if_pos (by omega), if_pos (by omega), rd_at l i hlt, if_neg h1, if_neg h2, wr i _ hlt hl]
        · rw [e]
          have : inB l[i] = true := by unfold inB; simp; omega
          rw [this]; simp
theorem v04_f (l : List Int) (hl : l.length ≤ big) : Ev (fun k => antiquaryref04_Valid.f k l) (v04 l) := v04_l l hl l.length 0 (by omega) (by omega)
theorem v04_iff {l : List Int} (h : v04 l = true) : (∀ x ∈ l, -1000 ≤ x ∧ x ≤ 1000) ∧ 1 ≤ l.length ∧ l.length ≤ 32 := by
  unfold v04 inB at h
  simp at h
  exact ⟨fun x hx => h.1.1 x hx, h.1.2, h.2⟩
def alikeB (a b : List Int) : Bool := v04 a && v04 b && decide (a.length = b.length)
theorem alike_f (a b : List Int) (ha : a.length ≤ big) (hb : b.length ≤ big) : Ev (fun k => antiquaryref04_Alike.f k a b) (alikeB a b) := by
  have h1 := v04_f a ha
  have h2 := v04_f b hb
  unfold antiquaryref04_Alike.f alikeB
  refine Ev.bind h1 ?_
  cases v04 a
  · exact Ev.now false
  · refine Ev.bind h2 ?_
    cases v04 b
    · exact Ev.now false
    · have e : ((a.length : Int) == (b.length : Int)) = (true && true && decide (a.length = b.length)) := by
        rw [Bool.eq_iff_iff]; simp; omega
      simp only [if_true, e]
      exact Ev.now _
def allB (l : List (List Int)) (most : Int) : Bool := match l with
  | [] => false
  | q :: qs => (q :: qs).all (alikeB q) && decide (((q :: qs).length : Int) ≤ most)
theorem all_l (q : List Int) (qs : List (List Int)) (m : Int) (hl : (q :: qs).length ≤ big) (hr : ∀ r ∈ q :: qs, r.length ≤ big) (d : Nat) : ∀ i : Nat, (q :: qs).length - i = d → i ≤ (q :: qs).length →
    Ev (fun k => antiquaryref04_All.l0 k (q :: qs) m (i : Int)) (((q :: qs).drop i).all (alikeB q) && decide (((q :: qs).length : Int) ≤ m)) := by
  have hp : (0 : Int) < ((q :: qs).length : Int) := by simp only [List.length_cons]; omega
  have h0 : rd_L1 (q :: qs) 0 = q := rfl
  induction d with
  | zero =>
    intro i hd hi
    refine Ev.done fun k => ?_
    simp only [antiquaryref04_All.l0]
    rw [if_neg (by omega), List.drop_of_length_le (by omega), if_pos (by omega)]
    simp
  | succ d ih =>
    intro i hd hi
    have hlt : i < (q :: qs).length := by omega
    have e : ((q :: qs).drop i).all (alikeB q) = (alikeB q (q :: qs)[i] && ((q :: qs).drop (i + 1)).all (alikeB q)) := by rw [List.drop_eq_getElem_cons hlt]; rfl
    have ha := alike_f q (q :: qs)[i] (hr q (.head _)) (hr _ (List.getElem_mem hlt))
    have hrd := rl_at (q :: qs) i hlt
    have hnext := ih (i + 1) (by omega) (by omega)
    generalize (q :: qs)[i] = x at e ha hrd
    rw [e]
    refine Ev.step (f := fun k => (antiquaryref04_Alike.f k q x).bind fun t => if t = true then antiquaryref04_All.l0 k (q :: qs) m ((i + 1 : Nat) : Int) else some false) (fun k => ?_) (Ev.bind ha ?_)
    · simp only [antiquaryref04_All.l0]
      rw [if_pos (by omega), if_pos hp, if_pos (by omega), h0, hrd, wr i _ hlt hl]
    · cases alikeB q x
      · exact Ev.now false
      · simpa using hnext
theorem all_f (l : List (List Int)) (m : Int) (hl : l.length ≤ big) (hr : ∀ r ∈ l, r.length ≤ big) : Ev (fun k => antiquaryref04_All.f k l m) (allB l m) := by
  cases l with
  | nil =>
    refine Ev.done fun k => ?_
    simp [antiquaryref04_All.f, antiquaryref04_All.l0, allB]
  | cons q qs => exact all_l q qs m hl hr _ 0 rfl (by omega)

def narrow (x : Int) : Bool := !wideB x
theorem steep_l (l : List Int) (m : Int) (hl : l.length ≤ big) (d : Nat) : ∀ (i : Nat) (b : Bool), l.length - i = d → i ≤ l.length → Ev (fun k => antiquaryref07_steep.l0 k l m b (i : Int)) ((l.drop i).all narrow && (b || (l.drop i).any nzB) && ((l.length : Int) == m)) := by
  induction d with
  | zero =>
    intro i b hd hi
    refine Ev.done fun k => ?_
    simp only [antiquaryref07_steep.l0]
    rw [if_neg (by omega), List.drop_of_length_le (by omega)]
    cases b <;> simp
  | succ d ih =>
    intro i b hd hi
    have hlt : i < l.length := by omega
    have e1 : (l.drop i).all narrow = (narrow l[i] && (l.drop (i + 1)).all narrow) := by rw [List.drop_eq_getElem_cons hlt]; rfl
    have e2 : (l.drop i).any nzB = (nzB l[i] || (l.drop (i + 1)).any nzB) := by rw [List.drop_eq_getElem_cons hlt]; rfl
    by_cases h1 : l[i] < -16
    · refine Ev.to (f := fun _ => some false) (fun k => ?_) (Ev.now _) ?_
      · simp only [antiquaryref07_steep.l0]
        rw [if_pos (by omega), if_pos (by omega), rd_at l i hlt, if_pos h1]
      · rw [e1]; unfold narrow wideB; simp [h1]
    · by_cases h2 : l[i] > 16
      · refine Ev.to (f := fun _ => some false) (fun k => ?_) (Ev.now _) ?_
        · simp only [antiquaryref07_steep.l0]
          rw [if_pos (by omega), if_pos (by omega), rd_at l i hlt, if_neg h1, if_pos h2]
        · have : wideB l[i] = true := by unfold wideB; simp; omega
          rw [e1]; unfold narrow; rw [this]; simp
      · have hn : narrow l[i] = true := by unfold narrow wideB; simp; omega
        refine Ev.to (fun k => ?_) (ih (i + 1) (b || nzB l[i]) (by omega) (by omega)) ?_
        · simp only [antiquaryref07_steep.l0]
          rw [if_pos (by omega), if_pos (by omega), rd_at l i hlt, if_neg h1, if_neg h2, wr i _ hlt hl]
          cases b <;> simp [nzB]
        · rw [e1, e2, hn]; simp [Bool.or_assoc]
theorem steep_f (l : List Int) (m : Int) (hl : l.length ≤ big) : Ev (fun k => antiquaryref07_steep.f k l m) (!badRow m l) := by
  have := steep_l l m hl l.length 0 false (by omega) (by omega)
  have e : (!badRow m l) = (((l.drop 0).all narrow && (false || (l.drop 0).any nzB) && ((l.length : Int) == m))) := by
    unfold badRow narrow
    rw [Bool.not_or, Bool.not_or, List.not_any_eq_all_not, List.drop_zero]
    simp only [Bool.not_not, Bool.false_or, bne]
    cases ((l.length : Int) == m) <;> cases (l.all fun x => !wideB x) <;> cases l.any nzB <;> rfl
  rw [e]; exact this
theorem valid_l (l : List (List Int)) (m : Int) (hl : l.length ≤ big) (hr : ∀ r ∈ l, r.length ≤ big) (d : Nat) : ∀ i : Nat, l.length - i = d → i ≤ l.length → Ev (fun k => antiquaryref07_Valid.l0 k l m (i : Int)) (!(l.drop i).any (badRow m)) := by
  induction d with
  | zero =>
    intro i hd hi
    refine Ev.done fun k => ?_
    simp only [antiquaryref07_Valid.l0]
    rw [if_neg (by omega), List.drop_of_length_le (by omega)]
    rfl
  | succ d ih =>
    intro i hd hi
    have hlt : i < l.length := by omega
    have e : (l.drop i).any (badRow m) = (badRow m l[i] || (l.drop (i + 1)).any (badRow m)) := by rw [List.drop_eq_getElem_cons hlt]; rfl
    have hs := steep_f l[i] m (hr _ (List.getElem_mem hlt))
    have hrd := rl_at l i hlt
    have hnext := ih (i + 1) (by omega) (by omega)
    generalize l[i] = x at e hs hrd
    rw [e]
    refine Ev.step (f := fun k => (antiquaryref07_steep.f k x m).bind fun t => if t = true then antiquaryref07_Valid.l0 k l m ((i + 1 : Nat) : Int) else some false) (fun k => ?_) (Ev.bind hs ?_)
    · simp only [antiquaryref07_Valid.l0]
      rw [if_pos (by omega), if_pos (by omega), hrd, wr i _ hlt hl]
    · cases badRow m x
      · simpa using hnext
      · exact Ev.now false
theorem valid_f (l : List (List Int)) (m : Int) (hl : l.length ≤ big) (hr : ∀ r ∈ l, r.length ≤ big) : Ev (fun k => antiquaryref07_Valid.f k l m) (validV l m) := by
  have h0 := valid_l l m hl hr l.length 0 (by omega) (by omega)
  have hF : ∀ b : Bool, Ev (fun k => antiquaryref07_Valid.j0 k l m b) (if b then false else !l.any (badRow m)) := fun b => by
    cases b
    · refine Ev.to (fun k => ?_) h0 rfl
      simp only [antiquaryref07_Valid.j0]; rfl
    · exact Ev.done fun k => by simp only [antiquaryref07_Valid.j0]; rfl
  unfold antiquaryref07_Valid.f
  by_cases h1 : m < 1
  · have e : validV l m = false := by unfold validV; simp; omega
    rw [e]; simp only [if_pos h1]; exact hF true
  · by_cases h2 : m > 32
    · have e : validV l m = false := by unfold validV; simp; omega
      rw [e]; simp only [if_neg h1, if_pos h2]; exact hF true
    · by_cases h3 : (l.length : Int) < 1
      · have e : validV l m = false := by unfold validV; simp; omega
        rw [e]; simp only [if_neg h1, if_neg h2, if_pos h3]; exact hF true
      · simp only [if_neg h1, if_neg h2, if_neg h3]
        by_cases h4 : (l.length : Int) > 8
        · have e : validV l m = false := by unfold validV; simp; omega
          have e2 : decide ((l.length : Int) > 8) = true := decide_eq_true h4
          rw [e, e2]; exact hF true
        · have e : validV l m = !l.any (badRow m) := by unfold validV; simp; omega
          have e2 : decide ((l.length : Int) > 8) = false := decide_eq_false h4
          rw [e, e2]; exact hF false
theorem validV_iff {l : List (List Int)} {m : Int} (h : validV l m = true) : 1 ≤ m ∧ m ≤ 32 ∧ 1 ≤ l.length ∧ l.length ≤ 8 ∧ ∀ r ∈ l, (r.length : Int) = m ∧ (∀ x ∈ r, -16 ≤ x ∧ x ≤ 16) ∧ ∃ x ∈ r, x ≠ 0 := by
  unfold validV at h
  simp only [Bool.and_eq_true, decide_eq_true_eq, Bool.not_eq_true'] at h
  obtain ⟨⟨⟨⟨h1, h2⟩, h3⟩, h4⟩, h5⟩ := h
  refine ⟨h1, h2, h3, h4, fun r hr => ?_⟩
  have h6 : badRow m r = false := by
    cases hb : badRow m r with
    | false => rfl
    | true => rw [List.any_eq_true.2 ⟨r, hr, hb⟩] at h5; cases h5
  unfold badRow at h6
  simp only [Bool.or_eq_false_iff, Bool.not_eq_false'] at h6
  obtain ⟨⟨h7, h8⟩, h9⟩ := h6
  refine ⟨by simpa using h7, fun x hx => ?_, ?_⟩
  · have : wideB x = false := by
      cases hb : wideB x with
      | false => rfl
      | true => rw [List.any_eq_true.2 ⟨x, hx, hb⟩] at h8; cases h8
    unfold wideB at this
    simp at this
    omega
  · obtain ⟨x, hx, hz⟩ := List.any_eq_true.1 h9
    exact ⟨x, hx, by simpa [nzB] using hz⟩
theorem fits_f (lines l : List (List Int)) (hl : lines.length ≤ big) (hr : ∀ r ∈ lines, r.length ≤ big) (hl2 : l.length ≤ big) (hr2 : ∀ r ∈ l, r.length ≤ big) :
    Ev (fun k => antiquarylaw07_fits.f k lines l) (allB l 20 && validV lines ((l.getD 0 []).length : Int)) := by
  unfold antiquarylaw07_fits.f
  refine Ev.bind (all_f l 20 hl2 hr2) ?_
  cases l with
  | nil => exact Ev.now false
  | cons q qs =>
    cases allB (q :: qs) 20
    · exact Ev.now false
    · have h0 : rd_L1 (q :: qs) 0 = q := rfl
      have hp : (0 : Int) < ((q :: qs).length : Int) := by simp only [List.length_cons]; omega
      simp only [if_true, h0, if_pos hp]
      have := valid_f lines (q.length : Int) hl hr
      refine Ev.bind this ?_
      exact Ev.now _
end Go.Proofs.YticponffemffnaaDoor.Pure
end
section
set_option linter.unusedVariables false
set_option linter.unusedSimpArgs false
namespace Go.Proofs.YticponffemffnaaDoor.Pure
open Go Go.RowKit Go.Lx Go.Proofs.YticponffemffnaaDoor Go.Proofs.YticponffemffnaaDoor.P Go.Proofs.YticponffemffnaaDoor.Ext Go.Proofs.YticponffemffnaaDoorW.PrintWords Go.Proofs.YticponffemffnaaDoorW.PrintLast
theorem sameR_l (l : List S45) (hl : l.length ≤ big) (d : Nat) : ∀ i : Nat, l.length - i = d → i ≤ l.length → Ev (fun k => antiquaryref07_Same.l0 k l l (i : Int)) true := by
  induction d with
  | zero =>
    intro i hd hi
    refine Ev.done fun k => ?_
    simp only [antiquaryref07_Same.l0]
    rw [if_neg (by omega)]
  | succ d ih =>
    intro i hd hi
    have hlt : i < l.length := by omega
    refine Ev.step (fun k => ?_) (ih (i + 1) (by omega) (by omega))
    simp only [antiquaryref07_Same.l0]
    rw [if_pos (by omega), if_pos (by omega), if_pos (by omega), if_neg (by simp), wr i _ hlt hl]
theorem sameR_f (l : List S45) (hl : l.length ≤ big) : Ev (fun k => antiquaryref07_Same.f k l l) true := by
  unfold antiquaryref07_Same.f
  simp only [if_true]
  exact sameR_l l hl l.length 0 (by omega) (by omega)
theorem cmp_l (l : List Int) (hl : l.length ≤ big) (d : Nat) : ∀ i : Nat, l.length - i = d → i ≤ l.length → Ev (fun k => antiquaryref04_Compare.l0 k l l (i : Int)) 0 := by
  induction d with
  | zero =>
    intro i hd hi
    refine Ev.done fun k => ?_
    simp only [antiquaryref04_Compare.l0]
    rw [if_neg (by omega)]
  | succ d ih =>
    intro i hd hi
    have hlt : i < l.length := by omega
    refine Ev.step (fun k => ?_) (ih (i + 1) (by omega) (by omega))
    simp only [antiquaryref04_Compare.l0]
    rw [if_pos (by omega), if_pos (by omega), if_pos (by omega), if_neg (by omega), if_neg (by omega), wr i _ hlt hl]
theorem same4_f (l : List Int) (hl : l.length ≤ big) : Ev (fun k => antiquaryref04_Same.f k l l) true := by
  unfold antiquaryref04_Same.f antiquaryref04_Compare.f
  refine Ev.bind (a := 0) ?_ (Ev.now _)
  have h1 : ¬ ((l.length : Int) < (l.length : Int)) := by omega
  have h2 : ¬ ((l.length : Int) > (l.length : Int)) := by omega
  simp only [if_neg h1, if_neg h2]
  exact cmp_l l hl l.length 0 (by omega) (by omega)
def inR (r : S45) (x : Int) : Bool := decide (r.f0 ≤ x) && decide (x ≤ r.f1)
def hasB (r : List S45) (s : List Int) : Bool := (r.zip s).all fun p => inR p.1 p.2
theorem has_drop (r : List S45) (s : List Int) (i : Nat) (h1 : i < r.length) (h2 : i < s.length) : hasB (r.drop i) (s.drop i) = (inR r[i] s[i] && hasB (r.drop (i + 1)) (s.drop (i + 1))) := by
  rw [List.drop_eq_getElem_cons h1, List.drop_eq_getElem_cons h2]; rfl
theorem inR_false {r : S45} {x : Int} (h : x < r.f0 ∨ x > r.f1) : inR r x = false := by unfold inR; simp; omega
theorem inR_true {r : S45} {x : Int} (h : ¬ x < r.f0) (h2 : ¬ x > r.f1) : inR r x = true := by unfold inR; simp; omega
theorem has_l (r : List S45) (s : List Int) (hl : r.length ≤ big) (hs : r.length ≤ s.length) (d : Nat) : ∀ i : Nat, r.length - i = d → i ≤ r.length → Ev (fun k => project_Has.l0 k s r (r.length : Int) (i : Int)) (hasB (r.drop i) (s.drop i)) ∧ Ev (fun k => antiquaryref07_Has.l0 k r s (i : Int)) (hasB (r.drop i) (s.drop i)) := by
  induction d with
  | zero =>
    intro i hd hi
    rw [List.drop_of_length_le (show r.length ≤ i by omega)]
    constructor <;> refine Ev.done fun k => ?_
    · simp only [project_Has.l0]; rw [if_neg (by omega)]; rfl
    · simp only [antiquaryref07_Has.l0]; rw [if_neg (by omega)]; rfl
  | succ d ih =>
    intro i hd hi
    have hlt : i < r.length := by omega
    have hlt2 : i < s.length := by omega
    obtain ⟨ih1, ih2⟩ := ih (i + 1) (by omega) (by omega)
    rw [has_drop r s i hlt hlt2]
    have e1 := rr_at r i hlt
    have e2 := rd_at s i hlt2
    by_cases h1 : s[i] < r[i].f0
    · rw [inR_false (.inl h1)]
      constructor <;> refine Ev.done fun k => ?_
      · simp only [project_Has.l0]; rw [if_pos (by omega), if_pos (by omega), if_pos (by omega), if_pos (by omega), e1, e2, if_pos h1]; rfl
      · simp only [antiquaryref07_Has.l0]; rw [if_pos (by omega), if_pos (by omega), if_pos (by omega), e1, e2, if_pos h1]; rfl
    · by_cases h2 : s[i] > r[i].f1
      · rw [inR_false (.inr h2)]
        constructor <;> refine Ev.done fun k => ?_
        · simp only [project_Has.l0]; rw [if_pos (by omega), if_pos (by omega), if_pos (by omega), if_pos (by omega), e1, e2, if_neg h1, if_pos h2]; rfl
        · simp only [antiquaryref07_Has.l0]; rw [if_pos (by omega), if_pos (by omega), if_pos (by omega), e1, e2, if_neg h1, if_pos h2]; rfl
      · rw [inR_true h1 h2, Bool.true_and]
        constructor
        · refine Ev.step (fun k => ?_) ih1
          simp only [project_Has.l0]; rw [if_pos (by omega), if_pos (by omega), if_pos (by omega), if_pos (by omega), e1, e2, if_neg h1, if_neg h2, wr i _ hlt hl]
        · refine Ev.step (fun k => ?_) ih2
          simp only [antiquaryref07_Has.l0]; rw [if_pos (by omega), if_pos (by omega), if_pos (by omega), e1, e2, if_neg h1, if_neg h2, wr i _ hlt hl]
theorem has_f (r : List S45) (s : List Int) (hl : r.length ≤ big) (hs : r.length ≤ s.length) : Ev (fun k => project_Has.f k r s) (hasB r s) := (has_l r s hl hs r.length 0 (by omega) (by omega)).1
theorem refhas_f (r : List S45) (s : List Int) (hl : r.length ≤ big) (hs : r.length ≤ s.length) : Ev (fun k => antiquaryref07_Has.f k r s) (hasB r s) := (has_l r s hl hs r.length 0 (by omega) (by omega)).2
theorem widest_l (r : List S45) (hl : r.length ≤ big) (d : Nat) : ∀ (i b : Nat), r.length - i = d → i ≤ r.length → b < r.length → ∃ w, Ev (fun k => project_Widest.l0 k r (b : Int) r (r.length : Int) (i : Int)) w ∧ Ev (fun k => antiquaryref07_Widest.l0 k r (b : Int) (i : Int)) w := by
  induction d with
  | zero =>
    intro i b hd hi hb
    refine ⟨(b : Int), ?_, ?_⟩ <;> refine Ev.done fun k => ?_
    · simp only [project_Widest.l0]; rw [if_neg (by omega)]
    · simp only [antiquaryref07_Widest.l0]; rw [if_neg (by omega)]
  | succ d ih =>
    intro i b hd hi hb
    have hlt : i < r.length := by omega
    by_cases h : wrap64 ((rd_T45 r (i : Int)).f1 - (rd_T45 r (i : Int)).f0) > wrap64 ((rd_T45 r (b : Int)).f1 - (rd_T45 r (b : Int)).f0)
    · obtain ⟨w, h1, h2⟩ := ih (i + 1) i (by omega) (by omega) hlt
      refine ⟨w, Ev.step (fun k => ?_) h1, Ev.step (fun k => ?_) h2⟩
      · simp only [project_Widest.l0]; rw [if_pos (by omega), if_pos (by omega), if_pos (by omega), if_pos (by omega), if_pos (by omega), if_pos h, wr i _ hlt hl]
      · simp only [antiquaryref07_Widest.l0]; rw [if_pos (by omega), if_pos (by omega), if_pos (by omega), if_pos (by omega), if_pos h, wr i _ hlt hl]
    · obtain ⟨w, h1, h2⟩ := ih (i + 1) b (by omega) (by omega) hb
      refine ⟨w, Ev.step (fun k => ?_) h1, Ev.step (fun k => ?_) h2⟩
      · simp only [project_Widest.l0]; rw [if_pos (by omega), if_pos (by omega), if_pos (by omega), if_pos (by omega), if_pos (by omega), if_neg h, wr i _ hlt hl]
      · simp only [antiquaryref07_Widest.l0]; rw [if_pos (by omega), if_pos (by omega), if_pos (by omega), if_pos (by omega), if_neg h, wr i _ hlt hl]
theorem widest_f (r : List S45) (hl : r.length ≤ big) (h1 : 1 ≤ r.length) : ∃ w, Ev (fun k => project_Widest.f k r) w ∧ Ev (fun k => antiquaryref07_Widest.f k r) w := by
  obtain ⟨w, ha, hb⟩ := widest_l r hl (r.length - 1) 1 0 rfl h1 (by omega)
  refine ⟨w, ?_, hb⟩
  unfold project_Widest.f
  refine Ev.step (fun k => ?_) ha
  simp only [project_Widest.l0]
  have hw := wr 0 r.length (by omega) hl
  rw [if_pos (by omega), if_pos (by omega), if_pos (by omega), if_pos (by omega), if_pos (by omega), if_neg (by omega)]
  simp only [Int.natCast_zero] at hw
  rw [hw]
  rfl

theorem join_l (a b : List S45) (hl : a.length ≤ 1000000) (hb : b.length = a.length) (d : Nat) : ∀ i : Nat, a.length - i = d → i ≤ a.length → Ev (fun k => antiquaryref07_Join.l0 k a b ((joinV a b).take i) (i : Int)) (joinV a b) := by
  have hjl := joinV_len a b hb
  induction d with
  | zero =>
    intro i hd hi
    refine Ev.done fun k => ?_
    simp only [antiquaryref07_Join.l0]
    rw [if_neg (by omega), List.take_of_length_le (by omega)]
  | succ d ih =>
    intro i hd hi
    have hlt : i < a.length := by omega
    refine Ev.step (fun k => ?_) (ih (i + 1) (by omega) (by omega))
    simp only [antiquaryref07_Join.l0]
    rw [if_pos (by omega), if_pos (by omega), if_pos (by omega), if_pos (by rw [List.length_take]; omega), rr_at a i hlt, rr_at b i (by omega), wr i a.length hlt (by unfold big; omega), List.take_succ_eq_append_getElem (by omega)]
    congr 3
    unfold joinV
    rw [List.getElem_zipWith]
    rfl
theorem join_f (a b : List S45) (hl : a.length ≤ 1000000) (hb : b.length = a.length) : Ev (fun k => antiquaryref07_Join.f k a b) (joinV a b) := join_l a b hl hb a.length 0 (by omega) (by omega)

theorem dot_l (a b : List Int) (hl : a.length ≤ big) (hb : a.length ≤ b.length) (d : Nat) : ∀ i : Nat, a.length - i = d → i ≤ a.length → Ev (fun k => antiquaryref04_Dot.l0 k a b (dotV (a.take i) b) (i : Int)) (dotV a b) := by
  induction d with
  | zero =>
    intro i hd hi
    refine Ev.done fun k => ?_
    simp only [antiquaryref04_Dot.l0]
    rw [if_neg (by omega), List.take_of_length_le (by omega)]
  | succ d ih =>
    intro i hd hi
    have hlt : i < a.length := by omega
    have hlt2 : i < b.length := by omega
    refine Ev.step (fun k => ?_) (ih (i + 1) (by omega) (by omega))
    simp only [antiquaryref04_Dot.l0]
    rw [if_pos (by omega), if_pos (by omega), if_pos (by omega), rd_at a i hlt, rd_at b i hlt2, wr i _ hlt hl, dotV_succ a b i hlt hlt2]
theorem dot_f (a b : List Int) (hl : a.length ≤ big) (hb : a.length ≤ b.length) : Ev (fun k => antiquaryref04_Dot.f k a b) (dotV a b) := dot_l a b hl hb a.length 0 (by omega) (by omega)
theorem apply_l (lines : List (List Int)) (q : List Int) (hl : lines.length ≤ 1000000) (hr : ∀ r ∈ lines, r.length ≤ big) (hq : ∀ r ∈ lines, r.length ≤ q.length) (d : Nat) : ∀ i : Nat, lines.length - i = d → i ≤ lines.length → Ev (fun k => antiquaryref07_Apply.l0 k lines q ((applyV lines q).take i) (i : Int)) (applyV lines q) := by
  have hal : (applyV lines q).length = lines.length := by simp [applyV]
  induction d with
  | zero =>
    intro i hd hi
    refine Ev.done fun k => ?_
    simp only [antiquaryref07_Apply.l0]
    rw [if_neg (by omega), List.take_of_length_le (by omega)]
  | succ d ih =>
    intro i hd hi
    have hlt : i < lines.length := by omega
    have hm := List.getElem_mem hlt
    have hnext := ih (i + 1) (by omega) (by omega)
    have e : (applyV lines q).take (i + 1) = (applyV lines q).take i ++ [dotV lines[i] q] := by
      rw [List.take_succ_eq_append_getElem (by omega)]; unfold applyV; rw [List.getElem_map]
    rw [e] at hnext
    refine Ev.step (f := fun k => (antiquaryref04_Dot.f k lines[i] q).bind fun t => antiquaryref07_Apply.l0 k lines q ((applyV lines q).take i ++ [t]) ((i + 1 : Nat) : Int)) (fun k => ?_) (Ev.bind (dot_f lines[i] q (hr _ hm) (hq _ hm)) hnext)
    simp only [antiquaryref07_Apply.l0]
    rw [if_pos (by omega), if_pos (by omega), rl_at lines i hlt, wr i lines.length hlt (by unfold big; omega)]
    have ht : ((applyV lines q).take i).length < 17592186044416 := by rw [List.length_take]; omega
    simp only [if_pos ht]
theorem apply_f (lines : List (List Int)) (q : List Int) (hl : lines.length ≤ 1000000) (hr : ∀ r ∈ lines, r.length ≤ big) (hq : ∀ r ∈ lines, r.length ≤ q.length) : Ev (fun k => antiquaryref07_Apply.f k lines q) (applyV lines q) := apply_l lines q hl hr hq lines.length 0 (by omega) (by omega)
/-- the range of one line -/
def colR (l q : List Int) (qs : List (List Int)) : S45 := qs.foldl (fun (r : S45) v => joinR r ⟨dotV l v, dotV l v⟩) ⟨dotV l q, dotV l q⟩
theorem joinV_map (lines : List (List Int)) (f g : List Int → S45) : joinV (lines.map f) (lines.map g) = lines.map fun l => joinR (f l) (g l) := by
  unfold joinV
  rw [List.zipWith_map, List.zipWith_self]
theorem ofAcc_map (lines : List (List Int)) (q : List Int) (qs : List (List Int)) : ofAcc lines q qs = lines.map fun l => colR l q qs := by
  unfold ofAcc colR
  have : ∀ (qs : List (List Int)) (f : List Int → S45), qs.foldl (fun out v => joinV out (ofOne lines v)) (lines.map f) = lines.map fun l => qs.foldl (fun (r : S45) v => joinR r ⟨dotV l v, dotV l v⟩) (f l) := by
    intro qs
    induction qs with
    | nil => intro f; rfl
    | cons v qs ih =>
      intro f
      rw [List.foldl_cons]
      have e : ofOne lines v = lines.map fun l => (⟨dotV l v, dotV l v⟩ : S45) := by unfold ofOne applyV; rw [List.map_map]; rfl
      rw [e, joinV_map, ih]
      rfl
  have e : ofOne lines q = lines.map fun l => (⟨dotV l q, dotV l q⟩ : S45) := by unfold ofOne applyV; rw [List.map_map]; rfl
  rw [e]
  exact this qs _
theorem of_l1 (lines : List (List Int)) (q : List Int) (qs : List (List Int)) (acc : List S45) (x : Nat) (hx : x < lines.length) (hacc : acc.length < 8796093022208) (hl : qs.length + 1 ≤ big) (hlen : lines[x].length ≤ big) (hq : ∀ v ∈ q :: qs, lines[x].length ≤ v.length) (R : List S45)
    (hend : Ev (fun k => antiquaryref07_Of.l0 k lines (q :: qs) (acc ++ [colR lines[x] q qs]) (wrap64 ((x : Int) + 1))) R) (d : Nat) :
    ∀ i : Nat, qs.length - i = d → i ≤ qs.length → Ev (fun k => antiquaryref07_Of.l1 k lines (q :: qs) acc (x : Int) ((i + 1 : Nat) : Int) (colR lines[x] q (qs.take i)).f0 (colR lines[x] q (qs.take i)).f1) R := by
  induction d with
  | zero =>
    intro i hd hi
    refine Ev.step (fun k => ?_) hend
    simp only [antiquaryref07_Of.l1]
    rw [if_neg (by simp only [List.length_cons]; omega), if_pos hacc, List.take_of_length_le (by omega)]
  | succ d ih =>
    intro i hd hi
    have hlt : i < qs.length := by omega
    have hnext := ih (i + 1) (by omega) (by omega)
    have e : colR lines[x] q (qs.take (i + 1)) = joinR (colR lines[x] q (qs.take i)) ⟨dotV lines[x] qs[i], dotV lines[x] qs[i]⟩ := by
      unfold colR; rw [List.take_succ_eq_append_getElem hlt, List.foldl_append]; rfl
    rw [e] at hnext
    have hrd : rd_L1 (q :: qs) ((i + 1 : Nat) : Int) = qs[i] := by
      rw [rl_at (q :: qs) (i + 1) (by simp; omega)]; rfl
    have hd := dot_f lines[x] qs[i] hlen (hq _ (.tail _ (List.getElem_mem hlt)))
    refine Ev.step (f := fun k => (antiquaryref04_Dot.f k lines[x] qs[i]).bind fun t => antiquaryref07_Of.l1 k lines (q :: qs) acc (x : Int) ((i + 1 + 1 : Nat) : Int) (mn (colR lines[x] q (qs.take i)).f0 t) (mx (colR lines[x] q (qs.take i)).f1 t)) (fun k => ?_) (Ev.bind hd hnext)
    simp only [antiquaryref07_Of.l1]
    rw [if_pos (by simp only [List.length_cons]; omega), if_pos (by omega), if_pos (by omega), if_pos (by omega), rl_at lines x hx, hrd, wr (i + 1) (qs.length + 1) (by omega) hl]
theorem of_l0 (lines : List (List Int)) (q : List Int) (qs : List (List Int)) (hl : lines.length ≤ 1000000) (hl2 : qs.length + 1 ≤ big) (hr : ∀ r ∈ lines, r.length ≤ big) (hq : ∀ v ∈ q :: qs, ∀ l ∈ lines, l.length ≤ v.length) (d : Nat) :
    ∀ x : Nat, lines.length - x = d → x ≤ lines.length → Ev (fun k => antiquaryref07_Of.l0 k lines (q :: qs) ((ofAcc lines q qs).take x) (x : Int)) (ofAcc lines q qs) := by
  have hal := ofAcc_len lines q qs
  induction d with
  | zero =>
    intro x hd hx
    refine Ev.done fun k => ?_
    simp only [antiquaryref07_Of.l0]
    rw [if_neg (by omega), List.take_of_length_le (by omega)]
  | succ d ih =>
    intro x hd hx
    have hlt : x < lines.length := by omega
    have hm := List.getElem_mem hlt
    have hnext := ih (x + 1) (by omega) (by omega)
    have e : (ofAcc lines q qs).take (x + 1) = (ofAcc lines q qs).take x ++ [colR lines[x] q qs] := by
      rw [List.take_succ_eq_append_getElem (by omega)]
      congr 2
      simp only [ofAcc_map, List.getElem_map]
    rw [e, ← wr x lines.length hlt (by unfold big; omega)] at hnext
    have h1 := of_l1 lines q qs ((ofAcc lines q qs).take x) x hlt (by rw [List.length_take]; omega) hl2 (hr _ hm) (fun v hv => hq v hv _ hm) _ hnext qs.length 0 (by omega) (by omega)
    refine Ev.step (f := fun k => (antiquaryref04_Dot.f k lines[x] q).bind fun t => antiquaryref07_Of.l1 k lines (q :: qs) ((ofAcc lines q qs).take x) (x : Int) 1 t t) (fun k => ?_) (Ev.bind (dot_f lines[x] q (hr _ hm) (hq q (.head _) _ hm)) h1)
    simp only [antiquaryref07_Of.l0]
    rw [if_pos (by omega), if_pos (by omega), if_pos (by simp only [List.length_cons]; omega), rl_at lines x hlt]
    rfl
theorem of_f (lines : List (List Int)) (q : List Int) (qs : List (List Int)) (hl : lines.length ≤ 1000000) (hl2 : qs.length + 1 ≤ big) (hr : ∀ r ∈ lines, r.length ≤ big) (hq : ∀ v ∈ q :: qs, ∀ l ∈ lines, l.length ≤ v.length) : Ev (fun k => antiquaryref07_Of.f k lines (q :: qs)) (ofAcc lines q qs) :=
  of_l0 lines q qs hl hl2 hr hq lines.length 0 (by omega) (by omega)
end Go.Proofs.YticponffemffnaaDoor.Pure
end
section
set_option linter.unusedVariables false
set_option linter.unusedSimpArgs false
namespace Go.Proofs.YticponffemffnaaDoor.Pure
open Go Go.RowKit Go.Lx Go.Proofs.YticponffemffnaaDoor Go.Proofs.YticponffemffnaaDoor.P Go.Proofs.YticponffemffnaaDoor.Ext Go.Proofs.YticponffemffnaaDoorW.PrintWords Go.Proofs.YticponffemffnaaDoorW.PrintLast
theorem w64 {n : Int} (h1 : -4611686018427387904 ≤ n) (h2 : n ≤ 4611686018427387904) : wrap64 n = n := by unfold wrap64; omega
structure Line (l : List Int) (n : Nat) : Prop where
  len : l.length = n
  dim : 1 ≤ n ∧ n ≤ 32
  bd : ∀ x ∈ l, -16 ≤ x ∧ x ≤ 16
  nz : ∃ x ∈ l, x ≠ 0
theorem valid_line {lines : List (List Int)} {n : Nat} (h : validV lines (n : Int) = true) : 1 ≤ lines.length ∧ lines.length ≤ 8 ∧ ∀ l ∈ lines, Line l n := by
  obtain ⟨h1, h2, h3, h4, h5⟩ := validV_iff h
  refine ⟨h3, h4, fun l hl => ?_⟩
  obtain ⟨a, b, c⟩ := h5 l hl
  exact ⟨by omega, ⟨by omega, by omega⟩, b, c⟩
/-- what a law may take from Bound, Apply, Of .. -/
structure Sett (lines : List (List Int)) (q : List Int) : Prop where
  line : ∀ l ∈ lines, Line l q.length
  le8 : lines.length ≤ 8
  ge1 : 1 ≤ lines.length
  bd : ∀ x ∈ q, -1000 ≤ x ∧ x ≤ 1000
theorem sett {lines : List (List Int)} {q : List Int} (h1 : v04 q = true) (h2 : validV lines (q.length : Int) = true) : Sett lines q := by
  obtain ⟨a, b, c⟩ := valid_line h2
  exact ⟨c, b, a, (v04_iff h1).1⟩
theorem Sett.fit {lines : List (List Int)} {q : List Int} (h : Sett lines q) : fitB lines q.length = true := List.all_eq_true.2 fun l hl => decide_eq_true (by have := (h.line l hl).len; omega)
def right (r : List S45) : Prop := ∀ x ∈ r, -1073741824 ≤ x.f0 ∧ x.f0 ≤ x.f1 ∧ x.f1 ≤ 1073741824
theorem applyP_f {lines : List (List Int)} {q : List Int} (h : Sett lines q) : project_Apply.f lines q = some (applyV lines q) := by
  unfold project_Apply.f
  rw [if_pos ⟨by have := h.le8; omega, h.fit⟩]
theorem joinP_f (a b : List S45) (ha : a.length ≤ 8) (hb : b.length = a.length) : project_Join.f a b = some (joinV a b) := by
  unfold project_Join.f
  rw [if_pos ⟨by omega, hb⟩]
end Go.Proofs.YticponffemffnaaDoor.Pure
end
section
set_option linter.unusedVariables false
set_option linter.unusedSimpArgs false
namespace Go.Proofs.YticponffemffnaaDoor.Pure
open Go Go.RowKit Go.Lx Go.Proofs.YticponffemffnaaDoor Go.Proofs.YticponffemffnaaDoor.P Go.Proofs.YticponffemffnaaDoor.Ext Go.Proofs.YticponffemffnaaDoorW.PrintWords Go.Proofs.YticponffemffnaaDoorW.PrintLast
theorem applyV_len (lines : List (List Int)) (q : List Int) : (applyV lines q).length = lines.length := by simp [applyV]
end Go.Proofs.YticponffemffnaaDoor.Pure
end
section
set_option linter.unusedVariables false
set_option linter.unusedSimpArgs false
namespace Go.Proofs.YticponffemffnaaDoor.Pure
open Go Go.RowKit Go.Lx Go.Proofs.YticponffemffnaaDoor Go.Proofs.YticponffemffnaaDoor.P Go.Proofs.YticponffemffnaaDoor.Ext Go.Proofs.YticponffemffnaaDoorW.PrintWords Go.Proofs.YticponffemffnaaDoorW.PrintLast
theorem allB_iff {q : List Int} {qs : List (List Int)} {m : Int} (h : allB (q :: qs) m = true) : (∀ v ∈ q :: qs, v04 q = true ∧ v04 v = true ∧ v.length = q.length) ∧ ((q :: qs).length : Int) ≤ m := by
  unfold allB at h
  rw [Bool.and_eq_true, List.all_eq_true] at h
  refine ⟨fun v hv => ?_, of_decide_eq_true h.2⟩
  have := h.1 v hv
  unfold alikeB at this
  simp only [Bool.and_eq_true, decide_eq_true_eq] at this
  exact ⟨this.1.1, this.1.2, this.2.symm⟩
/-- lines and vectors that fit -/
structure Fit (lines : List (List Int)) (q : List Int) (qs : List (List Int)) : Prop where
  set : ∀ v ∈ q :: qs, Sett lines v
  len : ∀ v ∈ q :: qs, v.length = q.length
  few : qs.length + 1 ≤ 20
theorem fit_of {lines : List (List Int)} {l : List (List Int)} (h : (allB l 20 && validV lines ((l.getD 0 []).length : Int)) = true) : ∃ q qs, l = q :: qs ∧ Fit lines q qs := by
  rw [Bool.and_eq_true] at h
  cases l with
  | nil => exact absurd h.1 (by simp [allB])
  | cons q qs =>
    obtain ⟨h1, h2⟩ := allB_iff h.1
    refine ⟨q, qs, rfl, ⟨fun v hv => ?_, fun v hv => (h1 v hv).2.2, by simp only [List.length_cons] at h2; omega⟩⟩
    obtain ⟨_, b, c⟩ := h1 v hv
    have h3 : validV lines (q.length : Int) = true := h.2
    exact sett b (by rw [c]; exact h3)
theorem Fit.dims {lines : List (List Int)} {q : List Int} {qs : List (List Int)} (h : Fit lines q qs) : ∀ v ∈ q :: qs, ∀ l ∈ lines, l.length ≤ v.length := fun v hv l hl => by
  have := ((h.set v hv).line l hl).len
  omega
theorem ofP_f {lines : List (List Int)} {q : List Int} {qs : List (List Int)} (h : Fit lines q qs) : project_Of.f lines (q :: qs) = some (ofAcc lines q qs) := by
  unfold project_Of.f
  rw [if_pos]
  · rfl
  · refine ⟨by have := (h.set q (.head _)).le8; omega, rfl, List.all_eq_true.2 fun v hv => (h.set v hv).fit⟩
end Go.Proofs.YticponffemffnaaDoor.Pure
end
