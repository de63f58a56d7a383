/- One text out of: Ps, PLH. -/
import Derived.Test.YticponffemffnaaDoorPV
import Derived.Test.YticponffemffnaaDoorP4
import Derived.Test.YticponffemffnaaDoorP19
section
set_option linter.unusedVariables false
set_option linter.unusedSimpArgs false
namespace Go.Proofs.YticponffemffnaaDoor.Pure
open Go Go.RowKit Go.Lx Go.Proofs.YticponffemffnaaDoor Go.Proofs.YticponffemffnaaDoor.P Go.Proofs.YticponffemffnaaDoor.Ext Go.Proofs.YticponffemffnaaDoorW.PrintWords Go.Proofs.YticponffemffnaaDoorW.PrintLast
theorem sane : Ev (fun k => antiquarylaw07_sanity.f k) true := Ev.of antiquarylaw07_sanity.mono (k := 30) (by kernel_rfl)
theorem sane1 : Ev (fun k => (antiquarylaw07_sanity.f k).bind fun t => some t) true := Ev.bind sane (Ev.now true)
end Go.Proofs.YticponffemffnaaDoor.Pure
end
section
/- Theorem T9, the law. -/
set_option linter.unusedVariables false
set_option linter.unusedSimpArgs false
namespace Go.Proofs.YticponffemffnaaDoor.Pure
open Go Go.RowKit Go.Lx Go.Proofs.YticponffemffnaaDoor Go.Proofs.YticponffemffnaaDoor.P Go.Proofs.YticponffemffnaaDoor.Ext Go.Proofs.YticponffemffnaaDoorW.PrintWords Go.Proofs.YticponffemffnaaDoorW.PrintLast
theorem hold_l {lines : List (List Int)} {q : List Int} {p : List Int} {ps : List (List Int)} (hq : Sett lines q) (hf : Fit lines p ps) (hqp : q.length = p.length) (r : List S45) (h3 : r.length ≤ big) (m : Int) (hm : m = 1 ∨ m = 2 ∨ m = 3) (d : Nat) : ∀ i : Nat, (p :: ps).length - i = d → i ≤ (p :: ps).length →
    Ev (fun k => antiquarylaw07_ProjectBoundsHold.l0 k m lines r q (ofAcc lines p ps) (p :: ps) ((p :: ps).length : Int) (i : Int)) true := by
  have h8 := hq.le8
  have ho := ofAcc_len lines p ps
  have hor := of_right hf
  have hfew := hf.few
  have hn : q.length ≤ 32 := by
    obtain ⟨l, hl⟩ := List.exists_mem_of_length_pos (show 0 < lines.length by have := hq.ge1; omega)
    exact (hq.line l hl).dim.2
  induction d with
  | zero =>
    intro i hd hi
    refine Ev.to (fun k => ?_) sane1 rfl
    simp only [antiquarylaw07_ProjectBoundsHold.l0]
    rw [if_neg (by omega)]
  | succ d ih =>
    intro i hd hi
    have hlt : i < (p :: ps).length := by omega
    have hnext := ih (i + 1) (by omega) (by omega)
    rw [← wr i (p :: ps).length hlt (by simp only [List.length_cons]; unfold big; omega)] at hnext
    have hmem := List.getElem_mem hlt
    have hrd := rl_at (p :: ps) i hlt
    generalize hv : (p :: ps)[i] = v at hmem hrd
    have sv := hf.set v hmem
    have lv := hf.len v hmem
    have hal := applyV_len lines v
    have k1 := has_f (ofAcc lines p ps) (applyV lines v) (by unfold big; omega) (by omega)
    rw [of_has hf v hmem] at k1
    have b1 := t9 hq sv (by omega) (ofAcc lines p ps) hor (by omega) m hm (of_has hf v hmem)
    have bf := bound_f hq (ofAcc lines p ps) hor (by omega) m
    have kf := keyP_f m q v (by omega) (by omega) hm
    have af := applyP_f sv
    have hj : Ev (fun k => antiquarylaw07_ProjectBoundsHold.j2 k m lines r q (ofAcc lines p ps) v (keyV m q v) (p :: ps) ((p :: ps).length : Int) (i : Int) false) true := by
      refine Ev.step (f := fun k => _) (fun k => by simp only [antiquarylaw07_ProjectBoundsHold.j2]; rfl) ?_
      simp only [Bool.false_eq_true, if_false]
      refine Ev.bind (ranges_f r _ h3) ?_
      cases e : rangesB r (lines.length : Int)
      · simpa using hnext
      simp only [if_true, af, Option.bind_some]
      have hlr := (rangesB_iff e).1
      refine Ev.bind (has_f r (applyV lines v) h3 (by omega)) ?_
      cases e2 : hasB r (applyV lines v)
      · simpa using hnext
      have := t9 hq sv (by omega) r (right_of e) (by omega) m hm e2
      simp only [if_true, bound_f hq r (right_of e) (by omega) m, Option.bind_some, if_neg (show ¬ boundV m lines r q > keyV m q v by omega)]
      exact hnext
    refine Ev.step (f := fun k => _) (fun k => by simp only [antiquarylaw07_ProjectBoundsHold.l0]; rfl) ?_
    simp only [if_pos (show (i : Int) < ((p :: ps).length : Int) by omega), if_pos (show (0 : Int) ≤ (i : Int) by omega), hrd, kf, af, Option.bind_some]
    refine Ev.bind k1 ?_
    simp only [if_true, bf, Option.bind_some]
    rw [decide_eq_false (by omega)]
    exact hj
theorem boundshold (m : Int) (lines : List (List Int)) (r : List S45) (q : List Int) (L : List (List Int)) (h1 : lines.length ≤ big) (h2 : ∀ l ∈ lines, l.length ≤ big) (h3 : r.length ≤ big) (h4 : q.length ≤ big) (h5 : L.length ≤ big) (h6 : ∀ l ∈ L, l.length ≤ big) :
    Ev (fun k => antiquarylaw07_ProjectBoundsHold.f k m lines r q L) true := by
  have ht : Ev (fun k => antiquarylaw07_ProjectBoundsHold.j0 k m lines r q L true) true := Ev.to (fun k => by simp only [antiquarylaw07_ProjectBoundsHold.j0]; rfl) sane1 rfl
  unfold antiquarylaw07_ProjectBoundsHold.f
  refine Ev.bind (fits_f lines L h1 h2 h5 h6) ?_
  cases e1 : (allB L 20 && validV lines ((L.getD 0 []).length : Int))
  · simpa using ht
  obtain ⟨p, ps, rfl, hf⟩ := fit_of e1
  have hp : (0 : Int) < ((p :: ps).length : Int) := by simp only [List.length_cons]; omega
  have hd : rd_L1 (p :: ps) 0 = p := rfl
  simp only [if_true, if_pos hp, hd]
  refine Ev.bind (alike_f q p h4 (h6 p (.head _))) ?_
  cases e2 : alikeB q p
  · simpa using ht
  simp only [if_true, metric_f]
  cases e4 : metB m
  · simpa using ht
  unfold alikeB at e2
  simp only [Bool.and_eq_true, decide_eq_true_eq] at e2
  have hq : Sett lines q := sett e2.1.1 (by rw [e2.2]; rw [Bool.and_eq_true] at e1; exact e1.2)
  simp only [Option.bind_some, Bool.not_true]
  refine Ev.step (f := fun k => _) (fun k => by simp only [antiquarylaw07_ProjectBoundsHold.j0]; rfl) ?_
  simp only [Bool.false_eq_true, if_false, ofP_f hf, Option.bind_some]
  exact hold_l hq hf e2.2 r h3 m (metB_iff e4) (p :: ps).length 0 (by omega) (by omega)
end Go.Proofs.YticponffemffnaaDoor.Pure
end
