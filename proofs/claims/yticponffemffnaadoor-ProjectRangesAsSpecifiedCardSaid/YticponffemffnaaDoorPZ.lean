/- One text out of: Ps, PLR. -/
import Derived.Test.YticponffemffnaaDoorPV
import Derived.Test.YticponffemffnaaDoorP4
import Derived.Test.YticponffemffnaaDoorP12
section
set_option linter.unusedVariables false
set_option linter.unusedSimpArgs false
namespace Go.Proofs.YticponffemffnaaDoor.Pure
open Go Go.RowKit Go.Lx Go.Proofs.YticponffemffnaaDoor Go.Proofs.YticponffemffnaaDoor.P Go.Proofs.YticponffemffnaaDoor.Ext Go.Proofs.YticponffemffnaaDoorW.PrintWords Go.Proofs.YticponffemffnaaDoorW.PrintLast
theorem sane : Ev (fun k => antiquarylaw07_sanity.f k) true := Ev.of antiquarylaw07_sanity.mono (k := 30) (by kernel_rfl)
theorem sane1 : Ev (fun k => (antiquarylaw07_sanity.f k).bind fun t => some t) true := Ev.bind sane (Ev.now true)
end Go.Proofs.YticponffemffnaaDoor.Pure
end
section
/- Ranges as specified. -/
set_option linter.unusedVariables false
set_option linter.unusedSimpArgs false
namespace Go.Proofs.YticponffemffnaaDoor.Pure
open Go Go.RowKit Go.Lx Go.Proofs.YticponffemffnaaDoor Go.Proofs.YticponffemffnaaDoor.P Go.Proofs.YticponffemffnaaDoor.Ext Go.Proofs.YticponffemffnaaDoorW.PrintWords Go.Proofs.YticponffemffnaaDoorW.PrintLast
theorem rangesas (lines : List (List Int)) (a b : List (List Int)) (h1 : lines.length ≤ big) (h2 : ∀ l ∈ lines, l.length ≤ big) (h3 : a.length ≤ big) (h4 : ∀ l ∈ a, l.length ≤ big) (h5 : b.length ≤ big) (h6 : ∀ l ∈ b, l.length ≤ big) :
    Ev (fun k => antiquarylaw07_ProjectRangesAsSpecified.f k lines a b) true := by
  have ht : Ev (fun k => antiquarylaw07_ProjectRangesAsSpecified.j0 k lines a b true) true := Ev.to (fun k => by simp only [antiquarylaw07_ProjectRangesAsSpecified.j0]; rfl) sane1 rfl
  unfold antiquarylaw07_ProjectRangesAsSpecified.f
  refine Ev.bind (fits_f lines a h1 h2 h3 h4) ?_
  cases e1 : (allB a 20 && validV lines ((a.getD 0 []).length : Int))
  · simpa using ht
  simp only [if_true]
  refine Ev.bind (fits_f lines b h1 h2 h5 h6) ?_
  cases e2 : (allB b 20 && validV lines ((b.getD 0 []).length : Int))
  · simpa using ht
  obtain ⟨q, qs, rfl, fa⟩ := fit_of e1
  obtain ⟨p, ps, rfl, fb⟩ := fit_of e2
  have sp := fb.set p (.head _)
  have h8 := sp.le8
  have h0 := sp.ge1
  have oa := ofP_f fa
  have ob := ofP_f fb
  have ra := of_f lines q qs (by omega) (by have := fa.few; unfold big; omega) h2 fa.dims
  have rb := of_f lines p ps (by omega) (by have := fb.few; unfold big; omega) h2 fb.dims
  have la := ofAcc_len lines q qs
  have lb := ofAcc_len lines p ps
  have rj := join_f (ofAcc lines q qs) (ofAcc lines p ps) (by omega) (by omega)
  have pj := joinP_f (ofAcc lines q qs) (ofAcc lines p ps) (by omega) (by omega)
  have rp := apply_f lines p (by omega) h2 fun l hl => fb.dims p (.head _) l hl
  have ap := applyP_f sp
  have hal := applyV_len lines p
  have hj := joinV_len (ofAcc lines q qs) (ofAcc lines p ps) (by omega)
  have k1 := has_f (ofAcc lines q qs) (applyV lines p) (by unfold big; omega) (by omega)
  have k2 := refhas_f (ofAcc lines q qs) (applyV lines p) (by unfold big; omega) (by omega)
  obtain ⟨wd, w1, w2⟩ := widest_f (joinV (ofAcc lines q qs) (ofAcc lines p ps)) (by unfold big; omega) (by omega)
  have s1 := sameR_f (ofAcc lines q qs) (by unfold big; omega)
  have s2 := sameR_f (joinV (ofAcc lines q qs) (ofAcc lines p ps)) (by unfold big; omega)
  have s3 := same4_f (applyV lines p) (by unfold big; omega)
  have hp : (0 : Int) < ((p :: ps).length : Int) := by simp only [List.length_cons]; omega
  have hd : rd_L1 (p :: ps) 0 = p := rfl
  simp only [Bool.not_true]
  refine Ev.step (f := fun k => _) (fun k => by simp only [antiquarylaw07_ProjectRangesAsSpecified.j0]; rfl) ?_
  simp only [Bool.false_eq_true, if_false, oa, ob, Option.bind_some]
  refine Ev.bind ra (Ev.bind rb (Ev.bind rj ?_))
  simp only [if_pos hp, hd]
  refine Ev.bind rp (Ev.bind sane ?_)
  simp only [if_true]
  refine Ev.bind ra (Ev.bind s1 ?_)
  simp only [if_true, pj, Option.bind_some]
  refine Ev.bind s2 ?_
  simp only [if_true, ap, Option.bind_some]
  refine Ev.bind s3 ?_
  simp only [if_true]
  refine Ev.bind k1 (Ev.bind k2 ?_)
  simp only [beq_self_eq_true, if_true]
  refine Ev.bind w1 (Ev.bind w2 ?_)
  simp only [beq_self_eq_true]
  exact Ev.now true
end Go.Proofs.YticponffemffnaaDoor.Pure
end
