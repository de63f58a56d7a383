/- One text out of: Ps, PLB. -/
import Derived.Test.YticponffemffnaaDoorPV
import Derived.Test.YticponffemffnaaDoorP4
import Derived.Test.YticponffemffnaaDoorP15
section
set_option linter.unusedVariables false
set_option linter.unusedSimpArgs false
namespace Go.Proofs.YticponffemffnaaDoor.Pure
open Go Go.RowKit Go.Lx Go.Proofs.YticponffemffnaaDoor Go.Proofs.YticponffemffnaaDoor.P Go.Proofs.YticponffemffnaaDoor.Ext Go.Proofs.YticponffemffnaaDoorW.PrintWords Go.Proofs.YticponffemffnaaDoorW.PrintLast
theorem sane : Ev (fun k => antiquarylaw07_sanity.f k) true := Ev.of antiquarylaw07_sanity.mono (k := 30) (by kernel_rfl)
theorem sane1 : Ev (fun k => (antiquarylaw07_sanity.f k).bind fun t => some t) true := Ev.bind sane (Ev.now true)
end Go.Proofs.YticponffemffnaaDoor.Pure
end
section
/- Bound as specified. -/
set_option linter.unusedVariables false
set_option linter.unusedSimpArgs false
namespace Go.Proofs.YticponffemffnaaDoor.Pure
open Go Go.RowKit Go.Lx Go.Proofs.YticponffemffnaaDoor Go.Proofs.YticponffemffnaaDoor.P Go.Proofs.YticponffemffnaaDoor.Ext Go.Proofs.YticponffemffnaaDoorW.PrintWords Go.Proofs.YticponffemffnaaDoorW.PrintLast
theorem boundsas (m : Int) (lines : List (List Int)) (r : List S45) (q : List Int) (h1 : lines.length ≤ big) (h2 : ∀ l ∈ lines, l.length ≤ big) (h3 : r.length ≤ big) (h4 : q.length ≤ big) :
    Ev (fun k => antiquarylaw07_ProjectBoundsAsSpecified.f k m lines r q) true := by
  have ht : Ev (fun k => antiquarylaw07_ProjectBoundsAsSpecified.j0 k m lines r q true) true := Ev.to (fun k => by simp only [antiquarylaw07_ProjectBoundsAsSpecified.j0]; rfl) sane1 rfl
  unfold antiquarylaw07_ProjectBoundsAsSpecified.f
  refine Ev.bind (v04_f q h4) ?_
  cases e1 : v04 q
  · simpa using ht
  simp only [if_true]
  refine Ev.bind (valid_f lines _ h1 h2) ?_
  cases e2 : validV lines (q.length : Int)
  · simpa using ht
  simp only [if_true]
  refine Ev.bind (ranges_f r _ h3) ?_
  cases e3 : rangesB r (lines.length : Int)
  · simpa using ht
  simp only [if_true, metric_f]
  cases e4 : metB m
  · simpa using ht
  have hs := sett e1 e2
  have hr := right_of e3
  have hlen := (rangesB_iff e3).1
  have hb := bound_f hs r hr (by omega) m
  have hrb := refbound_f hs r hr (by omega) m (metB_iff e4)
  simp only [Option.bind_some, Bool.not_true]
  refine Ev.step (f := fun k => (antiquarylaw07_sanity.f k).bind fun t => if t = true then (project_Bound.f m lines r q).bind fun t303 => (antiquaryref07_Bound.f k m lines r q).bind fun t304 => some (t303 == t304) else some false) (fun k => by simp only [antiquarylaw07_ProjectBoundsAsSpecified.j0]; rfl) (Ev.bind sane ?_)
  simp only [if_true, hb, Option.bind_some]
  refine Ev.bind hrb ?_
  simpa using Ev.now true
end Go.Proofs.YticponffemffnaaDoor.Pure
end
