/- One text out of: Ps, PLW. -/
import Derived.Test.YticponffemffnaaDoorPV
import Derived.Test.YticponffemffnaaDoorP4
import Derived.Test.YticponffemffnaaDoorP16
section
set_option linter.unusedVariables false
set_option linter.unusedSimpArgs false
namespace Go.Proofs.YticponffemffnaaDoor.Pure
open Go Go.RowKit Go.Lx Go.Proofs.YticponffemffnaaDoor Go.Proofs.YticponffemffnaaDoor.P Go.Proofs.YticponffemffnaaDoor.Ext Go.Proofs.YticponffemffnaaDoorW.PrintWords Go.Proofs.YticponffemffnaaDoorW.PrintLast
theorem sane : Ev (fun k => antiquarylaw07_sanity.f k) true := Ev.of antiquarylaw07_sanity.mono (k := 30) (by kernel_rfl)
theorem sane1 : Ev (fun k => (antiquarylaw07_sanity.f k).bind fun t => some t) true := Ev.bind sane (Ev.now true)
end Go.Proofs.YticponffemffnaaDoor.Pure
end
section
/- Join widens. -/
set_option linter.unusedVariables false
set_option linter.unusedSimpArgs false
namespace Go.Proofs.YticponffemffnaaDoor.Pure
open Go Go.RowKit Go.Lx Go.Proofs.YticponffemffnaaDoor Go.Proofs.YticponffemffnaaDoor.P Go.Proofs.YticponffemffnaaDoor.Ext Go.Proofs.YticponffemffnaaDoorW.PrintWords Go.Proofs.YticponffemffnaaDoorW.PrintLast
theorem widens (m : Int) (lines : List (List Int)) (a b : List S45) (q : List Int) (h1 : lines.length ≤ big) (h2 : ∀ l ∈ lines, l.length ≤ big) (h3 : a.length ≤ big) (h3' : b.length ≤ big) (h4 : q.length ≤ big) :
    Ev (fun k => antiquarylaw07_ProjectWidens.f k m lines a b q) true := by
  have ht : Ev (fun k => antiquarylaw07_ProjectWidens.j0 k m lines a b q true) true := Ev.to (fun k => by simp only [antiquarylaw07_ProjectWidens.j0]; rfl) sane1 rfl
  unfold antiquarylaw07_ProjectWidens.f
  refine Ev.bind (v04_f q h4) ?_
  cases e1 : v04 q
  · simpa using ht
  simp only [if_true]
  refine Ev.bind (valid_f lines _ h1 h2) ?_
  cases e2 : validV lines (q.length : Int)
  · simpa using ht
  simp only [if_true]
  refine Ev.bind (ranges_f a _ h3) ?_
  cases e3 : rangesB a (lines.length : Int)
  · simpa using ht
  simp only [if_true]
  refine Ev.bind (ranges_f b _ h3') ?_
  cases e3' : rangesB b (lines.length : Int)
  · simpa using ht
  simp only [if_true, metric_f]
  cases e4 : metB m
  · simpa using ht
  have hs := sett e1 e2
  have h8 := hs.le8
  have ha := right_of e3
  have hb := right_of e3'
  have la := (rangesB_iff e3).1
  have lb := (rangesB_iff e3').1
  have hj := joinV_len a b (by omega)
  have hjr := join_right ha hb
  have b1 := bound_f hs (joinV a b) hjr (by omega) m
  have b2 := bound_f hs a ha (by omega) m
  have b3 := bound_f hs b hb (by omega) m
  obtain ⟨c1, c2⟩ := bound_join hs a b ha hb (by omega) (by omega) m
  have hal := applyV_len lines q
  have k1 := has_f a (applyV lines q) h3 (by omega)
  have k2 := has_f b (applyV lines q) h3' (by omega)
  have k3 := has_f (joinV a b) (applyV lines q) (by omega) (by omega)
  have jp := joinP_f a b (by omega) (by omega)
  have jj := joinP_f a a (by omega) rfl
  have ap := applyP_f hs
  have hrest : ∀ b' : Bool, (b' = true → hasB (joinV a b) (applyV lines q) = true) → Ev (fun k => antiquarylaw07_ProjectWidens.j1 k m lines a q (joinV a b) (applyV lines q) b') true := by
    intro b' hb'
    have hlast : Ev (fun k => (project_Has.f k a (applyV lines q)).bind fun t => if t = true then ((project_Bound.f m lines a q).bind fun t325 => (if t325 = 0 then ((project_Join.f a a).bind fun t326 => ((antiquaryref07_Same.f k t326 a).bind fun t329 => (some t329))) else (some false))) else ((project_Join.f a a).bind fun t330 => ((antiquaryref07_Same.f k t330 a).bind fun t333 => (some t333)))) true := by
      refine Ev.bind k1 ?_
      have hsm : Ev (fun k => (project_Join.f a a).bind fun t330 => ((antiquaryref07_Same.f k t330 a).bind fun t333 => (some t333))) true := by
        simp only [jj, Option.bind_some, join_self]
        exact Ev.bind (sameR_f a h3) (Ev.now true)
      cases e : hasB a (applyV lines q)
      · simpa using hsm
      · simp only [if_true, b2, Option.bind_some, bound_in hs a ha (by omega) m e]
        exact hsm
    refine Ev.step (f := fun k => (antiquarylaw07_sanity.f k).bind fun t => if t = true then (if b' = true then (project_Has.f k (joinV a b) (applyV lines q)).bind fun t323 => (if t323 = true then (project_Has.f k a (applyV lines q)).bind fun t => if t = true then ((project_Bound.f m lines a q).bind fun t325 => (if t325 = 0 then ((project_Join.f a a).bind fun t326 => ((antiquaryref07_Same.f k t326 a).bind fun t329 => (some t329))) else (some false))) else ((project_Join.f a a).bind fun t330 => ((antiquaryref07_Same.f k t330 a).bind fun t333 => (some t333))) else some false) else (project_Has.f k a (applyV lines q)).bind fun t => if t = true then ((project_Bound.f m lines a q).bind fun t325 => (if t325 = 0 then ((project_Join.f a a).bind fun t326 => ((antiquaryref07_Same.f k t326 a).bind fun t329 => (some t329))) else (some false))) else ((project_Join.f a a).bind fun t330 => ((antiquaryref07_Same.f k t330 a).bind fun t333 => (some t333)))) else some false) (fun k => by simp only [antiquarylaw07_ProjectWidens.j1]) (Ev.bind sane ?_)
    simp only [if_true]
    cases b'
    · simpa using hlast
    · simp only [if_true]
      refine Ev.bind k3 ?_
      rw [hb' rfl]
      simpa using hlast
  simp only [Option.bind_some, Bool.not_true]
  refine Ev.step (f := fun k => (project_Has.f k a (applyV lines q)).bind fun t320 => (if t320 = true then (antiquarylaw07_ProjectWidens.j1 k m lines a q (joinV a b) (applyV lines q) true) else ((project_Has.f k b (applyV lines q)).bind fun t321 => (antiquarylaw07_ProjectWidens.j1 k m lines a q (joinV a b) (applyV lines q) t321)))) (fun k => ?_) (Ev.bind k1 ?_)
  · simp only [antiquarylaw07_ProjectWidens.j0, jp, ap, b1, b2, b3, Option.bind_some]
    rw [if_neg (by simp), if_neg (by unfold mn; split <;> omega)]
  · cases e : hasB a (applyV lines q)
    · simp only [Bool.false_eq_true, if_false]
      exact Ev.bind k2 (hrest _ fun h => has_join (by omega) (.inr h))
    · simp only [if_true]
      exact hrest true fun _ => has_join (by omega) (.inl e)
end Go.Proofs.YticponffemffnaaDoor.Pure
end
