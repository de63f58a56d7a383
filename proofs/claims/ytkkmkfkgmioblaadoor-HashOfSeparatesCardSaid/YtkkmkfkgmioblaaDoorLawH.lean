/- The law of the hash chapter over two inputs, all arms. -/
import Derived.Test.YtkkmkfkgmioblaaDoorLawG
set_option linter.unusedVariables false
set_option linter.unusedSimpArgs false
namespace Go.Proofs.YtkkmkfkgmioblaaDoor
open Go Go.RowKit Go.Lx CrcMath Go.Proofs.YtkkmkfkgmioblaaDoorW.PrintWords
attribute [local irreducible] Calls
set_option maxRecDepth 100000 in
set_option maxHeartbeats 4000000 in
theorem sep_any (t0 t1 : Int) (l m : List ByteArray) (pa pb : Option Addr) (ca cb : Nat) (w0 : World) (ht0 : 0 ≤ t0 ∧ t0 ≤ 255) (ht1 : 0 ≤ t1 ∧ t1 ≤ 255) (hRa : Rd w0 (.slice pa l.length ca) l.length 1 (strV l)) (hRb : Rd w0 (.slice pb m.length cb) m.length 1 (strV m)) (hla : l.length ≤ 9223372036854775807) (hlb : m.length ≤ 9223372036854775807) (hT : Tab w0) :
    Calls Tryd.prog 14 #[.agg #[.int .u8 t0, .int .u8 t1], .slice pa l.length ca, .slice pb m.length cb] w0 fun e w' => e = .returned (.bool true) ∧ Below w0.heap.size w0 w' := by
  have hL := Sees.refl w0
  obtain ⟨F1, hF1⟩ : ∃ F1, F1 = fewB l := ⟨_, rfl⟩
  obtain ⟨F2, hF2⟩ : ∃ F2, F2 = fewB m := ⟨_, rfl⟩
  have hfa : ∀ w, Sees w0 w [] → Calls Tryd.prog 18 #[.slice pa l.length ca] w fun e w' => e = .returned (.bool F1) ∧ w' = w := fun w hL => by
    rw [hF1]; exact few_any _ l w (hRa.sees hL) hla
  have hfb : ∀ w, Sees w0 w [] → Calls Tryd.prog 18 #[.slice pb m.length cb] w fun e w' => e = .returned (.bool F2) ∧ w' = w := fun w hL => by
    rw [hF2]; exact few_any _ m w (hRb.sees hL) hlb
  cases F1 with
  | false =>
    clear hF1 hF2
    go_enter Tryd.func14, Tryd.ntmps14
    go_wp2_with (first | (refine wpl_box hL rfl _ _ rfl _ rfl _ rfl ?_; clear hL; intro b w hL; simp only [Act.put, List.setIfInBounds_toArray, List.set_cons_succ, List.set_cons_zero]) | (go_at_call 15; refine (sanity_any _ (hT.since hL)).mono ?_; rintro e w ⟨rfl, hb⟩; replace hL := hL.call hb; clear hb) | (go_at_call 18; refine (hfa _ (hL.forget (List.nil_sublist _))).mono ?_; rintro e w ⟨rfl, rfl⟩))
    go_ret
    exact ⟨rfl, hL.below⟩
  | true =>
    cases F2 with
    | false =>
      clear hF1 hF2
      go_enter Tryd.func14, Tryd.ntmps14
      go_wp2_with (first | (refine wpl_box hL rfl _ _ rfl _ rfl _ rfl ?_; clear hL; intro b w hL; simp only [Act.put, List.setIfInBounds_toArray, List.set_cons_succ, List.set_cons_zero]) | (go_at_call 15; refine (sanity_any _ (hT.since hL)).mono ?_; rintro e w ⟨rfl, hb⟩; replace hL := hL.call hb; clear hb) | (go_at_call 18; refine (hfa _ (hL.forget (List.nil_sublist _))).mono ?_; rintro e w ⟨rfl, rfl⟩) | (go_at_call 18; refine (hfb _ (hL.forget (List.nil_sublist _))).mono ?_; rintro e w ⟨rfl, rfl⟩))
      go_ret
      exact ⟨rfl, hL.below⟩
    | true =>
      obtain ⟨h1, h2⟩ := fewB_true hF1.symm
      obtain ⟨h3, h4⟩ := fewB_true hF2.symm
      exact sep_core t0 t1 l m pa pb ca cb w0 ht0 ht1 hRa hRb hT h1 h2 h3 h4 hfa hfb
end Go.Proofs.YtkkmkfkgmioblaaDoor
