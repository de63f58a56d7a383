/- Machine side of the laws: Lean functions that answer as the Go functions do, and the proofs of it; written by a program of this session (printx.py) that alters the kit's print. -/
import Derived.Test.YticponffemffnaaDoorP0
import Derived.Test.YticponffemffnaaDoorP4
import Derived.Test.YticponffemffnaaDoorP5
import Derived.Test.YticponffemffnaaDoorP8
import Derived.Test.YticponffemffnaaDoorP13
import Derived.Test.YticponffemffnaaDoorP14
import Derived.Test.YticponffemffnaaDoorXA
import Derived.Test.YticponffemffnaaDoorK
namespace Go.Proofs.YticponffemffnaaDoor.Ext
end Go.Proofs.YticponffemffnaaDoor.Ext
namespace Go.Proofs.YticponffemffnaaDoor.P
open Go.Proofs.YticponffemffnaaDoor.Ext Go.Proofs.YticponffemffnaaDoor
open Go.RowKit Go.Proofs.YticponffemffnaaDoorW.PrintWords Go.Proofs.YticponffemffnaaDoorW.PrintLast Go.Proofs.YticponffemffnaaDoorW.PrintMore
attribute [local go_sem] max2_int min2_int max_two min_two max_three min_three max_four min_four   -- for this text's walks alone
set_option linter.unusedVariables false
set_option linter.unusedSimpArgs false

/-! ### antiquarylaw07_ProjectBoundsAsSpecified: function 5 -/
def antiquarylaw07_ProjectBoundsAsSpecified.j0 : Nat → Int → List (List Int) → List (S45) → List Int → Bool → Option (Bool)
  | 0, _, _, _, _, _ => none
  | k + 1, x0, x1, x2, x3, x30 => if x30 = true then ((antiquarylaw07_sanity.f k).bind fun t301 => (some t301)) else ((antiquarylaw07_sanity.f k).bind fun t302 => (if t302 = true then ((project_Bound.f x0 x1 x2 x3).bind fun t303 => ((antiquaryref07_Bound.f k x0 x1 x2 x3).bind fun t304 => (some (t303 == t304)))) else (some false)))
def antiquarylaw07_ProjectBoundsAsSpecified.f (k : Nat) (a0 : Int) (l1 : List (List Int)) (l2 : List (S45)) (l3 : List Int) : Option (Bool) := (antiquaryref04_Valid.f k l3).bind fun t297 => (if t297 = true then ((antiquaryref07_Valid.f k l1 (l3.length : Int)).bind fun t298 => (if t298 = true then ((antiquaryref07_Ranges.f k l2 (l1.length : Int)).bind fun t299 => (if t299 = true then ((antiquaryref04_Metric.f a0).bind fun t300 => (antiquarylaw07_ProjectBoundsAsSpecified.j0 k a0 l1 l2 l3 (!t300))) else (antiquarylaw07_ProjectBoundsAsSpecified.j0 k a0 l1 l2 l3 true))) else (antiquarylaw07_ProjectBoundsAsSpecified.j0 k a0 l1 l2 l3 true))) else (antiquarylaw07_ProjectBoundsAsSpecified.j0 k a0 l1 l2 l3 true))
theorem antiquarylaw07_ProjectBoundsAsSpecified.mono_l : ∀ k, (∀ y0 y1 y2 y3 y4, LeO (antiquarylaw07_ProjectBoundsAsSpecified.j0 k y0 y1 y2 y3 y4) (antiquarylaw07_ProjectBoundsAsSpecified.j0 (k + 1) y0 y1 y2 y3 y4))
  | 0 => fun _ _ _ _ _ r h => by simp [antiquarylaw07_ProjectBoundsAsSpecified.j0] at h
  | k + 1 => by
    have ih0 := antiquarylaw07_ProjectBoundsAsSpecified.mono_l k
    · intro y0 y1 y2 y3 y4
      unfold antiquarylaw07_ProjectBoundsAsSpecified.j0
      repeat' first
      | (with_reducible exact ih0 _ _ _ _ _)
      | (with_reducible exact antiquarylaw07_sanity.mono _)
      | (with_reducible exact antiquaryref04_Valid.mono _ _)
      | (with_reducible exact antiquaryref07_Bound.mono _ _ _ _ _)
      | (with_reducible exact antiquaryref07_Ranges.mono _ _ _)
      | (with_reducible exact antiquaryref07_Valid.mono _ _ _)
      | (with_reducible exact LeO.refl _)
      | (with_reducible exact LeO.none _)
      | (with_reducible refine LeO.ite ?_ ?_)
      | (with_reducible refine LeO.bind ?_ (fun _ => ?_))
      | exact ih0 _ _ _ _ _
      | exact antiquarylaw07_sanity.mono _
      | exact antiquaryref04_Valid.mono _ _
      | exact antiquaryref07_Bound.mono _ _ _ _ _
      | exact antiquaryref07_Ranges.mono _ _ _
      | exact antiquaryref07_Valid.mono _ _ _
      | exact LeO.none _
      | refine LeO.ite ?_ ?_
      | refine LeO.bind ?_ (fun _ => ?_)
theorem antiquarylaw07_ProjectBoundsAsSpecified.mono : ∀ a0 a1 a2 a3 k, LeO (antiquarylaw07_ProjectBoundsAsSpecified.f k a0 a1 a2 a3) (antiquarylaw07_ProjectBoundsAsSpecified.f (k + 1) a0 a1 a2 a3) := by
  intro a0 a1 a2 a3 k
  have ih0 := antiquarylaw07_ProjectBoundsAsSpecified.mono_l k
  unfold antiquarylaw07_ProjectBoundsAsSpecified.f
  repeat' first
      | (with_reducible exact ih0 _ _ _ _ _)
      | (with_reducible exact antiquarylaw07_sanity.mono _)
      | (with_reducible exact antiquaryref04_Valid.mono _ _)
      | (with_reducible exact antiquaryref07_Bound.mono _ _ _ _ _)
      | (with_reducible exact antiquaryref07_Ranges.mono _ _ _)
      | (with_reducible exact antiquaryref07_Valid.mono _ _ _)
      | (with_reducible exact LeO.refl _)
      | (with_reducible exact LeO.none _)
      | (with_reducible refine LeO.ite ?_ ?_)
      | (with_reducible refine LeO.bind ?_ (fun _ => ?_))
      | exact ih0 _ _ _ _ _
      | exact antiquarylaw07_sanity.mono _
      | exact antiquaryref04_Valid.mono _ _
      | exact antiquaryref07_Bound.mono _ _ _ _ _
      | exact antiquaryref07_Ranges.mono _ _ _
      | exact antiquaryref07_Valid.mono _ _ _
      | exact LeO.none _
      | refine LeO.ite ?_ ?_
      | refine LeO.bind ?_ (fun _ => ?_)
set_option maxHeartbeats 8000000 in
set_option maxRecDepth 100000 in
theorem antiquarylaw07_ProjectBoundsAsSpecified.calls (k : Nat) (a0 : Int) (A1 : Option Addr) (c1 : Nat) (l1 : List (List Int)) (A2 : Option Addr) (c2 : Nat) (l2 : List (S45)) (A3 : Option Addr) (c3 : Nat) (l3 : List Int) (r : Bool) (w : World) (hr1 : Kd.C (Kd.slice 3 (Kd.int .i64)) w A1 l1.length l1) (hc1 : l1.length ≤ c1) (hr2 : Kd.C k45 w A2 l2.length l2) (hc2 : l2.length ≤ c2) (hr3 : Kd.C (Kd.int .i64) w A3 l3.length l3) (hc3 : l3.length ≤ c3) (hT : Tab w) (h : antiquarylaw07_ProjectBoundsAsSpecified.f k a0 l1 l2 l3 = some r) :
    Calls Tryd.prog 5 #[.int .i64 a0, .slice A1 l1.length c1, .slice A2 l2.length c2, .slice A3 l3.length c3] w fun e w' => e = .returned (.bool r) ∧ Below w.heap.size w w' := by
  have HR1 := Aside0.mk hr1
  have HC1 := Aside0.mk hc1
  clear hr1 hc1
  have HR2 := Aside0.mk hr2
  have HC2 := Aside0.mk hc2
  clear hr2 hc2
  have HR3 := Aside0.mk hr3
  have HC3 := Aside0.mk hc3
  clear hr3 hc3
  have HB := Aside0.mk (Below.refl w.heap.size w)
  have HT := Aside0.mk hT
  clear hT
  have H : ((antiquaryref04_Valid.f k l3).bind fun t297 => (if t297 = true then ((antiquaryref07_Valid.f k l1 (l3.length : Int)).bind fun t298 => (if t298 = true then ((antiquaryref07_Ranges.f k l2 (l1.length : Int)).bind fun t299 => (if t299 = true then ((antiquaryref04_Metric.f a0).bind fun t300 => (antiquarylaw07_ProjectBoundsAsSpecified.j0 k a0 l1 l2 l3 (!t300))) else (antiquarylaw07_ProjectBoundsAsSpecified.j0 k a0 l1 l2 l3 true))) else (antiquarylaw07_ProjectBoundsAsSpecified.j0 k a0 l1 l2 l3 true))) else (antiquarylaw07_ProjectBoundsAsSpecified.j0 k a0 l1 l2 l3 true))) = some r := h
  clear h
  have HC5 := Aside0.mk H
  clear H
  go_enter Tryd.func5, Tryd.ntmps5
  go_upto_region 1 with (fail)
  go_cut [30] (fun v30 wc => ∃ (kq : Nat) (x30_4 : Bool), v30 = .bool x30_4 ∧ Aside0 (antiquarylaw07_ProjectBoundsAsSpecified.j0 kq a0 l1 l2 l3 x30_4 = some r) ∧ Aside0 (kq ≤ k) ∧ Aside0 (Below w.heap.size w wc))
  case first =>
    have H := HC5.out
    clear HC5
    replace H := Option.bind_eq_some_iff.mp H
    obtain ⟨t297, A60, H⟩ := H
    replace H : (if t297 = true then ((antiquaryref07_Valid.f k l1 (l3.length : Int)).bind fun t298 => (if t298 = true then ((antiquaryref07_Ranges.f k l2 (l1.length : Int)).bind fun t299 => (if t299 = true then ((antiquaryref04_Metric.f a0).bind fun t300 => (antiquarylaw07_ProjectBoundsAsSpecified.j0 k a0 l1 l2 l3 (!t300))) else (antiquarylaw07_ProjectBoundsAsSpecified.j0 k a0 l1 l2 l3 true))) else (antiquarylaw07_ProjectBoundsAsSpecified.j0 k a0 l1 l2 l3 true))) else (antiquarylaw07_ProjectBoundsAsSpecified.j0 k a0 l1 l2 l3 true)) = some r := H
    have A6 := Aside0.mk A60
    clear A60
    by_cases c7 : t297 = true
    · subst c7
      have H1 : ((antiquaryref07_Valid.f k l1 (l3.length : Int)).bind fun t298 => (if t298 = true then ((antiquaryref07_Ranges.f k l2 (l1.length : Int)).bind fun t299 => (if t299 = true then ((antiquaryref04_Metric.f a0).bind fun t300 => (antiquarylaw07_ProjectBoundsAsSpecified.j0 k a0 l1 l2 l3 (!t300))) else (antiquarylaw07_ProjectBoundsAsSpecified.j0 k a0 l1 l2 l3 true))) else (antiquarylaw07_ProjectBoundsAsSpecified.j0 k a0 l1 l2 l3 true))) = some r := by rw [if_pos rfl] at H; exact H
      clear H
      have H := H1
      clear H1
      replace H := Option.bind_eq_some_iff.mp H
      obtain ⟨t298, A80, H⟩ := H
      replace H : (if t298 = true then ((antiquaryref07_Ranges.f k l2 (l1.length : Int)).bind fun t299 => (if t299 = true then ((antiquaryref04_Metric.f a0).bind fun t300 => (antiquarylaw07_ProjectBoundsAsSpecified.j0 k a0 l1 l2 l3 (!t300))) else (antiquarylaw07_ProjectBoundsAsSpecified.j0 k a0 l1 l2 l3 true))) else (antiquarylaw07_ProjectBoundsAsSpecified.j0 k a0 l1 l2 l3 true)) = some r := H
      have A8 := Aside0.mk A80
      clear A80
      by_cases c9 : t298 = true
      · subst c9
        have H1 : ((antiquaryref07_Ranges.f k l2 (l1.length : Int)).bind fun t299 => (if t299 = true then ((antiquaryref04_Metric.f a0).bind fun t300 => (antiquarylaw07_ProjectBoundsAsSpecified.j0 k a0 l1 l2 l3 (!t300))) else (antiquarylaw07_ProjectBoundsAsSpecified.j0 k a0 l1 l2 l3 true))) = some r := by rw [if_pos rfl] at H; exact H
        clear H
        have H := H1
        clear H1
        replace H := Option.bind_eq_some_iff.mp H
        obtain ⟨t299, A100, H⟩ := H
        replace H : (if t299 = true then ((antiquaryref04_Metric.f a0).bind fun t300 => (antiquarylaw07_ProjectBoundsAsSpecified.j0 k a0 l1 l2 l3 (!t300))) else (antiquarylaw07_ProjectBoundsAsSpecified.j0 k a0 l1 l2 l3 true)) = some r := H
        have A10 := Aside0.mk A100
        clear A100
        by_cases c11 : t299 = true
        · subst c11
          have H1 : ((antiquaryref04_Metric.f a0).bind fun t300 => (antiquarylaw07_ProjectBoundsAsSpecified.j0 k a0 l1 l2 l3 (!t300))) = some r := by rw [if_pos rfl] at H; exact H
          clear H
          have H := H1
          clear H1
          replace H := Option.bind_eq_some_iff.mp H
          obtain ⟨t300, A120, H⟩ := H
          replace H : (antiquarylaw07_ProjectBoundsAsSpecified.j0 k a0 l1 l2 l3 (!t300)) = some r := H
          have A12 := Aside0.mk A120
          clear A120
          have H' := Aside0.mk H
          clear H
          go_wp2_with (first | ((with_reducible refine gate_callee (f := 29) rfl ?_); refine goesL_ (some 10) rfl rfl Tryd.func29 (by kernel_rfl) rfl #[.slice A3 l3.length c3] rfl (by (try simp only [List.map_toArray, List.map_cons, List.map_nil]); first | done | rfl | (simp only [List.length_drop, List.length_take]; rfl)) ?_; (with_reducible refine (antiquaryref04_Valid.calls k _ _ l3 true _ ?side1 ?side2 A6.out).mono ?_); (case side1 => repeat (first | exact (Kd.C_below HR3.out HB.out) | (with_reducible refine Kd.C_alloc ?_ _) | (with_reducible refine Kd.C_drewN ?_ _) | (with_reducible refine Kd.C_drew ?_))); (case side2 => exact HC3.out); rintro e w' ⟨rfl, ⟨nd, rfl⟩⟩; refine ⟨_, rfl, ?_⟩) | (go_at_call 12; (with_reducible refine (antiquaryref07_Valid.calls k _ _ l1 (l3.length : Int) true _ ?side1 ?side2 A8.out).mono ?_); (case side1 => repeat (first | exact (Kd.C_below HR1.out (by repeat (first | (with_reducible first | exact HB.out | apply below_alloc | apply pw_below_drewN | apply below_drew1) | exact HB.out))) | (with_reducible refine Kd.C_alloc ?_ _) | (with_reducible refine Kd.C_drewN ?_ _) | (with_reducible refine Kd.C_drew ?_))); (case side2 => exact HC1.out); rintro e w' ⟨rfl, ⟨nd, rfl⟩⟩) | (go_at_call 30; (with_reducible refine (antiquaryref07_Ranges.calls k _ _ l2 (l1.length : Int) true _ ?side1 ?side2 A10.out).mono ?_); (case side1 => repeat (first | exact (Kd.C_below HR2.out (by repeat (first | (with_reducible first | exact HB.out | apply below_alloc | apply pw_below_drewN | apply below_drew1) | exact HB.out))) | (with_reducible refine Kd.C_alloc ?_ _) | (with_reducible refine Kd.C_drewN ?_ _) | (with_reducible refine Kd.C_drew ?_))); (case side2 => exact HC2.out); rintro e w' ⟨rfl, ⟨nd, rfl⟩⟩) | (go_at_call 31; (with_reducible refine (antiquaryref04_Metric.calls a0 t300 _ A12.out).mono ?_); rintro e w' ⟨rfl, ⟨nd, rfl⟩⟩))
          go_meet
          case rel => exact ⟨_, (!t300), (by first | rfl | (simp; done) | (simp [*]; done)), H', ⟨by first | omega | exact Nat.le_refl _⟩, ⟨by repeat (first | (with_reducible first | exact HB.out | apply below_alloc | apply pw_below_drewN | apply below_drew1) | exact HB.out)⟩⟩
        · replace c11 := Bool.eq_false_iff.mpr c11
          subst c11
          have H1 : (antiquarylaw07_ProjectBoundsAsSpecified.j0 k a0 l1 l2 l3 true) = some r := by rw [if_neg (show ¬ (false = true) by decide)] at H; exact H
          clear H
          have H := H1
          clear H1
          have H' := Aside0.mk H
          clear H
          go_wp2_with (first | ((with_reducible refine gate_callee (f := 29) rfl ?_); refine goesL_ (some 10) rfl rfl Tryd.func29 (by kernel_rfl) rfl #[.slice A3 l3.length c3] rfl (by (try simp only [List.map_toArray, List.map_cons, List.map_nil]); first | done | rfl | (simp only [List.length_drop, List.length_take]; rfl)) ?_; (with_reducible refine (antiquaryref04_Valid.calls k _ _ l3 true _ ?side1 ?side2 A6.out).mono ?_); (case side1 => repeat (first | exact (Kd.C_below HR3.out HB.out) | (with_reducible refine Kd.C_alloc ?_ _) | (with_reducible refine Kd.C_drewN ?_ _) | (with_reducible refine Kd.C_drew ?_))); (case side2 => exact HC3.out); rintro e w' ⟨rfl, ⟨nd, rfl⟩⟩; refine ⟨_, rfl, ?_⟩) | (go_at_call 12; (with_reducible refine (antiquaryref07_Valid.calls k _ _ l1 (l3.length : Int) true _ ?side1 ?side2 A8.out).mono ?_); (case side1 => repeat (first | exact (Kd.C_below HR1.out (by repeat (first | (with_reducible first | exact HB.out | apply below_alloc | apply pw_below_drewN | apply below_drew1) | exact HB.out))) | (with_reducible refine Kd.C_alloc ?_ _) | (with_reducible refine Kd.C_drewN ?_ _) | (with_reducible refine Kd.C_drew ?_))); (case side2 => exact HC1.out); rintro e w' ⟨rfl, ⟨nd, rfl⟩⟩) | (go_at_call 30; (with_reducible refine (antiquaryref07_Ranges.calls k _ _ l2 (l1.length : Int) false _ ?side1 ?side2 A10.out).mono ?_); (case side1 => repeat (first | exact (Kd.C_below HR2.out (by repeat (first | (with_reducible first | exact HB.out | apply below_alloc | apply pw_below_drewN | apply below_drew1) | exact HB.out))) | (with_reducible refine Kd.C_alloc ?_ _) | (with_reducible refine Kd.C_drewN ?_ _) | (with_reducible refine Kd.C_drew ?_))); (case side2 => exact HC2.out); rintro e w' ⟨rfl, ⟨nd, rfl⟩⟩))
          go_meet
          case rel => exact ⟨_, (true), (by first | rfl | (simp; done) | (simp [*]; done)), H', ⟨by first | omega | exact Nat.le_refl _⟩, ⟨by repeat (first | (with_reducible first | exact HB.out | apply below_alloc | apply pw_below_drewN | apply below_drew1) | exact HB.out)⟩⟩
      · replace c9 := Bool.eq_false_iff.mpr c9
        subst c9
        have H1 : (antiquarylaw07_ProjectBoundsAsSpecified.j0 k a0 l1 l2 l3 true) = some r := by rw [if_neg (show ¬ (false = true) by decide)] at H; exact H
        clear H
        have H := H1
        clear H1
        have H' := Aside0.mk H
        clear H
        go_wp2_with (first | ((with_reducible refine gate_callee (f := 29) rfl ?_); refine goesL_ (some 10) rfl rfl Tryd.func29 (by kernel_rfl) rfl #[.slice A3 l3.length c3] rfl (by (try simp only [List.map_toArray, List.map_cons, List.map_nil]); first | done | rfl | (simp only [List.length_drop, List.length_take]; rfl)) ?_; (with_reducible refine (antiquaryref04_Valid.calls k _ _ l3 true _ ?side1 ?side2 A6.out).mono ?_); (case side1 => repeat (first | exact (Kd.C_below HR3.out HB.out) | (with_reducible refine Kd.C_alloc ?_ _) | (with_reducible refine Kd.C_drewN ?_ _) | (with_reducible refine Kd.C_drew ?_))); (case side2 => exact HC3.out); rintro e w' ⟨rfl, ⟨nd, rfl⟩⟩; refine ⟨_, rfl, ?_⟩) | (go_at_call 12; (with_reducible refine (antiquaryref07_Valid.calls k _ _ l1 (l3.length : Int) false _ ?side1 ?side2 A8.out).mono ?_); (case side1 => repeat (first | exact (Kd.C_below HR1.out (by repeat (first | (with_reducible first | exact HB.out | apply below_alloc | apply pw_below_drewN | apply below_drew1) | exact HB.out))) | (with_reducible refine Kd.C_alloc ?_ _) | (with_reducible refine Kd.C_drewN ?_ _) | (with_reducible refine Kd.C_drew ?_))); (case side2 => exact HC1.out); rintro e w' ⟨rfl, ⟨nd, rfl⟩⟩))
        go_meet
        case rel => exact ⟨_, (true), (by first | rfl | (simp; done) | (simp [*]; done)), H', ⟨by first | omega | exact Nat.le_refl _⟩, ⟨by repeat (first | (with_reducible first | exact HB.out | apply below_alloc | apply pw_below_drewN | apply below_drew1) | exact HB.out)⟩⟩
    · replace c7 := Bool.eq_false_iff.mpr c7
      subst c7
      have H1 : (antiquarylaw07_ProjectBoundsAsSpecified.j0 k a0 l1 l2 l3 true) = some r := by rw [if_neg (show ¬ (false = true) by decide)] at H; exact H
      clear H
      have H := H1
      clear H1
      have H' := Aside0.mk H
      clear H
      go_wp2_with (first | ((with_reducible refine gate_callee (f := 29) rfl ?_); refine goesL_ (some 10) rfl rfl Tryd.func29 (by kernel_rfl) rfl #[.slice A3 l3.length c3] rfl (by (try simp only [List.map_toArray, List.map_cons, List.map_nil]); first | done | rfl | (simp only [List.length_drop, List.length_take]; rfl)) ?_; (with_reducible refine (antiquaryref04_Valid.calls k _ _ l3 false _ ?side1 ?side2 A6.out).mono ?_); (case side1 => repeat (first | exact (Kd.C_below HR3.out HB.out) | (with_reducible refine Kd.C_alloc ?_ _) | (with_reducible refine Kd.C_drewN ?_ _) | (with_reducible refine Kd.C_drew ?_))); (case side2 => exact HC3.out); rintro e w' ⟨rfl, ⟨nd, rfl⟩⟩; refine ⟨_, rfl, ?_⟩))
      go_meet
      case rel => exact ⟨_, (true), (by first | rfl | (simp; done) | (simp [*]; done)), H', ⟨by first | omega | exact Nat.le_refl _⟩, ⟨by repeat (first | (with_reducible first | exact HB.out | apply below_alloc | apply pw_below_drewN | apply below_drew1) | exact HB.out)⟩⟩
  case rest =>
    clear HC5
    try clear c1
    try clear c2
    try clear p2
    try clear c3
    try clear c5
    try clear c7
    try clear c9
    try clear c11
    obtain ⟨kq, x30_4, rfl, HA, HJ4, HB⟩ := hcut
    cases kq with
    | zero => exact absurd HA.out (by simp [antiquarylaw07_ProjectBoundsAsSpecified.j0])
    | succ kj4 =>
      have H := HA.out
      clear HA
      simp only [antiquarylaw07_ProjectBoundsAsSpecified.j0] at H
      by_cases c13 : x30_4 = true
      · subst c13
        have H1 : ((antiquarylaw07_sanity.f kj4).bind fun t301 => (some t301)) = some r := by rw [if_pos rfl] at H; exact H
        clear H
        have H := H1
        clear H1
        replace H := Option.bind_eq_some_iff.mp H
        obtain ⟨t301, A140, H⟩ := H
        replace H : (some t301) = some r := H
        have A14 := Aside0.mk A140
        clear A140
        obtain rfl := Option.some.inj H
        go_wp2_with (first | ((with_reducible refine gate_callee (f := 10) rfl ?_); refine goesL_ (some 31) rfl rfl Tryd.func10 (by kernel_rfl) rfl #[] rfl (by (try simp only [List.map_toArray, List.map_cons, List.map_nil]); first | done | rfl | (simp only [List.length_drop, List.length_take]; rfl)) ?_; (with_reducible refine (antiquarylaw07_sanity.calls kj4  t301 _ ?side1 A14.out).mono ?_); (case side1 => exact Tab.below HT.out (by repeat (first | (with_reducible first | exact HB.out | apply below_alloc | apply pw_below_drewN | apply below_drew1) | exact HB.out))); rintro e w15 ⟨rfl, hb⟩; refine ⟨_, rfl, ?_⟩; have n0_ := Aside0.mk (below_step (by repeat (first | (with_reducible first | exact HB.out | apply below_alloc | apply pw_below_drewN | apply below_drew1) | exact HB.out)) hb); clear HB; have HB := n0_; clear n0_; (try clear hb); (try clear hb2); (try clear hk); (try clear hi)))
        go_ret
        exact ⟨by first | rfl | (simp [errW_none, errW_some] <;> rfl) | (simp [*, errW_none, errW_some] <;> rfl), by repeat (first | (with_reducible first | exact HB.out | apply below_alloc | apply pw_below_drewN | apply below_drew1) | exact HB.out)⟩
      · replace c13 := Bool.eq_false_iff.mpr c13
        subst c13
        have H1 : ((antiquarylaw07_sanity.f kj4).bind fun t302 => (if t302 = true then ((project_Bound.f a0 l1 l2 l3).bind fun t303 => ((antiquaryref07_Bound.f kj4 a0 l1 l2 l3).bind fun t304 => (some (t303 == t304)))) else (some false))) = some r := by rw [if_neg (show ¬ (false = true) by decide)] at H; exact H
        clear H
        have H := H1
        clear H1
        replace H := Option.bind_eq_some_iff.mp H
        obtain ⟨t302, A160, H⟩ := H
        replace H : (if t302 = true then ((project_Bound.f a0 l1 l2 l3).bind fun t303 => ((antiquaryref07_Bound.f kj4 a0 l1 l2 l3).bind fun t304 => (some (t303 == t304)))) else (some false)) = some r := H
        have A16 := Aside0.mk A160
        clear A160
        by_cases c17 : t302 = true
        · subst c17
          have H1 : ((project_Bound.f a0 l1 l2 l3).bind fun t303 => ((antiquaryref07_Bound.f kj4 a0 l1 l2 l3).bind fun t304 => (some (t303 == t304)))) = some r := by rw [if_pos rfl] at H; exact H
          clear H
          have H := H1
          clear H1
          replace H := Option.bind_eq_some_iff.mp H
          obtain ⟨t303, A180, H⟩ := H
          replace H : ((antiquaryref07_Bound.f kj4 a0 l1 l2 l3).bind fun t304 => (some (t303 == t304))) = some r := H
          have A18 := Aside0.mk A180
          clear A180
          replace H := Option.bind_eq_some_iff.mp H
          obtain ⟨t304, A190, H⟩ := H
          replace H : (some (t303 == t304)) = some r := H
          have A19 := Aside0.mk A190
          clear A190
          obtain rfl := Option.some.inj H
          go_wp2_with (first | ((with_reducible refine gate_callee (f := 10) rfl ?_); refine goesL_ (some 32) rfl rfl Tryd.func10 (by kernel_rfl) rfl #[] rfl (by (try simp only [List.map_toArray, List.map_cons, List.map_nil]); first | done | rfl | (simp only [List.length_drop, List.length_take]; rfl)) ?_; (with_reducible refine (antiquarylaw07_sanity.calls kj4  true _ ?side1 A16.out).mono ?_); (case side1 => exact Tab.below HT.out (by repeat (first | (with_reducible first | exact HB.out | apply below_alloc | apply pw_below_drewN | apply below_drew1) | exact HB.out))); rintro e w20 ⟨rfl, hb⟩; refine ⟨_, rfl, ?_⟩; have n0_ := Aside0.mk (below_step (by repeat (first | (with_reducible first | exact HB.out | apply below_alloc | apply pw_below_drewN | apply below_drew1) | exact HB.out)) hb); clear HB; have HB := n0_; clear n0_; (try clear hb); (try clear hb2); (try clear hk); (try clear hi)) | (go_at_call 32; (with_reducible refine (project_Bound.calls a0 _ _ l1 _ _ l2 _ _ l3 t303 _ ?side1 ?side2 ?side3 ?side4 ?side5 ?side6 A18.out).mono ?_); (case side1 => repeat (first | exact (Kd.C_below HR1.out HB.out) | (with_reducible refine Kd.C_alloc ?_ _) | (with_reducible refine Kd.C_drewN ?_ _) | (with_reducible refine Kd.C_drew ?_))); (case side2 => exact HC1.out); (case side3 => repeat (first | exact (Kd.C_below HR2.out HB.out) | (with_reducible refine Kd.C_alloc ?_ _) | (with_reducible refine Kd.C_drewN ?_ _) | (with_reducible refine Kd.C_drew ?_))); (case side4 => exact HC2.out); (case side5 => repeat (first | exact (Kd.C_below HR3.out HB.out) | (with_reducible refine Kd.C_alloc ?_ _) | (with_reducible refine Kd.C_drewN ?_ _) | (with_reducible refine Kd.C_drew ?_))); (case side6 => exact HC3.out); rintro e w21 ⟨rfl, hb⟩; have n0_ := Aside0.mk (below_step (by repeat (first | (with_reducible first | exact HB.out | apply below_alloc | apply pw_below_drewN | apply below_drew1) | exact HB.out)) hb); clear HB; have HB := n0_; clear n0_; (try clear hb); (try clear hb2); (try clear hk); (try clear hi)) | (go_at_call 33; (with_reducible refine (antiquaryref07_Bound.calls kj4 a0 _ _ l1 _ _ l2 _ _ l3 t304 _ ?side1 ?side2 ?side3 ?side4 ?side5 ?side6 A19.out).mono ?_); (case side1 => repeat (first | exact (Kd.C_below HR1.out HB.out) | (with_reducible refine Kd.C_alloc ?_ _) | (with_reducible refine Kd.C_drewN ?_ _) | (with_reducible refine Kd.C_drew ?_))); (case side2 => exact HC1.out); (case side3 => repeat (first | exact (Kd.C_below HR2.out HB.out) | (with_reducible refine Kd.C_alloc ?_ _) | (with_reducible refine Kd.C_drewN ?_ _) | (with_reducible refine Kd.C_drew ?_))); (case side4 => exact HC2.out); (case side5 => repeat (first | exact (Kd.C_below HR3.out HB.out) | (with_reducible refine Kd.C_alloc ?_ _) | (with_reducible refine Kd.C_drewN ?_ _) | (with_reducible refine Kd.C_drew ?_))); (case side6 => exact HC3.out); rintro e w22 ⟨rfl, hb⟩; have n0_ := Aside0.mk (below_step (by repeat (first | (with_reducible first | exact HB.out | apply below_alloc | apply pw_below_drewN | apply below_drew1) | exact HB.out)) hb); clear HB; have HB := n0_; clear n0_; (try clear hb); (try clear hb2); (try clear hk); (try clear hi)))
          go_ret
          exact ⟨by first | rfl | (simp [errW_none, errW_some] <;> rfl) | (simp [*, errW_none, errW_some] <;> rfl), by repeat (first | (with_reducible first | exact HB.out | apply below_alloc | apply pw_below_drewN | apply below_drew1) | exact HB.out)⟩
        · replace c17 := Bool.eq_false_iff.mpr c17
          subst c17
          have H1 : (some false) = some r := by rw [if_neg (show ¬ (false = true) by decide)] at H; exact H
          clear H
          have H := H1
          clear H1
          obtain rfl := Option.some.inj H
          go_wp2_with (first | ((with_reducible refine gate_callee (f := 10) rfl ?_); refine goesL_ (some 32) rfl rfl Tryd.func10 (by kernel_rfl) rfl #[] rfl (by (try simp only [List.map_toArray, List.map_cons, List.map_nil]); first | done | rfl | (simp only [List.length_drop, List.length_take]; rfl)) ?_; (with_reducible refine (antiquarylaw07_sanity.calls kj4  false _ ?side1 A16.out).mono ?_); (case side1 => exact Tab.below HT.out (by repeat (first | (with_reducible first | exact HB.out | apply below_alloc | apply pw_below_drewN | apply below_drew1) | exact HB.out))); rintro e w23 ⟨rfl, hb⟩; refine ⟨_, rfl, ?_⟩; have n0_ := Aside0.mk (below_step (by repeat (first | (with_reducible first | exact HB.out | apply below_alloc | apply pw_below_drewN | apply below_drew1) | exact HB.out)) hb); clear HB; have HB := n0_; clear n0_; (try clear hb); (try clear hb2); (try clear hk); (try clear hi)))
          go_ret
          exact ⟨by first | rfl | (simp [errW_none, errW_some] <;> rfl) | (simp [*, errW_none, errW_some] <;> rfl), by repeat (first | (with_reducible first | exact HB.out | apply below_alloc | apply pw_below_drewN | apply below_drew1) | exact HB.out)⟩

end Go.Proofs.YticponffemffnaaDoor.P
