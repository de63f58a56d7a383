/- From a row's listed tables to what the walks ask of the world; a start that meets them; this chapter's arguments, opened. -/
import Derived.Test.YticponffemffnaaDoorK
import Derived.Test.YticponffemffnaaDoorP0
import Derived.Test.YticponffemffnaaDoorRows
import Derived.Lib.LaidU8
import Derived.LaidMore
import Derived.LaidSub
import Derived.MakeChecks
import Derived.LaidHandle
import Derived.ProofKit
import Derived.OpenShut
import Derived.Stop.Joined
set_option linter.unusedVariables false
set_option linter.unusedSimpArgs false
namespace Go.Proofs.YticponffemffnaaDoor
open Go Go.RowKit Go.Lx Go.Proofs.YticponffemffnaaDoorW.PrintWords Go.Proofs.YticponffemffnaaDoor.P

abbrev laid1 : List (String × DataW Unit) := [("antiquary/hash.constants", Rows.laid_antiquary_hash_constants)]
abbrev laid2 : List (String × DataW Unit) := [("antiquary/antiquaryref02.constants", Rows.laid_antiquary_antiquaryref02_constants), ("antiquary/hash.constants", Rows.laid_antiquary_hash_constants)]

theorem tab_cells {W : World} {name : String} {g t e n : Nat} {k : IntKind} {zs : List Int} (hg : Tryd.prog.globalNamed name = some g) (hty : (Tryd.prog.globals[g]?).map (·.type) = some t)
    (ht : Tryd.prog.underlying t = some (.array n e)) (he : Tryd.prog.underlying e = some (.int k)) (hce : Tryd.prog.cellsOf e = 1) (hct : Tryd.prog.cellsOf t = n)
    (h : Lib.VarReads Tryd.prog W name (Lib.tabData k zs)) (j : Nat) (hj : j < zs.length) : W.cell? ⟨g, j, none⟩ = some (.int k (zs.getD j 0)) := by
  obtain ⟨g', t', cs, fuel, p, hg', ht', hv, hd⟩ := h
  obtain rfl := Option.some.inj (hg.symm.trans hg')
  obtain rfl := Option.some.inj (hty.symm.trans ht')
  have hcs := Lib.cells_of_tab ht he hce hct hd
  have h1 : Lib.TabIs Tryd.prog W name k zs := by unfold Lib.TabIs; rw [hv, ← hcs]
  exact h1.cell hg j hj
theorem gd_map {α β : Type} (f : α → β) (l : List α) (j : Nat) (a : α) (b : β) (hj : j < l.length) : (l.map f).getD j b = f (l.getD j a) := by
  simp [List.getD_eq_getElem?_getD, hj]
theorem kcs_datum : (Rows.laid_antiquary_hash_constants : DataW Unit) = Lib.tabData .u32 (kTab.map fun (n : Nat) => (n : Int)) := by kernel_rfl
theorem krs_datum : (Rows.laid_antiquary_antiquaryref02_constants : DataW Unit) = Lib.tabData .u32 (kTab.map fun (n : Nat) => (n : Int)) := by kernel_rfl
theorem kTab_len : kTab.length = 64 := by decide
theorem kc_val (j : Nat) (hj : j < 64) : ((kTab.getD j 0 : Nat) : Int) = w32 (kc j) := by
  have : ∀ i : Fin 64, kTab.getD i.val 0 < 4294967296 := by decide
  have := this ⟨j, hj⟩
  unfold w32 kc
  rw [BitVec.toNat_ofNat]
  simp only at this
  rw [Nat.mod_eq_of_lt (show kTab.getD j 0 < 2 ^ 32 from this)]
theorem tab_of {W : World} (h2 : Lib.VarReads Tryd.prog W "antiquary/hash.constants" Rows.laid_antiquary_hash_constants) : Tab W := by
  rw [kcs_datum] at h2
  refine ⟨fun j hj => ?_⟩
  have := tab_cells (g := 0) (t := 93) (e := 71) (n := 64) (by kernel_rfl) (by kernel_rfl) (by kernel_rfl) (by kernel_rfl) (by kernel_rfl) (by kernel_rfl) h2 j (by rw [List.length_map, kTab_len]; exact hj)
  rw [this, gd_map _ _ j 0 0 (by rw [kTab_len]; exact hj), kc_val j hj]
theorem tabR_of {W : World} (h2 : Lib.VarReads Tryd.prog W "antiquary/antiquaryref02.constants" Rows.laid_antiquary_antiquaryref02_constants) : TabR W := by
  rw [krs_datum] at h2
  intro j hj
  have := tab_cells (g := 1) (t := 93) (e := 71) (n := 64) (by kernel_rfl) (by kernel_rfl) (by kernel_rfl) (by kernel_rfl) (by kernel_rfl) (by kernel_rfl) h2 j (by rw [List.length_map, kTab_len]; exact hj)
  rw [this, gd_map _ _ j 0 0 (by rw [kTab_len]; exact hj), kc_val j hj]
theorem tab_of_laid1 {W : World} (h : laidMetH Tryd.prog laid1 W) : Tab W := by
  rw [MakeChecks.laidMetH_plain _ _ _ (by kernel_rfl)] at h
  exact tab_of (Lib.laidMet.reads h (.head _))
theorem tab_of_laid2 {W : World} (h : laidMetH Tryd.prog laid2 W) : Tab W := by
  rw [MakeChecks.laidMetH_plain _ _ _ (by kernel_rfl)] at h
  exact tab_of (Lib.laidMet.reads h (.tail _ (.head _)))
theorem tabR_of_laid2 {W : World} (h : laidMetH Tryd.prog laid2 W) : TabR W := by
  rw [MakeChecks.laidMetH_plain _ _ _ (by kernel_rfl)] at h
  exact tabR_of (Lib.laidMet.reads h (.head _))
theorem door_met1 (os : Os) (args : Array Value) : laidMetH Tryd.prog laid1 ((World.doorLaid Tryd.prog 400 os).forCall (fun _ _ => 0) ⟨#[], args, []⟩).memory :=
  laidMetH_of_parts3 (fuel := 8) (laidMet_of_run' 8 (by kernel_rfl) (by kernel_rfl)) (by kernel_rfl) (by kernel_rfl)
theorem door_met2 (os : Os) (args : Array Value) : laidMetH Tryd.prog laid2 ((World.doorLaid Tryd.prog 400 os).forCall (fun _ _ => 0) ⟨#[], args, []⟩).memory :=
  laidMetH_of_parts3 (fuel := 8) (laidMet_of_run' 8 (by kernel_rfl) (by kernel_rfl)) (by kernel_rfl) (by kernel_rfl)

section
variable {H : Type} {enc : TypeId × Value → H} {W : World} {base : Nat} {spare : Nat → Bool} {held : Bool}
theorem op_int : Opens enc Tryd.prog W base spare held 3 (Kd.int .i64) (fun n => (Lit.int .i64 n).wf = true) := opens_int (by kernel_rfl)
theorem op_ints : Opens enc Tryd.prog W base spare held 24 (Kd.slice 3 (Kd.int .i64)) (fun l => ∀ x ∈ l, (Lit.int .i64 x).wf = true) := opens_slice (by kernel_rfl) (by kernel_rfl) op_int
theorem op_mat : Opens enc Tryd.prog W base spare held 22 (Kd.slice 24 (Kd.slice 3 (Kd.int .i64))) (fun l => ∀ r ∈ l, ∀ x ∈ r, (Lit.int .i64 x).wf = true) := opens_slice (by kernel_rfl) (by kernel_rfl) op_ints
theorem op_rng : Opens enc Tryd.prog W base spare held 45 k45 (fun x => (Lit.int .i64 x.f0).wf = true ∧ (Lit.int .i64 x.f1).wf = true) :=
  opens_iso (fun x : S45 => (x.f0, x.f1)) (fun p => ⟨p.1, p.2⟩) (fun _ => rfl) (opens_struct Tryd.underlying45 (by kernel_rfl) (opensAt_cons (by kernel_rfl) (by kernel_rfl) op_int (opensAt_one (by kernel_rfl) (by kernel_rfl) op_int)))
theorem op_rngs : Opens enc Tryd.prog W base spare held 29 (Kd.slice 45 k45) (fun l => ∀ x ∈ l, (Lit.int .i64 x.f0).wf = true ∧ (Lit.int .i64 x.f1).wf = true) := opens_slice (by kernel_rfl) (by kernel_rfl) op_rng
end
theorem mat_big {w : World} {A : Option Addr} {l : List (List Int)} (h : (Kd.slice 3 (Kd.int .i64)).C w A l.length l) : ∀ r ∈ l, r.length ≤ 9223372036854775807 := by
  intro r hr
  obtain ⟨j, hj, rfl⟩ := List.mem_iff_getElem.1 hr
  obtain ⟨ad, rfl, hc⟩ := h.2.2 (by omega)
  obtain ⟨cs, _, ⟨A', c', rfl, hl', hC⟩, hcell⟩ := hc j _ (List.getElem?_eq_getElem hj)
  exact hC.2.1
end Go.Proofs.YticponffemffnaaDoor
