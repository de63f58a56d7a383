/- From a row's listed tables to what the walks ask of the world; a start that meets them. -/
import Derived.Test.YtkkmkfkgmioblaaDoorBase
import Derived.Test.YtkkmkfkgmioblaaDoorRows
import Derived.Lib.LaidU8
import Derived.LaidMore
import Derived.LaidSub
import Derived.MakeChecks
import Derived.LaidHandle
import Derived.ProofKit
import Derived.OpenShut
import Derived.Stop.Joined
set_option linter.unusedVariables false
set_option linter.unusedSimpArgs false
namespace Go.Proofs.YtkkmkfkgmioblaaDoor
open Go Go.RowKit Go.Lx

abbrev laid2 : List (String × DataW Unit) := [("antiquary/hash.nibbles", Rows.laid_antiquary_hash_nibbles), ("antiquary/hash.constants", Rows.laid_antiquary_hash_constants)]
abbrev laid3 : List (String × DataW Unit) := [("antiquary/antiquaryref02.constants", Rows.laid_antiquary_antiquaryref02_constants), ("antiquary/hash.nibbles", Rows.laid_antiquary_hash_nibbles), ("antiquary/hash.constants", Rows.laid_antiquary_hash_constants)]

theorem tab_cells {W : World} {name : String} {g t e n : Nat} {k : IntKind} {zs : List Int} (hg : Tryd.prog.globalNamed name = some g) (hty : (Tryd.prog.globals[g]?).map (·.type) = some t)
    (ht : Tryd.prog.underlying t = some (.array n e)) (he : Tryd.prog.underlying e = some (.int k)) (hce : Tryd.prog.cellsOf e = 1) (hct : Tryd.prog.cellsOf t = n)
    (h : Lib.VarReads Tryd.prog W name (Lib.tabData k zs)) (j : Nat) (hj : j < zs.length) : W.cell? ⟨g, j, none⟩ = some (.int k (zs.getD j 0)) := by
  obtain ⟨g', t', cs, fuel, p, hg', ht', hv, hd⟩ := h
  obtain rfl := Option.some.inj (hg.symm.trans hg')
  obtain rfl := Option.some.inj (hty.symm.trans ht')
  have hcs := Lib.cells_of_tab ht he hce hct hd
  have h1 : Lib.TabIs Tryd.prog W name k zs := by unfold Lib.TabIs; rw [hv, ← hcs]
  exact h1.cell hg j hj

theorem gd_map {α β : Type} (f : α → β) (l : List α) (j : Nat) (a : α) (b : β) (hj : j < l.length) : (l.map f).getD j b = f (l.getD j a) := by
  simp [List.getD_eq_getElem?_getD, hj]
theorem nib_datum : (Rows.laid_antiquary_hash_nibbles : DataW Unit) = Lib.tabData .u64 (CrcMath.tab.map fun (n : Nat) => (n : Int)) := by kernel_rfl
theorem kcs_datum : (Rows.laid_antiquary_hash_constants : DataW Unit) = Lib.tabData .u32 (kTab.map fun (n : Nat) => (n : Int)) := by kernel_rfl
theorem krs_datum : (Rows.laid_antiquary_antiquaryref02_constants : DataW Unit) = Lib.tabData .u32 (kTab.map fun (n : Nat) => (n : Int)) := by kernel_rfl
theorem kTab_len : kTab.length = 64 := by decide
theorem kc_val (j : Nat) (hj : j < 64) : ((kTab.getD j 0 : Nat) : Int) = w32 (kc j) := by
  have : ∀ i : Fin 64, kTab.getD i.val 0 < 4294967296 := by decide
  have := this ⟨j, hj⟩
  unfold w32 kc
  rw [BitVec.toNat_ofNat]
  simp only at this
  rw [Nat.mod_eq_of_lt (show kTab.getD j 0 < 2 ^ 32 from this)]
theorem tab_of {W : World} (h1 : Lib.VarReads Tryd.prog W "antiquary/hash.nibbles" Rows.laid_antiquary_hash_nibbles) (h2 : Lib.VarReads Tryd.prog W "antiquary/hash.constants" Rows.laid_antiquary_hash_constants) : Tab W := by
  rw [nib_datum] at h1
  rw [kcs_datum] at h2
  refine ⟨fun j hj => ?_, fun j hj => ?_⟩
  · have hj16 : j < CrcMath.tab.length := hj
    have := tab_cells (g := 1) (t := 79) (e := 28) (n := 16) (by kernel_rfl) (by kernel_rfl) (by kernel_rfl) (by kernel_rfl) (by kernel_rfl) (by kernel_rfl) h1 j (by rw [List.length_map]; exact hj)
    rw [this, gd_map _ CrcMath.tab j 0 0 hj16]
  · have := tab_cells (g := 2) (t := 73) (e := 49) (n := 64) (by kernel_rfl) (by kernel_rfl) (by kernel_rfl) (by kernel_rfl) (by kernel_rfl) (by kernel_rfl) h2 j (by rw [List.length_map, kTab_len]; exact hj)
    rw [this, gd_map _ _ j 0 0 (by rw [kTab_len]; exact hj), kc_val j hj]
theorem tabR_of {W : World} (h2 : Lib.VarReads Tryd.prog W "antiquary/antiquaryref02.constants" Rows.laid_antiquary_antiquaryref02_constants) : TabR W := by
  rw [krs_datum] at h2
  intro j hj
  have := tab_cells (g := 0) (t := 73) (e := 49) (n := 64) (by kernel_rfl) (by kernel_rfl) (by kernel_rfl) (by kernel_rfl) (by kernel_rfl) (by kernel_rfl) h2 j (by rw [List.length_map, kTab_len]; exact hj)
  rw [this, gd_map _ _ j 0 0 (by rw [kTab_len]; exact hj), kc_val j hj]
theorem tab_of_laid2 {W : World} (h : laidMetH Tryd.prog laid2 W) : Tab W := by
  rw [MakeChecks.laidMetH_plain _ _ _ (by kernel_rfl)] at h
  exact tab_of (Lib.laidMet.reads h (.head _)) (Lib.laidMet.reads h (.tail _ (.head _)))
theorem tab_of_laid3 {W : World} (h : laidMetH Tryd.prog laid3 W) : Tab W := by
  rw [MakeChecks.laidMetH_plain _ _ _ (by kernel_rfl)] at h
  exact tab_of (Lib.laidMet.reads h (.tail _ (.head _))) (Lib.laidMet.reads h (.tail _ (.tail _ (.head _))))
theorem tabR_of_laid3 {W : World} (h : laidMetH Tryd.prog laid3 W) : TabR W := by
  rw [MakeChecks.laidMetH_plain _ _ _ (by kernel_rfl)] at h
  exact tabR_of (Lib.laidMet.reads h (.head _))
theorem door_met2 (os : Os) (args : Array Value) : laidMetH Tryd.prog laid2 ((World.doorLaid Tryd.prog 400 os).forCall (fun _ _ => 0) ⟨#[], args, []⟩).memory :=
  laidMetH_of_parts3 (fuel := 8) (laidMet_of_run' 8 (by kernel_rfl) (by kernel_rfl)) (by kernel_rfl) (by kernel_rfl)
theorem door_met3 (os : Os) (args : Array Value) : laidMetH Tryd.prog laid3 ((World.doorLaid Tryd.prog 400 os).forCall (fun _ _ => 0) ⟨#[], args, []⟩).memory :=
  laidMetH_of_parts3 (fuel := 8) (laidMet_of_run' 8 (by kernel_rfl) (by kernel_rfl)) (by kernel_rfl) (by kernel_rfl)
theorem doorOwn : ownKnob Tryd.prog.godebug = none := by kernel_rfl
theorem doorLaidOut : laidOutB Tryd.prog = true := by kernel_rfl
end Go.Proofs.YtkkmkfkgmioblaaDoor
