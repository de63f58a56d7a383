/- What the plain laws of the check's chapter share. -/
import Derived.Test.YtkkmkfkgmioblaaDoorExt
set_option linter.unusedVariables false
set_option linter.unusedSimpArgs false
namespace Go.Proofs.YtkkmkfkgmioblaaDoor.Pure
open Go Go.RowKit Go.Lx CrcMath Go.Proofs.YtkkmkfkgmioblaaDoor Go.Proofs.YtkkmkfkgmioblaaDoor.Ext Go.Proofs.YtkkmkfkgmioblaaDoorW.PrintWords

theorem isB_wf {l : List Int} (h : ∀ x ∈ l, (Lit.int .u8 x).wf = true) : isB l = true := by
  rw [isB_iff]
  intro x hx
  have := h x hx
  simp [Lit.wf, IntKind.min, IntKind.max, IntKind.signed, IntKind.bits] at this
  omega
theorem wf64 {n : Int} (h : (Lit.int .i64 n).wf = true) : -9223372036854775808 ≤ n ∧ n ≤ 9223372036854775807 := by
  simp [Lit.wf, IntKind.min, IntKind.max, IntKind.signed, IntKind.bits] at h
  omega
theorem crc_f {l : List Int} (h : isB l = true) : hash_Crc40.f l = some ((crcB (toB l)).toNat : Int) := by unfold hash_Crc40.f; rw [if_pos h]
theorem join_f (a b n : Int) (h : n < 9223372036854775808) : hash_Join.f a b n = some (joinV a b n) := by unfold hash_Join.f; rw [if_pos (by omega)]
theorem toB_append (a b : List Int) : toB (a ++ b) = toB a ++ toB b := by unfold toB; rw [List.map_append]
theorem isB_append {a b : List Int} (ha : isB a = true) (hb : isB b = true) : isB (a ++ b) = true := by
  rw [isB_iff] at *
  intro x hx
  rcases List.mem_append.1 hx with h | h
  · exact ha x h
  · exact hb x h
theorem isB_nil : isB [] = true := rfl
end Go.Proofs.YtkkmkfkgmioblaaDoor.Pure
