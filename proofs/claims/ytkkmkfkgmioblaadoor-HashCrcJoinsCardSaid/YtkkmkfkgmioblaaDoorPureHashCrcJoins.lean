/- Plain law: the check of a concatenation is that of the checks, joined in either order. -/
import Derived.Test.YtkkmkfkgmioblaaDoorP3
import Derived.Test.YtkkmkfkgmioblaaDoorPureCommon
set_option linter.unusedVariables false
set_option linter.unusedSimpArgs false
namespace Go.Proofs.YtkkmkfkgmioblaaDoor.Pure
open Go Go.RowKit Go.Lx CrcMath Go.Proofs.YtkkmkfkgmioblaaDoor Go.Proofs.YtkkmkfkgmioblaaDoor.P Go.Proofs.YtkkmkfkgmioblaaDoor.Ext Go.Proofs.YtkkmkfkgmioblaaDoorW.PrintWords Go.Proofs.YtkkmkfkgmioblaaDoorW.PrintLast

theorem whole_f {a b c : List Int} (ha : isB a = true) (hb : isB b = true) (hc : isB c = true) : hash_Crc40.f ([] ++ a ++ b ++ c) = some ((crcB (toB a ++ toB b ++ toB c)).toNat : Int) := by
  rw [List.nil_append, crc_f (isB_append (isB_append ha hb) hc), toB_append, toB_append]
theorem joins_j0 (a b c : List Int) (ha : isB a = true) (hb : isB b = true) (hc : isB c = true) (h0 : a.length ≤ 400) (h1 : b.length ≤ 400) (h2 : c.length ≤ 400) :
    antiquarylaw02_HashCrcJoins.j0 (0 + 1) a b c true false = some true := by
  have e1 : joinV ((crcB (toB a)).toNat : Int) ((crcB (toB b)).toNat : Int) (b.length : Int) = ((crcB (toB a ++ toB b)).toNat : Int) := by
    rw [← crcB_join (toB a), toB_length]
  have e2 : joinV ((crcB (toB a ++ toB b)).toNat : Int) ((crcB (toB c)).toNat : Int) (c.length : Int) = ((crcB (toB a ++ toB b ++ toB c)).toNat : Int) := by
    rw [← crcB_join (toB a ++ toB b), toB_length]
  have e3 : joinV ((crcB (toB b)).toNat : Int) ((crcB (toB c)).toNat : Int) (c.length : Int) = ((crcB (toB b ++ toB c)).toNat : Int) := by
    rw [← crcB_join (toB b), toB_length]
  have e4 : joinV ((crcB (toB a)).toNat : Int) ((crcB (toB b ++ toB c)).toNat : Int) (wrap64 ((b.length : Int) + (c.length : Int))) = ((crcB (toB a ++ toB b ++ toB c)).toNat : Int) := by
    rw [List.append_assoc, ← crcB_join (toB a), List.length_append, toB_length, toB_length]
    congr 1
    unfold wrap64; omega
  have hw := whole_f ha hb hc
  have l1 : (b.length : Int) < 1000 := by omega
  have l2 : (c.length : Int) < 1000 := by omega
  have l3 : wrap64 ((b.length : Int) + (c.length : Int)) < 1000 := by unfold wrap64; omega
  have f1 := crc_f ha
  have f2 := crc_f hb
  have f3 := crc_f hc
  simp only [antiquarylaw02_HashCrcJoins.j0]
  rw [if_neg Bool.false_ne_true, if_pos (by simp; omega)]
  simp only [Option.bind_some]
  rw [if_pos (by simp; omega), if_pos (by simp; omega)]
  generalize ((crcB (toB a)).toNat : Int) = x at *
  generalize ((crcB (toB b)).toNat : Int) = y at *
  generalize ((crcB (toB c)).toNat : Int) = z at *
  generalize ((crcB (toB a ++ toB b)).toNat : Int) = xy at *
  generalize ((crcB (toB b ++ toB c)).toNat : Int) = yz at *
  generalize ((crcB (toB a ++ toB b ++ toB c)).toNat : Int) = xyz at *
  generalize hash_Crc40.f ([] ++ a ++ b ++ c) = whole at *
  generalize wrap64 ((b.length : Int) + (c.length : Int)) = lbc at *
  generalize (b.length : Int) = lb at *
  generalize (c.length : Int) = lc at *
  rw [f1, Option.bind_some, f2, Option.bind_some, f3, Option.bind_some, join_f x y lb (by omega), Option.bind_some, e1, join_f xy z lc (by omega), Option.bind_some, e2, join_f y z lc (by omega), Option.bind_some, e3, join_f x yz lbc (by omega), Option.bind_some, e4, if_pos trivial, hw, Option.bind_some, if_pos rfl]
  simp
theorem HashCrcJoins : antiquarylaw02_HashCrcJoins.Pure := by
  intro a b c _ _ wa _ _ wb _ _ wc
  refine ⟨0 + 1, ?_⟩
  unfold antiquarylaw02_HashCrcJoins.f antiquarylaw02_sanity.f
  simp only [Option.bind_some]
  have hyes : antiquarylaw02_HashCrcJoins.j0 (0 + 1) a b c true true = some true := by
    simp only [antiquarylaw02_HashCrcJoins.j0]
    rw [if_pos trivial]
  by_cases h0 : (a.length : Int) > 400
  · rw [if_pos h0]; exact hyes
  · rw [if_neg h0]
    by_cases h1 : (b.length : Int) > 400
    · rw [if_pos h1]; exact hyes
    · rw [if_neg h1]
      by_cases h2 : (c.length : Int) > 400
      · rw [decide_eq_true h2]; exact hyes
      · rw [decide_eq_false h2]
        exact joins_j0 a b c (isB_wf wa) (isB_wf wb) (isB_wf wc) (by omega) (by omega) (by omega)
end Go.Proofs.YtkkmkfkgmioblaaDoor.Pure
