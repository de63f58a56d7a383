/- Plain law: Join with n + m is Join with n followed by Join with m; its second number is combined by exclusive or. -/
import Derived.Test.YtkkmkfkgmioblaaDoorP3
import Derived.Test.YtkkmkfkgmioblaaDoorPureCommon
set_option linter.unusedVariables false
set_option linter.unusedSimpArgs false
namespace Go.Proofs.YtkkmkfkgmioblaaDoor.Pure
open Go Go.RowKit Go.Lx CrcMath Go.Proofs.YtkkmkfkgmioblaaDoor Go.Proofs.YtkkmkfkgmioblaaDoor.P Go.Proofs.YtkkmkfkgmioblaaDoor.Ext Go.Proofs.YtkkmkfkgmioblaaDoorW.PrintWords Go.Proofs.YtkkmkfkgmioblaaDoorW.PrintLast

theorem joinV_nat (a b : Int) (n : Nat) : joinV a b (n : Int) = ((Xn (8 * n) (BitVec.ofInt 40 a) ^^^ BitVec.ofInt 40 b).toNat : Int) := by
  unfold joinV
  rw [if_neg (by omega), Int.toNat_natCast]
theorem shifts_core (A B : R) (b : Int) (N M : Nat) (hb : BitVec.ofInt 40 b = B) (a : Int) (ha : BitVec.ofInt 40 a = A) (hN : N < 1099511627776) (hM : M < 1099511627776) :
    ((hash_Join.f a 0 (wrap64 ((N : Int) + (M : Int)))).bind fun t171 => (hash_Join.f a 0 (N : Int)).bind fun t172 => (hash_Join.f t172 0 (M : Int)).bind fun t173 => (hash_Join.f a b (wrap64 ((N : Int) + (M : Int)))).bind fun t174 =>
      if t171 = t173 then (if t174 = Go.bits .xor .i64 t171 (B.toNat : Int) then ((hash_Join.f 0 b (N : Int)).bind fun t175 => some (t175 == (B.toNat : Int))) else some false) else some false) = some true := by
  have e0 : wrap64 ((N : Int) + (M : Int)) = ((N + M : Nat) : Int) := by unfold wrap64; omega
  rw [e0, join_f _ _ _ (by omega), join_f _ _ _ (by omega)]
  simp only [Option.bind_some]
  rw [join_f _ _ _ (by omega), join_f _ _ _ (by omega)]
  simp only [Option.bind_some, joinV_nat, ha, hb]
  have z : BitVec.ofInt 40 0 = (0#40 : R) := rfl
  rw [z, BitVec.xor_zero, BitVec.xor_zero, ofInt_toNat40, BitVec.xor_zero, ← Xn_add, show 8 * M + 8 * N = 8 * (N + M) from by omega, if_pos rfl, xor_i64, if_pos rfl, join_f _ _ _ (by omega)]
  simp only [Option.bind_some, joinV_nat, z, hb, Xn_zero, BitVec.zero_xor]
  simp
theorem HashShifts : antiquarylaw02_HashShifts.Pure := by
  intro a b n m wa wb wn wm
  unfold antiquarylaw02_HashShifts.f antiquarylaw02_sanity.f
  simp only [Option.bind_some]
  rw [and_i64, and_i64, and_i64]
  have h := shifts_core _ _ b _ _ rfl a rfl (BitVec.ofInt 40 n).isLt (BitVec.ofInt 40 m).isLt
  simpa only [if_true] using h
end Go.Proofs.YtkkmkfkgmioblaaDoor.Pure
