/- Lemmas of this session for the walks and the plain laws. -/
import Derived.Test.YtkkmkfkgmioblaaDoorP2
import Derived.Test.YtkkmkfkgmioblaaDoorCrc
namespace Go.Proofs.YtkkmkfkgmioblaaDoor.Pure
open Go Go.RowKit Go.Lx CrcMath Go.Proofs.YtkkmkfkgmioblaaDoor Go.Proofs.YtkkmkfkgmioblaaDoor.P Go.Proofs.YtkkmkfkgmioblaaDoor.Ext Go.Proofs.YtkkmkfkgmioblaaDoorW.PrintWords Go.Proofs.YtkkmkfkgmioblaaDoorW.PrintLast

theorem step_f (r : R) : antiquaryref02_step.f (r.toNat : Int) 0 = some ((CrcMath.step r false).toNat : Int) := by
  have := r.isLt
  unfold antiquaryref02_step.f
  rw [if_pos ⟨by omega, by omega, .inl rfl⟩, Int.toNat_natCast]
  simp
theorem join_l0 (b n : Int) (hn : n ≤ 300) (h0 : 0 ≤ n) (d : Nat) : ∀ (k : Nat) (r : R) (i : Int), 0 ≤ i → 8 * n - i = d → d < k →
    antiquaryref02_Join.l0 k b n (r.toNat : Int) i = some ((Xn d r ^^^ BitVec.ofInt 40 b).toNat : Int) := by
  induction d with
  | zero =>
    intro k r i hi hd hk
    obtain ⟨k, rfl⟩ : ∃ m, k = m + 1 := ⟨k - 1, by omega⟩
    simp only [antiquaryref02_Join.l0]
    rw [if_neg (by unfold wrap64; omega), low40, xor_regs]
    rfl
  | succ d ih =>
    intro k r i hi hd hk
    obtain ⟨k, rfl⟩ : ∃ m, k = m + 1 := ⟨k - 1, by omega⟩
    simp only [antiquaryref02_Join.l0]
    rw [if_pos (by unfold wrap64; omega), step_f]
    simp only [Option.bind_some]
    rw [show wrap64 (i + 1) = i + 1 from by unfold wrap64; omega, ih k _ (i + 1) (by omega) (by omega) (by omega)]
    rw [show CrcMath.step r false = X r from by rw [step_eq]; simp, Xn_X]
    rfl
theorem HashJoinMatchesSpec : antiquarylaw02_HashJoinMatchesSpec.Pure := by
  intro a b n wa wb wn
  refine ⟨2500, ?_⟩
  have hn2 : n ≤ 9223372036854775807 := by
    have := wn
    simp [Lit.wf, IntKind.min, IntKind.max, IntKind.signed, IntKind.bits] at this
    omega
  unfold antiquarylaw02_HashJoinMatchesSpec.f antiquarylaw02_sanity.f
  simp only [Option.bind_some]
  by_cases h : n > 300
  · rw [if_pos h]
  · rw [if_neg h, if_pos trivial]
    unfold hash_Join.f antiquaryref02_Join.f
    rw [if_pos (by omega)]
    simp only [Option.bind_some]
    by_cases h0 : n < 0
    · rw [if_pos h0]
      simp only [Option.bind_some]
      unfold joinV
      rw [if_pos h0]
      rfl
    · rw [if_neg h0, low40, join_l0 b n (by omega) (by omega) (8 * n.toNat) 2500 _ 0 (by omega) (by omega) (by omega)]
      simp only [Option.bind_some]
      unfold joinV
      rw [if_neg h0]
      simp
end Go.Proofs.YtkkmkfkgmioblaaDoor.Pure
