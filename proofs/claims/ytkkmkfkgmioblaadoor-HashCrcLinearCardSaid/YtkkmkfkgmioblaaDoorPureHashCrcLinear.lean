/- Plain law: the check of an exclusive or of three messages of one length is the exclusive or of their checks. -/
import Derived.Test.YtkkmkfkgmioblaaDoorP4
import Derived.Test.YtkkmkfkgmioblaaDoorPureCommon
set_option linter.unusedVariables false
set_option linter.unusedSimpArgs false
namespace Go.Proofs.YtkkmkfkgmioblaaDoor.Pure
open Go Go.RowKit Go.Lx CrcMath Go.Proofs.YtkkmkfkgmioblaaDoor Go.Proofs.YtkkmkfkgmioblaaDoor.P Go.Proofs.YtkkmkfkgmioblaaDoor.Ext Go.Proofs.YtkkmkfkgmioblaaDoorW.PrintWords Go.Proofs.YtkkmkfkgmioblaaDoorW.PrintLast

/-- what Xor returns -/
def xorZ : List Int → List Int → List Int
  | [], _ => []
  | x :: a, [] => x :: xorZ a []
  | x :: a, y :: b => Go.bits .xor .u8 x y :: xorZ a b
theorem xorZ_len : ∀ (a b : List Int), (xorZ a b).length = a.length
  | [], _ => rfl
  | x :: a, [] => by simp [xorZ, xorZ_len a []]
  | x :: a, y :: b => by simp [xorZ, xorZ_len a b]
theorem rd_at (a : List Int) (i : Nat) (h : i < a.length) : rd a (i : Int) = a[i] := by
  unfold rd; rw [Int.toNat_natCast, List.getD_eq_getElem?_getD, List.getElem?_eq_getElem h]; rfl
theorem xor_l0 (a b : List Int) (ha : a.length ≤ 1000) (d : Nat) : ∀ (k : Nat) (acc : List Int) (i : Nat), acc.length = i → i ≤ a.length → a.length - i = d → d < k →
    antiquaryref02_Xor.l0 k a b acc (i : Int) = some (acc ++ xorZ (a.drop i) (b.drop i)) := by
  induction d with
  | zero =>
    intro k acc i hac hi hd hk
    obtain ⟨k, rfl⟩ : ∃ m, k = m + 1 := ⟨k - 1, by omega⟩
    simp only [antiquaryref02_Xor.l0]
    rw [if_neg (by omega), List.drop_of_length_le (by omega)]
    simp [xorZ]
  | succ d ih =>
    intro k acc i hac hi hd hk
    obtain ⟨k, rfl⟩ : ∃ m, k = m + 1 := ⟨k - 1, by omega⟩
    have hlt : i < a.length := by omega
    simp only [antiquaryref02_Xor.l0]
    rw [if_pos (by omega), if_pos (by omega), show wrap64 ((i : Int) + 1) = ((i + 1 : Nat) : Int) from by unfold wrap64; omega, List.drop_eq_getElem_cons hlt, rd_at a i hlt]
    by_cases hb : i < b.length
    · rw [if_pos (by omega), if_pos (by omega), rd_at b i hb, List.drop_eq_getElem_cons hb, ih k _ (i + 1) (by simp; omega) (by omega) (by omega) (by omega)]
      simp [xorZ]
    · rw [if_neg (by omega), if_pos (by omega), ih k _ (i + 1) (by simp; omega) (by omega) (by omega) (by omega), List.drop_of_length_le (show b.length ≤ i by omega), List.drop_of_length_le (show b.length ≤ i + 1 by omega)]
      simp [xorZ]
theorem xor_f (a b : List Int) (ha : a.length ≤ 1000) (k : Nat) (hk : 1000 < k) : antiquaryref02_Xor.f k a b = some (xorZ a b) := by
  unfold antiquaryref02_Xor.f
  have := xor_l0 a b ha a.length k [] 0 rfl (by omega) (by omega) (by omega)
  simpa using this

theorem xor_byte (x y : Int) (hx : 0 ≤ x ∧ x < 256) (hy : 0 ≤ y ∧ y < 256) : Go.bits .xor .u8 x y = ((x.toNat ^^^ y.toNat : Nat) : Int) ∧ x.toNat ^^^ y.toNat < 256 := by
  refine ⟨?_, Nat.xor_lt_two_pow (n := 8) (by omega) (by omega)⟩
  have := u8_xor_nat x.toNat y.toNat (by omega) (by omega)
  rw [show ((x.toNat : Nat) : Int) = x from by omega, show ((y.toNat : Nat) : Int) = y from by omega] at this
  exact this
theorem isB_cons {x : Int} {l : List Int} : isB (x :: l) = true ↔ (0 ≤ x ∧ x < 256) ∧ isB l = true := by
  rw [isB_iff, isB_iff]; simp
theorem xorZ_isB : ∀ (a b : List Int), isB a = true → isB b = true → isB (xorZ a b) = true
  | [], _, _, _ => rfl
  | x :: a, [], ha, hb => by
    rw [isB_cons] at ha
    show isB (x :: xorZ a []) = true
    exact isB_cons.2 ⟨ha.1, xorZ_isB a [] ha.2 hb⟩
  | x :: a, y :: b, ha, hb => by
    rw [isB_cons] at ha hb
    obtain ⟨h1, h2⟩ := xor_byte x y ha.1 hb.1
    show isB (Go.bits .xor .u8 x y :: xorZ a b) = true
    exact isB_cons.2 ⟨by rw [h1]; omega, xorZ_isB a b ha.2 hb.2⟩
theorem bitsB_xor (x y : Nat) (h : x ^^^ y < 256) (hx : x < 256) (hy : y < 256) : bitsB (UInt8.ofNat (x ^^^ y)) 8 = xorBits (bitsB (UInt8.ofNat x) 8) (bitsB (UInt8.ofNat y) 8) := by
  have e : ∀ z, z < 256 → (UInt8.ofNat z).toNat = z := fun z hz => by simp only [UInt8.toNat_ofNat']; omega
  unfold bitsB
  rw [e _ h, e _ hx, e _ hy]
  simp only [Nat.testBit_xor]
  rfl
theorem xorBits_append (a b c d : List Bool) (h : a.length = b.length) : xorBits (a ++ c) (b ++ d) = xorBits a b ++ xorBits c d := by
  unfold xorBits; exact List.zipWith_append h
theorem xorZ_bits : ∀ (a b : List Int), isB a = true → isB b = true → a.length = b.length → bitsOf (toB (xorZ a b)) = xorBits (bitsOf (toB a)) (bitsOf (toB b))
  | [], [], _, _, _ => rfl
  | [], _ :: _, _, _, h => by simp at h
  | _ :: _, [], _, _, h => by simp at h
  | x :: a, y :: b, ha, hb, h => by
    rw [isB_cons] at ha hb
    have ih := xorZ_bits a b ha.2 hb.2 (by simpa using h)
    obtain ⟨h1, h2⟩ := xor_byte x y ha.1 hb.1
    show bitsB (UInt8.ofNat (Go.bits .xor .u8 x y).toNat) 8 ++ bitsOf (toB (xorZ a b)) = xorBits (bitsB (UInt8.ofNat x.toNat) 8 ++ bitsOf (toB a)) (bitsB (UInt8.ofNat y.toNat) 8 ++ bitsOf (toB b))
    rw [ih, h1, Int.toNat_natCast, bitsB_xor _ _ h2 (by omega) (by omega), xorBits_append _ _ _ _ (by simp [bitsB])]
theorem run_ones (l : List UInt8) : CrcMath.run (BitVec.allOnes 40) (bitsOf l) = Xn (8 * l.length) (BitVec.allOnes 40) ^^^ CrcMath.run 0#40 (bitsOf l) := by
  rw [run_split, bitsOf_len]
theorem crc_three (a y z : List Int) (ha : isB a = true) (hy : isB y = true) (hz : isB z = true) (h1 : y.length = a.length) (h2 : z.length = a.length) :
    crcB (toB (xorZ (xorZ a y) z)) = crcB (toB a) ^^^ crcB (toB y) ^^^ crcB (toB z) := by
  have hay := xorZ_isB a y ha hy
  have L : ∀ u v : List Int, u.length = v.length → (bitsOf (toB u)).length = (bitsOf (toB v)).length := fun u v h => by rw [bitsOf_len, bitsOf_len, toB_length, toB_length, h]
  have s1 : CrcMath.run (BitVec.allOnes 40) (bitsOf (toB (xorZ (xorZ a y) z))) = CrcMath.run (BitVec.allOnes 40) (bitsOf (toB a)) ^^^ CrcMath.run 0#40 (bitsOf (toB y)) ^^^ CrcMath.run 0#40 (bitsOf (toB z)) := by
    rw [xorZ_bits _ _ hay hz (by rw [xorZ_len, h2])]
    have := run_xor (bitsOf (toB (xorZ a y))) (bitsOf (toB z)) (L _ _ (by rw [xorZ_len, h2])) (BitVec.allOnes 40) 0#40
    rw [BitVec.xor_zero] at this
    rw [this, xorZ_bits _ _ ha hy (by rw [h1])]
    have := run_xor (bitsOf (toB a)) (bitsOf (toB y)) (L _ _ (by rw [h1])) (BitVec.allOnes 40) 0#40
    rw [BitVec.xor_zero] at this
    rw [this]
  rw [crcB_bits, crcB_bits, crcB_bits, crcB_bits, s1, run_ones (toB y), run_ones (toB z), toB_length, toB_length, h1, h2]
  generalize Xn (8 * a.length) (BitVec.allOnes 40) = W
  generalize CrcMath.run (BitVec.allOnes 40) (bitsOf (toB a)) = A
  generalize CrcMath.run 0#40 (bitsOf (toB y)) = B
  generalize CrcMath.run 0#40 (bitsOf (toB z)) = C
  generalize BitVec.allOnes 40 = D
  rw [show A ^^^ D ^^^ (W ^^^ B ^^^ D) ^^^ (W ^^^ C ^^^ D) = A ^^^ B ^^^ C ^^^ D ^^^ (W ^^^ W) ^^^ (D ^^^ D) from by ac_rfl, BitVec.xor_self, BitVec.xor_self, BitVec.xor_zero, BitVec.xor_zero]
theorem isB_zeros (n : Nat) : isB (List.replicate n 0) = true := by
  rw [isB_iff]; intro x hx; rw [List.eq_of_mem_replicate hx]; decide
theorem HashCrcLinear : antiquarylaw02_HashCrcLinear.Pure := by
  intro a b c _ _ wa _ _ wb _ _ wc
  refine ⟨2000, ?_⟩
  have ha := isB_wf wa
  have hb := isB_wf wb
  have hc := isB_wf wc
  unfold antiquarylaw02_HashCrcLinear.f antiquarylaw02_sanity.f
  simp only [Option.bind_some]
  by_cases h0 : (a.length : Int) > 400
  · rw [if_pos h0]
  · have hl : a.length ≤ 400 := by omega
    rw [if_neg h0, if_pos (by omega), if_pos (by omega), Int.toNat_natCast]
    have hz := isB_zeros a.length
    generalize hZ : List.replicate a.length (0 : Int) = Z at *
    have hZl : Z.length = a.length := by rw [← hZ]; simp
    rw [xor_f Z b (by omega) 2000 (by omega)]
    simp only [Option.bind_some]
    have hy := xorZ_isB Z b hz hb
    have hyl : (xorZ Z b).length = a.length := by rw [xorZ_len, hZl]
    have hv := xorZ_isB Z c hz hc
    have hvl : (xorZ Z c).length = a.length := by rw [xorZ_len, hZl]
    rw [xor_f Z c (by omega) 2000 (by omega)]
    simp only [Option.bind_some]
    rw [xor_f a _ (by omega) 2000 (by omega)]
    simp only [Option.bind_some]
    rw [xor_f _ _ (by rw [xorZ_len]; omega) 2000 (by omega)]
    simp only [Option.bind_some, if_true]
    rw [crc_f (xorZ_isB _ _ (xorZ_isB _ _ ha hy) hv), crc_f ha, crc_f hy, crc_f hv]
    simp only [Option.bind_some]
    rw [xor_i64, xor_i64, crc_three a _ _ ha hy hv hyl hvl]
    simp
end Go.Proofs.YtkkmkfkgmioblaaDoor.Pure
