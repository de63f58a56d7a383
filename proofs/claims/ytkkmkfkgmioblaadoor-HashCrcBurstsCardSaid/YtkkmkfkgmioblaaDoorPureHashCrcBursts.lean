/- Plain law: a burst of at most 40 bits changes the check. -/
import Derived.Test.YtkkmkfkgmioblaaDoorP5
import Derived.Test.YtkkmkfkgmioblaaDoorPureCommon
set_option linter.unusedVariables false
set_option linter.unusedSimpArgs false
namespace Go.Proofs.YtkkmkfkgmioblaaDoor.Pure
open Go Go.RowKit Go.Lx CrcMath Go.Proofs.YtkkmkfkgmioblaaDoor Go.Proofs.YtkkmkfkgmioblaaDoor.P Go.Proofs.YtkkmkfkgmioblaaDoor.Ext Go.Proofs.YtkkmkfkgmioblaaDoorW.PrintWords Go.Proofs.YtkkmkfkgmioblaaDoorW.PrintLast

/-- bit i of bytes, the first byte's highest bit first -/
def bitAt (l : List UInt8) (i : Nat) : Bool := (l.getD (i / 8) 0).toNat.testBit (7 - i % 8)
theorem bitAt_zero (c : UInt8) (l : List UInt8) (i : Nat) (h : i < 8) : bitAt (c :: l) i = c.toNat.testBit (7 - i) := by
  unfold bitAt; rw [show i / 8 = 0 from by omega, show i % 8 = i from by omega]; rfl
theorem bitAt_succ (c : UInt8) (l : List UInt8) (i : Nat) : bitAt (c :: l) (8 + i) = bitAt l i := by
  unfold bitAt; rw [show (8 + i) / 8 = i / 8 + 1 from by omega, show (8 + i) % 8 = i % 8 from by omega]; rfl
theorem bits_fun (l : List UInt8) : bitsOf l = (List.range (8 * l.length)).map (bitAt l) := by
  induction l with
  | nil => rfl
  | cons c l ih =>
    have e : bitsOf (c :: l) = bitsB c 8 ++ bitsOf l := rfl
    rw [e, ih, List.length_cons, show 8 * (l.length + 1) = 8 + 8 * l.length from by omega, List.range_add, List.map_append, List.map_map]
    have h1 : bitsB c 8 = (List.range 8).map (bitAt (c :: l)) := by
      unfold bitsB
      apply List.map_congr_left
      intro i hi
      exact (bitAt_zero c l i (by simpa using hi)).symm
    rw [h1]
    refine congrArg _ ?_
    apply List.map_congr_left
    intro i _
    exact (bitAt_succ c l i).symm
/-- the mask of a burst -/
def maskF (F q : Nat) (P : Nat → Bool) (i : Nat) : Bool := decide (F ≤ i ∧ i < F + q) && P (i - F)
theorem mask_list (F q r : Nat) (P : Nat → Bool) : (List.range (F + q + r)).map (maskF F q P) = List.replicate F false ++ (List.range q).map P ++ List.replicate r false := by
  rw [List.range_add, List.map_append, List.range_add, List.map_append, List.map_map, List.map_map]
  congr 1
  · congr 1
    · apply List.ext_getElem
      · simp
      · intro i h1 h2
        simp only [List.length_map, List.length_range] at h1
        simp [maskF]; omega
    · apply List.map_congr_left
      intro i hi
      have hi' : i < q := by simpa using hi
      simp [maskF, hi']
  · apply List.ext_getElem
    · simp
    · intro i h1 h2
      simp only [List.length_map, List.length_range] at h1
      simp [maskF]; omega
theorem anyP (q : Nat) (P : Nat → Bool) (h : ∀ x ∈ (List.range q).map P, x = false) : ((List.range q).any P) = false := by
  rw [List.any_eq_false]
  intro j hj
  have := h (P j) (List.mem_map.2 ⟨j, hj, rfl⟩)
  simp [this]
theorem burst_end (b o : List UInt8) (F q r : Nat) (P : Nat → Bool) (hlen : o.length = b.length) (hn : 8 * b.length = F + q + r) (hq : q ≤ 40)
    (hbit : ∀ i, i < 8 * b.length → bitAt o i = (bitAt b i ^^ maskF F q P i)) : ((crcB b == crcB o) == !((List.range q).any P)) = true := by
  have hM : bitsOf o = xorBits (bitsOf b) ((List.range (8 * b.length)).map (maskF F q P)) := by
    rw [bits_fun, bits_fun, hlen]
    unfold xorBits
    rw [List.zipWith_map, List.zipWith_self]
    apply List.map_congr_left
    intro i hi
    exact hbit i (by simpa using hi)
  have hrun : CrcMath.run (BitVec.allOnes 40) (bitsOf o) = CrcMath.run (BitVec.allOnes 40) (bitsOf b) ^^^ CrcMath.run 0#40 ((List.range (8 * b.length)).map (maskF F q P)) := by
    rw [hM]
    have := run_xor (bitsOf b) ((List.range (8 * b.length)).map (maskF F q P)) (by rw [bitsOf_len]; simp) (BitVec.allOnes 40) 0#40
    rw [BitVec.xor_zero] at this
    exact this
  rw [crcB_bits, crcB_bits, hrun, hn, mask_list]
  generalize CrcMath.run (BitVec.allOnes 40) (bitsOf b) = A
  by_cases h : CrcMath.run 0#40 (List.replicate F false ++ (List.range q).map P ++ List.replicate r false) = 0#40
  · have h2 := run_burst F ((List.range q).map P) r (by simpa using hq) h
    rw [h, anyP q P h2]
    simp
  · have hany : (List.range q).any P = true := by
      cases hc : (List.range q).any P with
      | true => rfl
      | false =>
        exfalso; apply h
        have e : (List.range q).map P = List.replicate q false := by
          apply List.ext_getElem
          · simp
          · intro i h1 h2
            have := List.any_eq_false.1 hc i (by simpa using h1)
            simpa using this
        rw [e, List.replicate_append_replicate, List.replicate_append_replicate, run_zeros, Xn_zero]
    rw [hany]
    have hne : ((A ^^^ BitVec.allOnes 40) == (A ^^^ CrcMath.run 0#40 (List.replicate F false ++ (List.range q).map P ++ List.replicate r false) ^^^ BitVec.allOnes 40)) = false := by
      rw [beq_eq_false_iff_ne]
      intro he
      apply h
      generalize CrcMath.run 0#40 (List.replicate F false ++ (List.range q).map P ++ List.replicate r false) = Z at he
      have h3 := congrArg (fun t => A ^^^ BitVec.allOnes 40 ^^^ t) he
      simp only [BitVec.xor_self] at h3
      rw [show A ^^^ BitVec.allOnes 40 ^^^ (A ^^^ Z ^^^ BitVec.allOnes 40) = (A ^^^ A) ^^^ (BitVec.allOnes 40 ^^^ BitVec.allOnes 40) ^^^ Z from by ac_rfl, BitVec.xor_self, BitVec.xor_self, BitVec.zero_xor, BitVec.zero_xor] at h3
      exact h3.symm
    rw [hne]; rfl
theorem xor_pow (x m k : Nat) : (x ^^^ 2 ^ m).testBit k = (x.testBit k ^^ decide (m = k)) := by
  rw [Nat.testBit_xor, Nat.testBit_two_pow]
theorem rd_nat (a : List Int) (i : Nat) (h : i < a.length) : rd a (i : Int) = a[i] := by
  unfold rd; rw [Int.toNat_natCast, List.getD_eq_getElem?_getD, List.getElem?_eq_getElem h]; rfl
/-- one bit turned -/
theorem flip_bit (o : List Int) (n : Nat) (ho : isB o = true) (hn : n < 8 * o.length) :
    isB (o.set (n / 8) (Go.bits .xor .u8 (rd o ((n / 8 : Nat) : Int)) (2 ^ (7 - n % 8) : Nat))) = true ∧
    ∀ i, i < 8 * o.length → bitAt (toB (o.set (n / 8) (Go.bits .xor .u8 (rd o ((n / 8 : Nat) : Int)) (2 ^ (7 - n % 8) : Nat)))) i = (bitAt (toB o) i ^^ decide (i = n)) := by
  have hj : n / 8 < o.length := by omega
  rw [rd_nat o _ hj]
  have hx := (isB_iff o).1 ho _ (List.getElem_mem hj)
  have hp : 2 ^ (7 - n % 8) < 256 := Nat.lt_of_le_of_lt (Nat.pow_le_pow_right (by decide) (show 7 - n % 8 ≤ 7 by omega)) (by decide)
  have hv := u8_xor_nat (o[n / 8]).toNat (2 ^ (7 - n % 8)) (by omega) hp
  rw [show (((o[n / 8]).toNat : Nat) : Int) = o[n / 8] from by omega] at hv
  have hlt : (o[n / 8]).toNat ^^^ 2 ^ (7 - n % 8) < 256 := Nat.xor_lt_two_pow (n := 8) (by omega) hp
  rw [hv]
  generalize hV : (o[n / 8]).toNat ^^^ 2 ^ (7 - n % 8) = V at *
  refine ⟨?_, fun i hi => ?_⟩
  · rw [isB_iff] at *
    intro x hx
    rcases List.mem_or_eq_of_mem_set hx with h | h
    · exact ho x h
    · rw [h]; omega
  · unfold bitAt
    have e : ∀ l : List Int, ∀ j, j < l.length → (toB l).getD j 0 = UInt8.ofNat (l.getD j 0).toNat := fun l j hjl => by
      unfold toB
      rw [List.getD_eq_getElem?_getD, List.getD_eq_getElem?_getD, List.getElem?_map, List.getElem?_eq_getElem hjl]; rfl
    rw [e _ _ (by rw [List.length_set]; omega), e _ _ (by omega)]
    by_cases hc : i / 8 = n / 8
    · rw [hc, List.getD_eq_getElem?_getD, List.getElem?_set_self hj, List.getD_eq_getElem?_getD, List.getElem?_eq_getElem hj]
      simp only [Option.getD_some, Int.toNat_natCast]
      have e1 : (UInt8.ofNat V).toNat = V := by simp only [UInt8.toNat_ofNat']; omega
      have e2 : (UInt8.ofNat (o[n / 8]).toNat).toNat = (o[n / 8]).toNat := by simp only [UInt8.toNat_ofNat']; omega
      rw [e1, e2, ← hV, xor_pow]
      congr 1
      by_cases h2 : i = n
      · subst h2; simp
      · have : i % 8 ≠ n % 8 := by omega
        simp only [h2, decide_false, decide_eq_false_iff_not]; omega
    · rw [List.getD_eq_getElem?_getD, List.getElem?_set_ne (fun h => hc h.symm), ← List.getD_eq_getElem?_getD]
      have h2 : i ≠ n := fun h => hc (by rw [h])
      simp [h2]
theorem shl_pow (m : Nat) (h : m ≤ 7) : shl .u8 1 (m : Int) = ((2 ^ m : Nat) : Int) := by
  have : ∀ i : Fin 8, shl .u8 1 (i.val : Int) = ((2 ^ i.val : Nat) : Int) := by decide
  exact this ⟨m, by omega⟩
theorem wrap_succ (q : Nat) (h : q ≤ 10000) : wrap64 ((q : Int) + 1) = ((q + 1 : Nat) : Int) := by unfold wrap64; omega
theorem tdiv8 (n : Nat) (h : n ≤ 10000) : wrap64 (Int.tdiv (n : Int) 8) = ((n / 8 : Nat) : Int) := by rw [Int.tdiv_eq_ediv_of_nonneg (by omega)]; unfold wrap64; omega
theorem tmod8 (n : Nat) (h : n ≤ 10000) : wrap64 (7 - Int.tmod (n : Int) 8) = ((7 - n % 8 : Nat) : Int) := by rw [Int.tmod_eq_emod_of_nonneg (by omega)]; unfold wrap64; omega
def bitP (a2 : Int) (j : Nat) : Bool := decide (Go.bits .and .u64 (shr .u64 a2 (j : Int)) 1 = 1)
theorem any_succ (q : Nat) (P : Nat → Bool) : (List.range (q + 1)).any P = ((List.range q).any P || P q) := by
  rw [List.range_succ, List.any_append]; simp
theorem mask_succ (F q : Nat) (P : Nat → Bool) (i : Nat) : maskF F (q + 1) P i = (maskF F q P i ^^ (decide (i = F + q) && P q)) := by
  unfold maskF
  by_cases h : i = F + q
  · subst h; simp
  · have e : decide (F ≤ i ∧ i < F + (q + 1)) = decide (F ≤ i ∧ i < F + q) := by
      apply decide_eq_decide.2; omega
    rw [e]; simp [h]
theorem burst_loop (b : List Int) (a2 : Int) (F : Nat) (hb : isB b = true) (hl : b.length ≤ 400) (d : Nat) : ∀ (k : Nat) (o : List Int) (q : Nat), 40 - q = d → q ≤ 40 → F + q ≤ 8 * b.length → 2 * d + 2 < k →
    isB o = true → o.length = b.length → (∀ i, i < 8 * b.length → bitAt (toB o) i = (bitAt (toB b) i ^^ maskF F q (bitP a2) i)) →
    antiquarylaw02_HashCrcBursts.l0 k b a2 true o (F : Int) ((List.range q).any (bitP a2)) (q : Int) = some true := by
  have fin : ∀ (k : Nat) (o : List Int) (q : Nat), q ≤ 40 → F + q ≤ 8 * b.length → isB o = true → o.length = b.length → (∀ i, i < 8 * b.length → bitAt (toB o) i = (bitAt (toB b) i ^^ maskF F q (bitP a2) i)) →
      antiquarylaw02_HashCrcBursts.j2 (k + 1) b a2 true o (F : Int) ((List.range q).any (bitP a2)) (q : Int) false = some true := by
    intro k o q hq hF ho hol hbit
    simp only [antiquarylaw02_HashCrcBursts.j2]
    rw [if_neg Bool.false_ne_true, if_pos trivial, crc_f hb, crc_f ho]
    simp only [Option.bind_some]
    have h := burst_end (toB b) (toB o) F q (8 * b.length - F - q) (bitP a2) (by rw [toB_length, toB_length, hol]) (by rw [toB_length]; omega) hq (by rw [toB_length]; exact hbit)
    have e : (((crcB (toB b)).toNat : Int) == ((crcB (toB o)).toNat : Int)) = (crcB (toB b) == crcB (toB o)) := by
      rw [Bool.eq_iff_iff]
      simp only [beq_iff_eq, Int.natCast_inj]
      exact ⟨fun h => BitVec.eq_of_toNat_eq h, fun h => by rw [h]⟩
    rw [e, h]
  induction d with
  | zero =>
    intro k o q hd hq hF hk ho hol hbit
    obtain ⟨k, rfl⟩ : ∃ m, k = m + 1 + 1 := ⟨k - 2, by omega⟩
    rw [show k + 1 + 1 = (k + 1) + 1 from rfl]
    simp only [antiquarylaw02_HashCrcBursts.l0]
    rw [if_neg (by omega)]
    exact fin k o q hq hF ho hol hbit
  | succ d ih =>
    intro k o q hd hq hF hk ho hol hbit
    obtain ⟨k, rfl⟩ : ∃ m, k = m + 1 + 1 := ⟨k - 2, by omega⟩
    simp only [antiquarylaw02_HashCrcBursts.l0]
    rw [if_pos (by omega)]
    have e1 : wrap64 ((F : Int) + (q : Int)) = ((F + q : Nat) : Int) := by unfold wrap64; omega
    have e2 : wrap64 (8 * (b.length : Int)) = ((8 * b.length : Nat) : Int) := by unfold wrap64; omega
    rw [e1, e2]
    by_cases hin : F + q < 8 * b.length
    · rw [decide_eq_true (by omega)]
      simp only [antiquarylaw02_HashCrcBursts.j2]
      rw [if_pos trivial, if_pos (by omega), e1]
      clear e1 e2
      have c1 : (0 : Int) ≤ (((F + q) / 8 : Nat) : Int) := by omega
      have c2 : (((F + q) / 8 : Nat) : Int) < (o.length : Int) := by omega
      have c3 : (0 : Int) ≤ ((7 - (F + q) % 8 : Nat) : Int) := by omega
      have c4 : F + q < 8 * o.length := by omega
      have c5 : 40 - (q + 1) = d := by omega
      have c6 : q + 1 ≤ 40 := by omega
      have c7 : F + (q + 1) ≤ 8 * b.length := by omega
      have c8 : 2 * d + 2 < k := by omega
      have c9 : F + q ≤ 10000 := by omega
      have c10 : 7 - (F + q) % 8 ≤ 7 := by omega
      have c11 : q ≤ 10000 := by omega
      have e5 := wrap_succ q c11
      have e3 := tdiv8 (F + q) c9
      have e4 := tmod8 (F + q) c9
      have e6 := shl_pow (7 - (F + q) % 8) c10
      rw [e3, e4, e5, e6]
      by_cases hp : Go.bits .and .u64 (shr .u64 a2 (q : Int)) 1 = 1
      · have hP : bitP a2 q = true := decide_eq_true hp
        rw [if_pos hp, if_pos c1, if_pos c2, if_pos c3, Int.toNat_natCast]
        obtain ⟨f1, f2⟩ := flip_bit o (F + q) ho c4
        have := ih k _ (q + 1) c5 c6 c7 c8 f1 (by rw [List.length_set, hol]) (fun i hi => by
          rw [f2 i (by rw [hol]; exact hi), hbit i hi, mask_succ, hP, Bool.and_true, Bool.xor_assoc])
        rw [any_succ, hP, Bool.or_true] at this
        exact this
      · have hP : bitP a2 q = false := decide_eq_false hp
        rw [if_neg hp]
        have := ih k o (q + 1) c5 c6 c7 c8 ho hol (fun i hi => by
          rw [hbit i hi, mask_succ, hP, Bool.and_false, Bool.xor_false])
        rw [any_succ, hP, Bool.or_false] at this
        exact this
    · rw [decide_eq_false (by omega)]
      exact fin k o q hq hF ho hol hbit
theorem HashCrcBursts : antiquarylaw02_HashCrcBursts.Pure := by
  intro b a1 a2 _ _ wb w1 w2
  refine ⟨200 + 1, ?_⟩
  have hb := isB_wf wb
  have h1 : 0 ≤ a1 ∧ a1 ≤ 65535 := by
    simp [Lit.wf, IntKind.min, IntKind.max, IntKind.signed, IntKind.bits] at w1
    omega
  unfold antiquarylaw02_HashCrcBursts.f antiquarylaw02_sanity.f
  simp only [Option.bind_some]
  have hyes : antiquarylaw02_HashCrcBursts.j0 (200 + 1) b a1 a2 true true = some true := by
    simp only [antiquarylaw02_HashCrcBursts.j0]
    rw [if_pos trivial]
  by_cases h0 : (b.length : Int) = 0
  · rw [if_pos h0]; exact hyes
  · rw [if_neg h0]
    by_cases h4 : (b.length : Int) > 400
    · rw [decide_eq_true h4]; exact hyes
    · rw [decide_eq_false h4]
      simp only [antiquarylaw02_HashCrcBursts.j0]
      have e2 : wrap64 (8 * (b.length : Int)) = ((8 * b.length : Nat) : Int) := by unfold wrap64; omega
      have e1 : wrap64 a1 = a1 := by unfold wrap64; omega
      rw [if_neg Bool.false_ne_true, e2, e1]
      simp only [Option.bind_some]
      have e3 : Int.tmod a1 ((8 * b.length : Nat) : Int) = ((a1.toNat % (8 * b.length) : Nat) : Int) := by
        rw [Int.tmod_eq_emod_of_nonneg h1.1, Int.natCast_emod, Int.toNat_of_nonneg h1.1]
      have hF : a1.toNat % (8 * b.length) < 8 * b.length := Nat.mod_lt _ (by omega)
      rw [if_pos (by simp; omega), if_neg (by omega), e3]
      generalize a1.toNat % (8 * b.length) = F at hF
      have := burst_loop b a2 F hb (by omega) 40 200 b 0 rfl (by omega) (by omega) (by omega) hb rfl (fun i hi => by
        have : maskF F 0 (bitP a2) i = false := by unfold maskF; simp; omega
        rw [this, Bool.xor_false])
      simpa using this
end Go.Proofs.YtkkmkfkgmioblaaDoor.Pure
