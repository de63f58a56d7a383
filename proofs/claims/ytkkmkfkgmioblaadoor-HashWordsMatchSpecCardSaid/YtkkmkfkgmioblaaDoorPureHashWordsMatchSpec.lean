/- Plain law: Words is the check of the bytes of the words' lowest 40 bits. -/
import Derived.Test.YtkkmkfkgmioblaaDoorP2
import Derived.Test.YtkkmkfkgmioblaaDoorPureCommon
set_option linter.unusedVariables false
set_option linter.unusedSimpArgs false
namespace Go.Proofs.YtkkmkfkgmioblaaDoor.Pure
open Go Go.RowKit Go.Lx CrcMath Go.Proofs.YtkkmkfkgmioblaaDoor Go.Proofs.YtkkmkfkgmioblaaDoor.P Go.Proofs.YtkkmkfkgmioblaaDoor.Ext Go.Proofs.YtkkmkfkgmioblaaDoorW.PrintWords Go.Proofs.YtkkmkfkgmioblaaDoorW.PrintLast

theorem rd_at' (a : List Int) (i : Nat) (h : i < a.length) : rd a (i : Int) = a[i] := by
  unfold rd; rw [Int.toNat_natCast, List.getD_eq_getElem?_getD, List.getElem?_eq_getElem h]; rfl
/-- five bytes of a word -/
def fiveI (n : Int) : List Int := [n / 4294967296 % 256, n / 16777216 % 256, n / 65536 % 256, n / 256 % 256, n % 256]
theorem five_round (k : Nat) (n : Int) (acc : List Int) (i s : Int) (h5 : i < 5) (hs : wrap64 (32 - wrap64 (8 * i)) = s) (h0 : 0 ≤ s) (hl : acc.length < 1000) (hi : 0 ≤ i) :
    antiquaryref02_Five.l0 (k + 1) n acc i = antiquaryref02_Five.l0 k n (acc ++ [shr .i64 n s % 256]) (i + 1) := by
  simp only [antiquaryref02_Five.l0]
  rw [hs, if_pos h5, if_pos h0, if_pos (by omega), show wrap64 (i + 1) = i + 1 from by unfold wrap64; omega]
theorem five_f (k : Nat) (hk : 6 ≤ k) (n : Int) : antiquaryref02_Five.f k n = some (fiveI n) := by
  obtain ⟨k, rfl⟩ : ∃ m, k = m + 1 + 1 + 1 + 1 + 1 + 1 := ⟨k - 6, by omega⟩
  unfold antiquaryref02_Five.f
  rw [five_round _ n [] 0 32 (by decide) (by unfold wrap64; omega) (by decide) (by simp) (by decide), five_round _ n _ _ 24 (by decide) (by unfold wrap64; omega) (by decide) (by simp) (by decide), five_round _ n _ _ 16 (by decide) (by unfold wrap64; omega) (by decide) (by simp) (by decide),
    five_round _ n _ _ 8 (by decide) (by unfold wrap64; omega) (by decide) (by simp) (by decide), five_round _ n _ _ 0 (by decide) (by unfold wrap64; omega) (by decide) (by simp) (by decide)]
  simp only [antiquaryref02_Five.l0]
  rw [if_neg (by decide)]
  simp [fiveI, shr, IntKind.bits]
theorem bytes_l0 (l : List Int) (hl : l.length ≤ 1000) (d : Nat) : ∀ (k : Nat) (acc : List Int) (i : Nat), acc.length = 5 * i → i ≤ l.length → l.length - i = d → d + 6 < k →
    antiquaryref02_Bytes.l0 k l acc (i : Int) = some (acc ++ (l.drop i).flatMap fiveI) := by
  induction d with
  | zero =>
    intro k acc i hac hi hd hk
    obtain ⟨k, rfl⟩ : ∃ m, k = m + 1 := ⟨k - 1, by omega⟩
    simp only [antiquaryref02_Bytes.l0]
    rw [if_neg (by omega), List.drop_of_length_le (by omega)]
    simp
  | succ d ih =>
    intro k acc i hac hi hd hk
    obtain ⟨k, rfl⟩ : ∃ m, k = m + 1 := ⟨k - 1, by omega⟩
    have hlt : i < l.length := by omega
    simp only [antiquaryref02_Bytes.l0]
    rw [if_pos (by omega), if_pos (by omega), five_f k (by omega)]
    simp only [Option.bind_some]
    have h5 : (fiveI (rd l (i : Int))).length = 5 := rfl
    rw [if_pos (by rw [h5]; omega), show wrap64 ((i : Int) + 1) = ((i + 1 : Nat) : Int) from by unfold wrap64; omega, ih k _ (i + 1) (by rw [List.length_append, h5]; omega) (by omega) (by omega) (by omega), rd_at' l i hlt, List.drop_eq_getElem_cons hlt, List.flatMap_cons, List.append_assoc]
theorem bytes_f (l : List Int) (hl : l.length ≤ 1000) (k : Nat) (hk : 1100 ≤ k) : antiquaryref02_Bytes.f k l = some (l.flatMap fiveI) := by
  unfold antiquaryref02_Bytes.f
  have := bytes_l0 l hl l.length k [] 0 rfl (by omega) (by omega) (by omega)
  simpa using this
theorem isB_five (l : List Int) : isB (l.flatMap fiveI) = true := by
  rw [isB_iff]
  intro x hx
  obtain ⟨n, _, hn⟩ := List.mem_flatMap.1 hx
  simp only [fiveI, List.mem_cons, List.not_mem_nil, or_false] at hn
  rcases hn with rfl | rfl | rfl | rfl | rfl <;> omega
theorem addB_one (r : R) (c : UInt8) : addB r [c] = nib (nib r (BitVec.ofNat 4 (c.toNat / 16))) (BitVec.ofNat 4 c.toNat) := rfl
/-- two nibbles are one byte -/
theorem nibs (r : R) (x : Int) (y z : Int) (h1 : y = x / 16) (h2 : z = x) : nib (nib r (BitVec.ofInt 4 y)) (BitVec.ofInt 4 z) = addB r [UInt8.ofNat (x % 256).toNat] := by
  subst h1
  rw [h2]
  clear h2
  rw [addB_one]
  have e : (UInt8.ofNat (x % 256).toNat).toNat = (x % 256).toNat := by simp only [UInt8.toNat_ofNat']; omega
  rw [e]
  have e1 : BitVec.ofInt 4 (x / 16) = BitVec.ofNat 4 ((x % 256).toNat / 16) := by
    apply BitVec.eq_of_toNat_eq
    rw [BitVec.toNat_ofInt, BitVec.toNat_ofNat]
    omega
  have e2 : BitVec.ofInt 4 x = BitVec.ofNat 4 (x % 256).toNat := by
    apply BitVec.eq_of_toNat_eq
    rw [BitVec.toNat_ofInt, BitVec.toNat_ofNat]
    omega
  rw [e1, e2]
theorem wordT_two (r : R) (x : Int) (q : Nat) (y : Int) (hy : x / 2 ^ (4 * q) = y) (h : x / 2 ^ (4 * (q + 1)) = y / 16) : wordT r x (q + 2) = wordT (addB r [UInt8.ofNat (y % 256).toNat]) x q := by
  show wordT (nib (nib r (BitVec.ofInt 4 (x / 2 ^ (4 * (q + 1))))) (BitVec.ofInt 4 (x / 2 ^ (4 * q)))) x q = _
  rw [nibs r y _ _ h hy]
theorem wordT_five (r : R) (x : Int) : wordT r x 10 = addB r (toB (fiveI x)) := by
  have p9 : (2 : Int) ^ (4 * 9) = 68719476736 := by decide
  have p8 : (2 : Int) ^ (4 * 8) = 4294967296 := by decide
  have p7 : (2 : Int) ^ (4 * 7) = 268435456 := by decide
  have p6 : (2 : Int) ^ (4 * 6) = 16777216 := by decide
  have p5 : (2 : Int) ^ (4 * 5) = 1048576 := by decide
  have p4 : (2 : Int) ^ (4 * 4) = 65536 := by decide
  have p3 : (2 : Int) ^ (4 * 3) = 4096 := by decide
  have p2 : (2 : Int) ^ (4 * 2) = 256 := by decide
  have p1 : (2 : Int) ^ (4 * 1) = 16 := by decide
  have p0 : (2 : Int) ^ (4 * 0) = 1 := by decide
  rw [wordT_two r x 8 (x / 4294967296) (by rw [p8]) (by rw [p9]; omega), wordT_two _ x 6 (x / 16777216) (by rw [p6]) (by rw [p7]; omega), wordT_two _ x 4 (x / 65536) (by rw [p4]) (by rw [p5]; omega), wordT_two _ x 2 (x / 256) (by rw [p2]) (by rw [p3]; omega), wordT_two _ x 0 x (by rw [p0]; omega) (by rw [p1])]
  have e : toB (fiveI x) = [UInt8.ofNat (x / 4294967296 % 256).toNat] ++ [UInt8.ofNat (x / 16777216 % 256).toNat] ++ [UInt8.ofNat (x / 65536 % 256).toNat] ++ [UInt8.ofNat (x / 256 % 256).toNat] ++ [UInt8.ofNat (x % 256).toNat] := rfl
  rw [e, addB_append, addB_append, addB_append, addB_append]
  rfl
theorem wordsB_bytes (l : List Int) : ∀ (r : R), wordsB r l = addB r (toB (l.flatMap fiveI)) := by
  induction l with
  | nil => intro r; rfl
  | cons x l ih =>
    intro r
    show wordsB (wordT r x 10) l = _
    rw [ih, wordT_five, List.flatMap_cons, toB_append, addB_append]
/-- the lowest 40 bits -/
def lowI (x : Int) : Int := Go.bits .and .i64 x 1099511627775
theorem five_low (x : Int) : fiveI (lowI x) = fiveI x := by
  unfold lowI
  rw [and_i64, BitVec.toNat_ofInt]
  have e : (((x % ((2 ^ 40 : Nat) : Int)).toNat : Nat) : Int) = x % 1099511627776 := by omega
  rw [e]
  unfold fiveI
  rw [show x % 1099511627776 / 4294967296 % 256 = x / 4294967296 % 256 from by omega, show x % 1099511627776 / 16777216 % 256 = x / 16777216 % 256 from by omega, show x % 1099511627776 / 65536 % 256 = x / 65536 % 256 from by omega, show x % 1099511627776 / 256 % 256 = x / 256 % 256 from by omega, show x % 1099511627776 % 256 = x % 256 from by omega]
theorem flat_low (l : List Int) : (l.map lowI).flatMap fiveI = l.flatMap fiveI := by
  induction l with
  | nil => rfl
  | cons x l ih => rw [List.map_cons, List.flatMap_cons, List.flatMap_cons, ih, five_low]
theorem words_f (l : List Int) : hash_Words.f l = some ((crcB (toB (l.flatMap fiveI))).toNat : Int) := by
  unfold hash_Words.f crcB
  rw [wordsB_bytes]
theorem ref_words_f (l : List Int) (hl : l.length ≤ 1000) (k : Nat) (hk : 1100 ≤ k) : antiquaryref02_Words.f k l = some ((crcB (toB (l.flatMap fiveI))).toNat : Int) := by
  unfold antiquaryref02_Words.f
  rw [bytes_f l hl k hk]
  simp only [Option.bind_some]
  unfold antiquaryref02_Crc40.f
  rw [if_pos (isB_five l)]
  simp only [Option.bind_some]
  unfold crcB
  rw [addB_runB]
theorem words_l0 (l : List Int) (hl : l.length ≤ 80) (d : Nat) : ∀ (k : Nat) (i : Nat), i ≤ l.length → l.length - i = d → d + 1100 < k →
    antiquarylaw02_HashWordsMatchSpec.l0 k l true ((l.take i).map lowI) (i : Int) = some true := by
  induction d with
  | zero =>
    intro k i hi hd hk
    obtain ⟨k, rfl⟩ : ∃ m, k = m + 1 := ⟨k - 1, by omega⟩
    simp only [antiquarylaw02_HashWordsMatchSpec.l0]
    rw [if_neg (by omega), words_f, List.take_of_length_le (by omega)]
    simp only [Option.bind_some, if_true]
    rw [ref_words_f l (by omega) k (by omega)]
    simp only [Option.bind_some, if_true]
    rw [words_f, flat_low]
    simp only [Option.bind_some, if_true]
    rw [bytes_f l (by omega) k (by omega)]
    simp only [Option.bind_some]
    rw [crc_f (isB_five l)]
    simp
  | succ d ih =>
    intro k i hi hd hk
    obtain ⟨k, rfl⟩ : ∃ m, k = m + 1 := ⟨k - 1, by omega⟩
    have hlt : i < l.length := by omega
    simp only [antiquarylaw02_HashWordsMatchSpec.l0]
    have := ih k (i + 1) (by omega) (by omega) (by omega)
    rw [List.take_succ_eq_append_getElem hlt, List.map_append] at this
    rw [if_pos (by omega), if_pos (by omega), if_pos (by simp; omega), show wrap64 ((i : Int) + 1) = ((i + 1 : Nat) : Int) from by unfold wrap64; omega, rd_at' l i hlt]
    exact this
theorem HashWordsMatchSpec : antiquarylaw02_HashWordsMatchSpec.Pure := by
  intro l _ _ wl
  refine ⟨2000, ?_⟩
  unfold antiquarylaw02_HashWordsMatchSpec.f antiquarylaw02_sanity.f
  simp only [Option.bind_some]
  by_cases h0 : (l.length : Int) > 80
  · rw [if_pos h0]
  · rw [if_neg h0]
    have := words_l0 l (by omega) l.length 2000 0 (by omega) (by omega) (by omega)
    simpa using this
end Go.Proofs.YtkkmkfkgmioblaaDoor.Pure
