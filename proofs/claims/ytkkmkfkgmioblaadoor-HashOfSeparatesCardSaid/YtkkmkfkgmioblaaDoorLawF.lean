/- The law of the hash chapter over two inputs: the encoding of tags and parts loses nothing. -/
import Derived.Test.YtkkmkfkgmioblaaDoorLawE
set_option linter.unusedVariables false
set_option linter.unusedSimpArgs false
namespace Go.Proofs.YtkkmkfkgmioblaaDoor
open Go Go.RowKit Go.Lx CrcMath

theorem u8_ofNat_inj {a b : Nat} (ha : a < 256) (hb : b < 256) (h : UInt8.ofNat a = UInt8.ofNat b) : a = b := by
  have := congrArg UInt8.toNat h
  rw [UInt8.toNat_ofNat', UInt8.toNat_ofNat'] at this
  omega
theorem varB_free (m : Nat) : ∀ (n : Nat) (r s : List UInt8), varB m ++ r = varB n ++ s → m = n ∧ r = s := by
  induction m using Nat.strongRecOn with
  | ind m ih =>
    intro n r s h
    rw [varB.eq_def m, varB.eq_def n] at h
    by_cases hm : m < 128
    · by_cases hn : n < 128
      · simp only [dif_pos hm, dif_pos hn, List.singleton_append, List.cons.injEq] at h
        exact ⟨u8_ofNat_inj (by omega) (by omega) h.1, h.2⟩
      · simp only [dif_pos hm, dif_neg hn, List.singleton_append, List.cons_append, List.cons.injEq] at h
        have := u8_ofNat_inj (by omega) (by omega) h.1
        omega
    · by_cases hn : n < 128
      · simp only [dif_neg hm, dif_pos hn, List.singleton_append, List.cons_append, List.cons.injEq] at h
        have := u8_ofNat_inj (by omega) (by omega) h.1
        omega
      · simp only [dif_neg hm, dif_neg hn, List.cons_append, List.cons.injEq] at h
        have h1 := u8_ofNat_inj (by omega) (by omega) h.1
        obtain ⟨h2, h3⟩ := ih (m / 128) (by omega) (n / 128) r s h.2
        exact ⟨by omega, h3⟩
theorem encB_free {x y r s : List UInt8} (h : encB x ++ r = encB y ++ s) : x = y ∧ r = s := by
  unfold encB intB at h
  rw [List.append_assoc, List.append_assoc] at h
  obtain ⟨h1, h2⟩ := varB_free _ _ _ _ h
  unfold zig at h1
  rw [if_pos (by omega), if_pos (by omega)] at h1
  exact List.append_inj h2 (by omega)
theorem encB_ne (x : List UInt8) : encB x ≠ [] := by
  unfold encB intB
  rw [varB.eq_def]
  split <;> simp
theorem flat_free : ∀ (a b : List ByteArray), (a.flatMap fun t => encB t.data.toList) = (b.flatMap fun t => encB t.data.toList) → a = b
  | [], [], _ => rfl
  | [], y :: b, h => by
    rw [List.flatMap_cons] at h
    exact absurd (List.append_eq_nil_iff.1 h.symm).1 (encB_ne _)
  | x :: a, [], h => by
    rw [List.flatMap_cons] at h
    exact absurd (List.append_eq_nil_iff.1 h).1 (encB_ne _)
  | x :: a, y :: b, h => by
    rw [List.flatMap_cons, List.flatMap_cons] at h
    obtain ⟨h1, h2⟩ := encB_free h
    rw [flat_free a b h2, ba_ext h1]
theorem inB_free (t u : Int) (a b : List ByteArray) (ht : 0 ≤ t ∧ t ≤ 255) (hu : 0 ≤ u ∧ u ≤ 255) : inB t a = inB u b ↔ (t = u ∧ a = b) := by
  constructor
  · intro h
    unfold inB tagB at h
    rw [List.cons.injEq] at h
    have h1 := u8_ofNat_inj (by omega) (by omega) h.1
    exact ⟨by omega, flat_free _ _ h.2⟩
  · rintro ⟨rfl, rfl⟩; rfl
end Go.Proofs.YtkkmkfkgmioblaaDoor
namespace Go.Proofs.YtkkmkfkgmioblaaDoor
open Go Go.RowKit Go.Lx CrcMath Go.Proofs.YtkkmkfkgmioblaaDoorW.PrintWords
attribute [local irreducible] Calls
theorem rd_blk {w0 w : World} {L : List Blk} {bb t cc : Nat} {X : List UInt8} {rr : List Value} (hL : Sees w0 w L) (hm : (⟨bb, t, bytesV X ++ rr⟩ : Blk) ∈ L) : Rd w (.slice (some ⟨bb, 0, none⟩) X.length cc) X.length 1 (bytesV X) :=
  ⟨⟨_, _, rfl, fun _ => ⟨_, rfl, fun j y hy => hL.row hm j y (app_left hy)⟩⟩, by rw [bytesV_length, Nat.mul_one]⟩
theorem inB_pos (t : Int) (l : List ByteArray) : 0 < (inB t l).length := by unfold inB; simp
theorem input_row (t : Int) (v : Value) (l : List ByteArray) (w0 : World) (hR : Rd w0 v l.length 1 (strV l)) (h12 : l.length ≤ 12) (hs : ∀ t ∈ l, t.size ≤ 400) :
    Calls Tryd.prog 36 #[.int .i64 t, v] w0 fun e w' => ∃ (bb cc : Nat) (rr : List Value), e = .returned (.slice (some ⟨bb, 0, none⟩) (inB t l).length cc) ∧ Sees w0 w' [⟨bb, 5, bytesV (inB t l) ++ rr⟩] :=
  (refinput_any t v l w0 hR (by omega) fun x hx => Nat.le_trans (hs x hx) (by decide)).mono fun e w' h => by
    obtain ⟨v, Lv, h1, h2, h3⟩ := h
    obtain ⟨bb, cc, rr, e1, e2⟩ := h3.row_of (inB_pos t l)
    subst e2
    exact ⟨bb, cc, rr, by rw [h1, e1], h2⟩
end Go.Proofs.YtkkmkfkgmioblaaDoor
