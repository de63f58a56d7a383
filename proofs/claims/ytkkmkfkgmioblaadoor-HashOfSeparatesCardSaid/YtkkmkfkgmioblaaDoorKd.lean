/- Between the print's words (Kd) and this session's (Rd, IsSl): rows of bytes, ints, strings. -/
import Derived.Test.YtkkmkfkgmioblaaDoorLib
import Derived.Test.YtkkmkfkgmioblaaDoorWWords
set_option linter.unusedVariables false
set_option linter.unusedSimpArgs false
namespace Go.Lx
open Go Go.RowKit Go.Proofs.YtkkmkfkgmioblaaDoorW.PrintWords

/-- bytes that are numbers -/
def isB (l : List Int) : Bool := l.all fun x => decide (0 ≤ x ∧ x < 256)
def toB (l : List Int) : List UInt8 := l.map fun x => UInt8.ofNat x.toNat
def ofBytes (l : List UInt8) : List Int := l.map fun c => (c.toNat : Int)
theorem isB_iff (l : List Int) : isB l = true ↔ ∀ x ∈ l, 0 ≤ x ∧ x < 256 := by unfold isB; simp
theorem toB_length (l : List Int) : (toB l).length = l.length := by simp [toB]
theorem ofBytes_length (l : List UInt8) : (ofBytes l).length = l.length := by simp [ofBytes]
theorem ofBytes_toB (l : List Int) (h : isB l = true) : ofBytes (toB l) = l := by
  rw [isB_iff] at h
  unfold ofBytes toB
  rw [List.map_map]
  conv => rhs; rw [← List.map_id l]
  apply List.map_congr_left
  intro x hx
  have := h x hx
  simp only [Function.comp, UInt8.toNat_ofNat', id_eq]
  omega
theorem toB_ofBytes (l : List UInt8) : toB (ofBytes l) = l := by
  unfold ofBytes toB
  rw [List.map_map]
  conv => rhs; rw [← List.map_id l]
  apply List.map_congr_left
  intro x _
  have := x.toNat_lt
  simp only [Function.comp, Int.toNat_natCast, id_eq]
  apply UInt8.toNat_inj.1
  simp only [UInt8.toNat_ofNat']; omega
theorem isB_ofBytes (l : List UInt8) : isB (ofBytes l) = true := by
  rw [isB_iff]; intro x hx
  unfold ofBytes at hx
  obtain ⟨c, _, rfl⟩ := List.mem_map.1 hx
  have := c.toNat_lt
  omega
theorem bytesV_toB (l : List Int) (h : isB l = true) : bytesV (toB l) = l.map fun x => .int .u8 x := by
  conv => rhs; rw [← ofBytes_toB l h]
  unfold bytesV ofBytes; rw [List.map_map]; rfl

/-- a row that is read, in the print's words, reads in this session's -/
theorem rd_of_C {α : Type} {enc : α → Value} {h1 : ∀ x, (enc x).oneCell' = true} {w : World} {A : Option Addr} {c : Nat} {l : List α} (h : (Kd.scalar enc h1).C w A l.length l) : Rd w (.slice A l.length c) l.length 1 (l.map enc) := by
  refine ⟨⟨A, c, rfl, fun hn => ?_⟩, by simp⟩
  have hl : 0 < l.length := by
    cases l with
    | nil => exact absurd rfl hn
    | cons _ _ => simp
  obtain ⟨ad, e, hc⟩ := h.2.2 hl
  refine ⟨ad, e, fun j x hx => ?_⟩
  have hj : j < l.length := by
    rcases Nat.lt_or_ge j l.length with h | h
    · exact h
    · rw [List.getElem?_eq_none (by simpa using h)] at hx; cases hx
  obtain ⟨cs, _, rfl, hcell⟩ := hc j _ (List.getElem?_eq_getElem hj)
  have := hcell 0 _ rfl
  rw [show (Kd.scalar enc h1).sz = 1 from rfl, Nat.mul_one, Nat.add_zero] at this
  rw [List.getElem?_map, List.getElem?_eq_getElem hj] at hx
  simp only [Option.map_some, Option.some.injEq] at hx
  rw [← hx]
  exact this
theorem rd_bytes {w : World} {A : Option Addr} {c : Nat} {l : List Int} (h : (Kd.int .u8).C w A l.length l) (hb : isB l = true) : Rd w (.slice A l.length c) (toB l).length 1 (bytesV (toB l)) := by
  rw [bytesV_toB l hb, toB_length]; exact rd_of_C h
theorem C_len {α : Type} {d : Kd α} {w : World} {A : Option Addr} {n : Nat} {l : List α} (h : d.C w A n l) : l.length ≤ 9223372036854775807 := by have := h.1; have := h.2.1; omega

/-- a slice of the call's own, in the print's words -/
theorem R_of_sl {α : Type} {enc : α → Value} {h1 : ∀ x, (enc x).oneCell' = true} {w0 w : World} {L Lv : List Blk} {v : Value} {e n : Nat} {l : List α} (h : IsSl v e 1 n (l.map enc) Lv) (hL : Sees w0 w L) (hs : ∀ x ∈ Lv, x ∈ L) :
    (Kd.scalar enc h1).R e w w0.heap.size (fun _ => True) v l := by
  have hlen := h.len
  have hn : n = l.length := by simpa using hlen.symm
  subst hn
  refine ⟨fun _ _ => trivial, l.map enc, ⟨by simp [Kd.scalar], ?_⟩, ?_⟩
  · cases h with
    | nil hv hn hx hl => exact .inl ⟨hv, hn⟩
    | row b cap rest hv hx hc hn hm hl =>
      refine .inr ⟨b, cap, (l.map enc ++ rest).toArray, hv, ?_, ?_, hn, hm, ?_, ?_⟩
      · exact hL.own ⟨b, e, l.map enc ++ rest⟩ (hs _ (by rw [hl]; exact .head _))
      · exact hL.inn ⟨b, e, l.map enc ++ rest⟩ (hs _ (by rw [hl]; exact .head _))
      · simpa [Kd.scalar] using hc
      · simp [Kd.scalar]
  · refine ⟨by simp [Kd.scalar], fun j p hj => ?_⟩
    show ((l.map enc).drop (j * 1)).take 1 = [enc p]
    have hjl : j < l.length := by
      rcases Nat.lt_or_ge j l.length with h | h
      · exact h
      · rw [List.getElem?_eq_none h] at hj; cases hj
    rw [List.getElem?_eq_getElem hjl] at hj
    simp only [Option.some.injEq] at hj
    rw [Nat.mul_one, List.drop_eq_getElem_cons (by simpa using hjl)]
    simp [hj]
/-- and back: a row that a callee made -/
theorem sl_of_R {α : Type} {enc : α → Value} {h1 : ∀ x, (enc x).oneCell' = true} {w w' : World} {v : Value} {e : Nat} {ok : Nat → Prop} {l : List α} (h : (Kd.scalar enc h1).R e w' w.heap.size ok v l) (hb : Below w.heap.size w w') :
    ∃ Lv, IsSl v e 1 l.length (l.map enc) Lv ∧ Sees w w' Lv := by
  obtain ⟨_, inner, ⟨hil, ho⟩, hrep⟩ := h
  have hsz : (Kd.scalar enc h1).sz = 1 := rfl
  rw [hsz] at hil ho hrep
  have hin : inner = l.map enc := by
    apply List.ext_getElem?
    intro j
    by_cases hj : j < l.length
    · have := hrep.2 j _ (List.getElem?_eq_getElem hj)
      have h2 : (inner.drop (j * 1)).take 1 = [enc l[j]] := this
      rw [Nat.mul_one] at h2
      have h3 := congrArg (·[0]?) h2
      rw [List.getElem?_map, List.getElem?_eq_getElem hj]
      simpa [List.getElem?_take, List.getElem?_drop] using h3
    · rw [List.getElem?_eq_none (by omega), List.getElem?_eq_none (by simp; omega)]
  subst hin
  rcases ho with ⟨he, h0⟩ | ⟨g, cap, cur, he, hg, hh, hnc, hcm, hcs, ht⟩
  · have hl : l = [] := List.eq_nil_of_length_eq_zero h0
    subst hl
    exact ⟨[], .nil he rfl rfl rfl, ⟨hb, fun _ h => (by cases h), fun _ h => (by cases h), List.nodup_nil⟩⟩
  · rw [Nat.mul_one] at ht hcs
    have hcur : cur.toList = l.map enc ++ cur.toList.drop l.length := by
      rw [← ht, List.take_append_drop]
    refine ⟨[⟨g, e, l.map enc ++ cur.toList.drop l.length⟩], .row g cap (cur.toList.drop l.length) he (by simp) (by rw [← hcur, Array.length_toList, hcs, Nat.mul_one]) hnc hcm rfl, ⟨hb, fun f hf => ?_, fun f hf => ?_, by simp⟩⟩
    · simp only [List.mem_singleton] at hf; rw [hf]; exact hg
    · simp only [List.mem_singleton] at hf; rw [hf]
      unfold Blk.In
      rw [← hcur, Array.toArray_toList]
      exact hh
end Go.Lx
