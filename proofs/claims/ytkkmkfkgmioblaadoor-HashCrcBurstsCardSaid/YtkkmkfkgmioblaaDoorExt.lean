/- Lemmas of this session for the walks and the plain laws. -/
import Derived.Test.YtkkmkfkgmioblaaDoorKd
import Derived.Test.YtkkmkfkgmioblaaDoorCrc
import Derived.Test.YtkkmkfkgmioblaaDoorSane
set_option linter.unusedVariables false
set_option linter.unusedSimpArgs false
/- The check's functions, in the print's form: what each answers, and that it does. -/
namespace Go.Proofs.YtkkmkfkgmioblaaDoor.Ext
open Go Go.RowKit Go.Lx CrcMath Go.Proofs.YtkkmkfkgmioblaaDoor Go.Proofs.YtkkmkfkgmioblaaDoorW.PrintWords

/-- (bounds are told by quotients: of '↑n < 9223372036854775808' the kernel would count the bound up) -/
theorem if_some {α : Type} {p : Prop} [Decidable p] {x r : α} (h : (if p then some x else none) = some r) : p ∧ x = r := by
  split at h
  · exact ⟨by assumption, Option.some.inj h⟩
  · cases h
def antiquarylaw02_sanity.f : Option Bool := some true
theorem antiquarylaw02_sanity.calls (r : Bool) (w : World) (hT : Tab w) (h : antiquarylaw02_sanity.f = some r) :
    Calls Tryd.prog 15 #[] w fun e w' => e = .returned (.bool r) ∧ Below w.heap.size w w' := by
  obtain rfl : true = r := Option.some.inj h
  exact sanity_any w hT

def hash_Crc40.f (l0 : List Int) : Option Int := if isB l0 = true then some ((crcB (toB l0)).toNat : Int) else none
theorem hash_Crc40.calls (A0 : Option Addr) (c0 : Nat) (l0 : List Int) (r : Int) (w : World) (hr0 : Kd.C (Kd.int .u8) w A0 l0.length l0) (hc0 : l0.length ≤ c0) (hT : Tab w) (h : hash_Crc40.f l0 = some r) :
    Calls Tryd.prog 16 #[.slice A0 l0.length c0] w fun e w' => e = .returned (.int .i64 r) ∧ Below w.heap.size w w' := by
  unfold hash_Crc40.f at h
  split at h
  · rename_i hb
    obtain rfl := Option.some.inj h
    exact crc40_any _ (toB l0) w (rd_bytes hr0 hb) (by rw [toB_length]; exact C_len hr0) hT
  · cases h

def antiquaryref02_Crc40.f (l0 : List Int) : Option Int := if isB l0 = true then some ((runB (BitVec.allOnes 40) (toB l0) ^^^ BitVec.allOnes 40).toNat : Int) else none
theorem antiquaryref02_Crc40.calls (A0 : Option Addr) (c0 : Nat) (l0 : List Int) (r : Int) (w : World) (hr0 : Kd.C (Kd.int .u8) w A0 l0.length l0) (hc0 : l0.length ≤ c0) (h : antiquaryref02_Crc40.f l0 = some r) :
    Calls Tryd.prog 17 #[.slice A0 l0.length c0] w fun e w' => e = .returned (.int .i64 r) ∧ Drawn0 w w' := by
  unfold antiquaryref02_Crc40.f at h
  split at h
  · rename_i hb
    obtain rfl := Option.some.inj h
    refine (refcrc_any _ (toB l0) w (rd_bytes hr0 hb) (by rw [toB_length]; exact C_len hr0)).mono ?_
    rintro e w' ⟨rfl, rfl⟩
    exact ⟨rfl, Drawn0.refl _⟩
  · cases h

def hash_Crc_Add.f (a0_0 : Int) (a1 : ByteArray) : Option Int := if a0_0 / 1099511627776 = 0 ∧ a1.size / 9223372036854775808 = 0 then some ((addB (BitVec.ofNat 40 a0_0.toNat) a1.data.toList).toNat : Int) else none
theorem hash_Crc_Add.calls (a0_0 : Int) (a1 : ByteArray) (r : Int) (w : World) (hT : Tab w) (h : hash_Crc_Add.f a0_0 a1 = some r) :
    Calls Tryd.prog 20 #[.agg #[.int .u64 a0_0], .string a1] w fun e w' => e = .returned (.agg #[.int .u64 r]) ∧ Below w.heap.size w w' := by
  obtain ⟨⟨h0, h2⟩, rfl⟩ := if_some h
  · have e : a0_0 = ((BitVec.ofNat 40 a0_0.toNat).toNat : Int) := by rw [BitVec.toNat_ofNat]; omega
    have := add_any (BitVec.ofNat 40 a0_0.toNat) a1 w (by omega) hT
    unfold reg at this
    rw [← e] at this
    exact this

def hash_Words.f (l0 : List Int) : Option Int := some ((wordsB (BitVec.allOnes 40) l0 ^^^ BitVec.allOnes 40).toNat : Int)
theorem hash_Words.calls (A0 : Option Addr) (c0 : Nat) (l0 : List Int) (r : Int) (w : World) (hr0 : Kd.C (Kd.int .i64) w A0 l0.length l0) (hc0 : l0.length ≤ c0) (hT : Tab w) (h : hash_Words.f l0 = some r) :
    Calls Tryd.prog 23 #[.slice A0 l0.length c0] w fun e w' => e = .returned (.int .i64 r) ∧ Below w.heap.size w w' := by
  obtain rfl := Option.some.inj h
  exact words_any _ l0 w (rd_of_C hr0) (C_len hr0) hT

def hash_Join.f (a0 : Int) (a1 : Int) (a2 : Int) : Option Int := if a2 / 9223372036854775808 < 1 then some (joinV a0 a1 a2) else none
theorem hash_Join.calls (a0 : Int) (a1 : Int) (a2 : Int) (r : Int) (w : World) (hT : Tab w) (h : hash_Join.f a0 a1 a2 = some r) :
    Calls Tryd.prog 26 #[.int .i64 a0, .int .i64 a1, .int .i64 a2] w fun e w' => e = .returned (.int .i64 r) ∧ Below w.heap.size w w' := by
  obtain ⟨hb, rfl⟩ := if_some h
  refine (join_any a0 a1 a2 w (by omega) hT).mono ?_
  rintro e w' ⟨rfl, rfl⟩
  exact ⟨rfl, Below.refl _ _⟩

def antiquaryref02_step.f (a0 : Int) (a1 : Int) : Option Int := if a0 / 1099511627776 = 0 ∧ (a1 = 0 ∨ a1 = 1) then some ((CrcMath.step (BitVec.ofNat 40 a0.toNat) (a1 == 1)).toNat : Int) else none
theorem antiquaryref02_step.calls (a0 : Int) (a1 : Int) (r : Int) (w : World) (h : antiquaryref02_step.f a0 a1 = some r) :
    Calls Tryd.prog 40 #[.int .u64 a0, .int .u64 a1] w fun e w' => e = .returned (.int .u64 r) ∧ Drawn0 w w' := by
  obtain ⟨⟨h0, h2⟩, rfl⟩ := if_some h
  · have e : a0 = (a0.toNat : Int) := by omega
    have e1 : a1 = ((a1 == 1).toNat : Int) := by rcases h2 with rfl | rfl <;> rfl
    have := step_core a0.toNat (a1 == 1) w (by omega)
    rw [← e, ← e1] at this
    refine this.mono ?_
    rintro e w' ⟨rfl, rfl⟩
    exact ⟨rfl, Drawn0.refl _⟩
end Go.Proofs.YtkkmkfkgmioblaaDoor.Ext
