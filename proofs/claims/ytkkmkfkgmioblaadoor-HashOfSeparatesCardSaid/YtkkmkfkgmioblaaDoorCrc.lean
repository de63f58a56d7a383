/- Lemmas of this session for the walks and the plain laws. -/
import Derived.Test.YtkkmkfkgmioblaaDoorBase
import Derived.Test.YtkkmkfkgmioblaaDoorLib
set_option linter.unusedVariables false
set_option linter.unusedSimpArgs false
namespace Go.Proofs.YtkkmkfkgmioblaaDoor
open Go Go.RowKit Go.Lx CrcMath

theorem nib_index (x m : Nat) (hx : x < 1099511627776) (hm : m ≤ 255) :
    bits BinOp.and IntKind.u8 (bits BinOp.xor IntKind.u8 ((x : Int) / 68719476736) (m : Int)) 15 = (((x / 68719476736) ^^^ m) % 16 : Nat) := by
  have e1 : (x : Int) / 68719476736 = ((x / 68719476736 : Nat) : Int) := by omega
  rw [e1, u8_xor_nat _ _ (by omega) (by omega)]
  have hb : (x / 68719476736) ^^^ m < 256 := Nat.xor_lt_two_pow (n := 8) (by omega) (by omega)
  rw [show (15 : Int) = ((15 : Nat) : Int) from rfl, u8_and_nat _ _ hb (by omega)]
  rw [show (15 : Nat) = 2 ^ 4 - 1 from rfl, Nat.and_two_pow_sub_one_eq_mod]

theorem tab_lt : ∀ k, tab.getD k 0 < 1099511627776 := by
  intro k
  by_cases h : k < 16
  · have : ∀ j : Fin 16, tab.getD j.val 0 < 1099511627776 := by decide
    exact this ⟨k, h⟩
  · rw [List.getD_eq_getElem?_getD, List.getElem?_eq_none (by simp [tab]; omega)]; decide

theorem nib_val (x m : Nat) (hx : x < 1099511627776) (hm : m ≤ 255) (k : Nat) (hk : k = ((x / 68719476736) ^^^ m) % 16) :
    bits BinOp.xor IntKind.u64 (bits BinOp.and IntKind.u64 (IntKind.u64.wrap ((x : Int) * 16)) 1099511627775) (tab.getD k 0 : Nat) = ((nib (BitVec.ofNat 40 x) (BitVec.ofNat 4 m)).toNat : Int) := by
  have e1 : IntKind.u64.wrap ((x : Int) * 16) = ((x * 16 : Nat) : Int) := by rw [wrap_u64]; omega
  have e2 : bits BinOp.and IntKind.u64 ((x * 16 : Nat) : Int) 1099511627775 = ((x * 16 % 1099511627776 : Nat) : Int) := by
    rw [show (1099511627775 : Int) = ((1099511627775 : Nat) : Int) from rfl, u64_and_nat _ _ (by omega) (by omega)]
    rw [show (1099511627775 : Nat) = 2 ^ 40 - 1 from rfl, Nat.and_two_pow_sub_one_eq_mod]
  rw [e1, e2, u64_xor_nat _ _ (by omega) (by have := tab_lt k; omega)]
  congr 1
  have hx' : (BitVec.ofNat 40 x).toNat = x := by simp; omega
  have e3 : ((BitVec.ofNat 40 x >>> 36).setWidth 4 ^^^ BitVec.ofNat 4 m).toNat = k := by
    rw [hk]
    simp only [BitVec.toNat_xor, BitVec.toNat_setWidth, BitVec.toNat_ushiftRight, hx', BitVec.toNat_ofNat, Nat.shiftRight_eq_div_pow]
    rw [show (16 : Nat) = 2 ^ 4 from rfl, Nat.xor_mod_two_pow]
  unfold nib tabR
  rw [BitVec.toNat_xor, BitVec.toNat_shiftLeft, hx', Nat.shiftLeft_eq, e3, BitVec.toNat_ofNat, Nat.mod_eq_of_lt (a := tab.getD k 0) (tab_lt k)]


theorem wrap64_small (n : Nat) (h : n < 9223372036854775808) : wrap64 (n : Int) = n := by unfold wrap64; omega
theorem value_val (x : Nat) (hx : x < 1099511627776) : wrap64 (bits BinOp.xor IntKind.u64 (x : Int) 1099511627775) = ((BitVec.ofNat 40 x ^^^ BitVec.allOnes 40).toNat : Int) := by
  rw [show (1099511627775 : Int) = ((1099511627775 : Nat) : Int) from rfl, u64_xor_nat _ _ (by omega) (by omega), wrap64_small _ (by have := Nat.xor_lt_two_pow (n := 40) (x := x) (y := 1099511627775) (by omega) (by omega); omega)]
  congr 1
  rw [BitVec.toNat_xor, BitVec.toNat_ofNat, Nat.mod_eq_of_lt (show x < 2 ^ 40 by omega)]
  rfl

/-- the register behind bytes -/
def addB (r : BitVec 40) (l : List UInt8) : BitVec 40 := l.foldl (fun r c => nib (nib r (BitVec.ofNat 4 (c.toNat / 16))) (BitVec.ofNat 4 c.toNat)) r
theorem take_succ_bytes (s : ByteArray) (k : Nat) (h : k < s.size) : s.data.toList.take (k + 1) = s.data.toList.take k ++ [s[k]] := by
  rw [List.take_succ_eq_append_getElem (by simpa using h)]; rfl
theorem addB_snoc (r : BitVec 40) (l : List UInt8) (c : UInt8) : addB r (l ++ [c]) = nib (nib (addB r l) (BitVec.ofNat 4 (c.toNat / 16))) (BitVec.ofNat 4 c.toNat) := by
  unfold addB; rw [List.foldl_append]; rfl
theorem addB_append (r : BitVec 40) (l m : List UInt8) : addB r (l ++ m) = addB (addB r l) m := by
  unfold addB; rw [List.foldl_append]

end Go.Proofs.YtkkmkfkgmioblaaDoor
namespace Go.Proofs.YtkkmkfkgmioblaaDoor
open Go Go.RowKit Go.Lx
attribute [local irreducible] Calls

set_option maxHeartbeats 400000 in
theorem nibble_core (x m : Nat) (w : World) (hx : x < 1099511627776) (hm : m ≤ 255) (hT : Tab w) :
    Calls Tryd.prog 41 #[.agg #[.int .u64 x], .int .u8 m] w fun e w' => e = .returned (.agg #[reg (CrcMath.nib (BitVec.ofNat 40 x) (BitVec.ofNat 4 m))]) ∧ Below w.heap.size w w' := by
  obtain ⟨k, hkk⟩ : ∃ k : Nat, k = ((x / 68719476736) ^^^ m) % 16 := ⟨_, rfl⟩
  have hval := Lib.hid (nib_val x m hx hm k hkk)
  have hk : bits BinOp.and IntKind.u8 (bits BinOp.xor IntKind.u8 ((x : Int) / 68719476736) (m : Int)) 15 = (k : Int) := by rw [nib_index x m hx hm, hkk]
  have hk16 : (k : Int) < 16 := by omega
  clear hkk
  have hL := Sees.refl w
  go_enter Tryd.func41, Tryd.ntmps41
  go_wp2_with (first | (refine wpl_box hL rfl _ _ rfl _ rfl _ rfl ?_; clear hL; intro b w hL; simp only [Act.put, List.setIfInBounds_toArray, List.set_cons_succ, List.set_cons_zero]) | (refine wpl_alloc hL rfl _ rfl _ z_crc ?_; clear hL; intro b w hL; simp only [Act.put, List.setIfInBounds_toArray, List.set_cons_succ, List.set_cons_zero]) | (refine wpl_run rfl (run_load_plain rfl p_u64 rfl (hL.at (by first | exact .head _ | exact .tail _ (.head _) | exact .tail _ (.tail _ (.head _)) | exact .tail _ (.tail _ (.tail _ (.head _))) | exact .tail _ (.tail _ (.tail _ (.tail _ (.head _)))) | exact .tail _ (.tail _ (.tail _ (.tail _ (.tail _ (.head _))))) | exact List.mem_append_right _ (.head _) | exact List.mem_append_right _ (.tail _ (.head _)) | exact List.mem_append_right _ (.tail _ (.tail _ (.head _))) | exact List.mem_append_right _ (.tail _ (.tail _ (.tail _ (.head _)))) | exact .tail _ (List.mem_append_right _ (.head _)) | exact .tail _ (List.mem_append_right _ (.tail _ (.head _))) | exact .tail _ (List.mem_append_right _ (.tail _ (.tail _ (.head _)))) | exact .tail _ (List.mem_append_right _ (.tail _ (.tail _ (.tail _ (.head _))))) | exact .tail _ (.tail _ (List.mem_append_right _ (.head _))) | exact .tail _ (.tail _ (List.mem_append_right _ (.tail _ (.head _)))) | exact .tail _ (.tail _ (List.mem_append_right _ (.tail _ (.tail _ (.head _))))) | exact .tail _ (.tail _ (List.mem_append_right _ (.tail _ (.tail _ (.tail _ (.head _))))))) (by rfl))) ?_; simp only [Act.put, List.setIfInBounds_toArray, List.set_cons_succ, List.set_cons_zero]))
  refine wp_region_lex [(.val, _), (.calm, _), (.val, _), (.val, _), (.val, _), (.val, _), (.val, _), (.calm, _), (.val, _), (.val, _), (.eff, _)] rfl mixed (by kernel_rfl) ?_
  have hL := hL.drew
  repeat (first | (refine wpLex_calm rfl _ (run_load_plain rfl p_u64 rfl (hL.at (by first | exact .head _ | exact .tail _ (.head _) | exact .tail _ (.tail _ (.head _)) | exact .tail _ (.tail _ (.tail _ (.head _))) | exact .tail _ (.tail _ (.tail _ (.tail _ (.head _)))) | exact .tail _ (.tail _ (.tail _ (.tail _ (.tail _ (.head _))))) | exact List.mem_append_right _ (.head _) | exact List.mem_append_right _ (.tail _ (.head _)) | exact List.mem_append_right _ (.tail _ (.tail _ (.head _))) | exact List.mem_append_right _ (.tail _ (.tail _ (.tail _ (.head _)))) | exact .tail _ (List.mem_append_right _ (.head _)) | exact .tail _ (List.mem_append_right _ (.tail _ (.head _))) | exact .tail _ (List.mem_append_right _ (.tail _ (.tail _ (.head _)))) | exact .tail _ (List.mem_append_right _ (.tail _ (.tail _ (.tail _ (.head _))))) | exact .tail _ (.tail _ (List.mem_append_right _ (.head _))) | exact .tail _ (.tail _ (List.mem_append_right _ (.tail _ (.head _)))) | exact .tail _ (.tail _ (List.mem_append_right _ (.tail _ (.tail _ (.head _))))) | exact .tail _ (.tail _ (List.mem_append_right _ (.tail _ (.tail _ (.tail _ (.head _))))))) (by rfl))) ?_; simp only [Act.put, List.setIfInBounds_toArray, List.set_cons_succ, List.set_cons_zero]) | (refine wpLex_calm rfl _ (run_load_plain rfl p_u64 rfl (hL.old (hT.nib _ (by omega)))) ?_; simp only [Act.put, List.setIfInBounds_toArray, List.set_cons_succ, List.set_cons_zero]) | (refine x_strow hL rfl _ _ _ rfl _ rfl _ rfl _ s_crc _ rfl _ _ _ (by first | exact .here | exact .there .here | exact .there (.there .here) | exact .there (.there (.there .here)) | exact .there (.there (.there (.there .here))) | exact .pre (.here) | exact .pre (.there .here) | exact .pre (.there (.there .here))) (by repeat (first | exact all1_nil | refine all1_cons rfl ?_)) (by rfl) (by rfl) ?_; clear hL; intro w hL; simp only [Act.put, List.setIfInBounds_toArray, List.set_cons_succ, List.set_cons_zero]) | (refine wpLex_val rfl _ (fun w2 => by (go_simp; try rfl)) ?_; simp only [Act.put, List.setIfInBounds_toArray, List.set_cons_succ, List.set_cons_zero]))
  refine wpLex_nil ?_
  go_wp2
  refine bodyPost_cell rfl a_crc rfl rfl hL (by first | exact .head _ | exact .tail _ (.head _) | exact .tail _ (.tail _ (.head _)) | exact .tail _ (.tail _ (.tail _ (.head _))) | exact .tail _ (.tail _ (.tail _ (.tail _ (.head _)))) | exact .tail _ (.tail _ (.tail _ (.tail _ (.tail _ (.head _))))) | exact List.mem_append_right _ (.head _) | exact List.mem_append_right _ (.tail _ (.head _)) | exact List.mem_append_right _ (.tail _ (.tail _ (.head _))) | exact List.mem_append_right _ (.tail _ (.tail _ (.tail _ (.head _)))) | exact .tail _ (List.mem_append_right _ (.head _)) | exact .tail _ (List.mem_append_right _ (.tail _ (.head _))) | exact .tail _ (List.mem_append_right _ (.tail _ (.tail _ (.head _)))) | exact .tail _ (List.mem_append_right _ (.tail _ (.tail _ (.tail _ (.head _))))) | exact .tail _ (.tail _ (List.mem_append_right _ (.head _))) | exact .tail _ (.tail _ (List.mem_append_right _ (.tail _ (.head _)))) | exact .tail _ (.tail _ (List.mem_append_right _ (.tail _ (.tail _ (.head _))))) | exact .tail _ (.tail _ (List.mem_append_right _ (.tail _ (.tail _ (.tail _ (.head _))))))) rfl ⟨?_, hL.below⟩
  have e := hval.out
  rw [List.getD_eq_getElem?_getD] at e
  rw [e]
theorem nibble_any (r : BitVec 40) (n : Int) (w : World) (g0 : 0 ≤ n) (g1 : n ≤ 255) (hT : Tab w) :
    Calls Tryd.prog 41 #[.agg #[reg r], .int .u8 n] w fun e w' => e = .returned (.agg #[reg (CrcMath.nib r (BitVec.ofNat 4 n.toNat))]) ∧ Below w.heap.size w w' := by
  obtain ⟨m, rfl⟩ := Int.eq_ofNat_of_zero_le g0
  have := nibble_core r.toNat m w r.isLt (by omega) hT
  simpa using this

theorem en_nibble : enterable Tryd.prog 41 = true := by kernel_rfl
set_option maxHeartbeats 400000 in
theorem beginCrc_any (w0 : World) : Calls Tryd.prog 19 #[] w0 fun e w' => e = .returned (.agg #[reg (BitVec.allOnes 40)]) ∧ Below w0.heap.size w0 w' := by
  have hL := Sees.refl w0
  go_enter Tryd.func19, Tryd.ntmps19
  go_wp2_with (first | (refine wpl_alloc hL rfl _ rfl _ z_crc ?_; clear hL; intro b w hL; simp only [Act.put, List.setIfInBounds_toArray, List.set_cons_succ, List.set_cons_zero]) | (refine wpl_strow hL rfl _ _ _ rfl _ rfl _ rfl _ s_crc _ rfl _ _ _ (by first | exact .here | exact .there .here | exact .there (.there .here) | exact .there (.there (.there .here)) | exact .there (.there (.there (.there .here))) | exact .pre (.here) | exact .pre (.there .here) | exact .pre (.there (.there .here))) (by repeat (first | exact all1_nil | refine all1_cons rfl ?_)) (by rfl) (by rfl) ?_; clear hL; intro w hL; simp only [Act.put, List.setIfInBounds_toArray, List.set_cons_succ, List.set_cons_zero]))
  refine bodyPost_cell rfl a_crc rfl rfl hL (by first | exact .head _ | exact .tail _ (.head _) | exact .tail _ (.tail _ (.head _)) | exact .tail _ (.tail _ (.tail _ (.head _))) | exact .tail _ (.tail _ (.tail _ (.tail _ (.head _)))) | exact .tail _ (.tail _ (.tail _ (.tail _ (.tail _ (.head _))))) | exact List.mem_append_right _ (.head _) | exact List.mem_append_right _ (.tail _ (.head _)) | exact List.mem_append_right _ (.tail _ (.tail _ (.head _))) | exact List.mem_append_right _ (.tail _ (.tail _ (.tail _ (.head _)))) | exact .tail _ (List.mem_append_right _ (.head _)) | exact .tail _ (List.mem_append_right _ (.tail _ (.head _))) | exact .tail _ (List.mem_append_right _ (.tail _ (.tail _ (.head _)))) | exact .tail _ (List.mem_append_right _ (.tail _ (.tail _ (.tail _ (.head _))))) | exact .tail _ (.tail _ (List.mem_append_right _ (.head _))) | exact .tail _ (.tail _ (List.mem_append_right _ (.tail _ (.head _)))) | exact .tail _ (.tail _ (List.mem_append_right _ (.tail _ (.tail _ (.head _))))) | exact .tail _ (.tail _ (List.mem_append_right _ (.tail _ (.tail _ (.tail _ (.head _))))))) rfl ⟨?_, hL.below⟩
  rfl

set_option maxHeartbeats 400000 in
theorem value_core (x : Nat) (w0 : World) (hx : x < 1099511627776) :
    Calls Tryd.prog 22 #[.agg #[.int .u64 x]] w0 fun e w' => e = .returned (.int .i64 ((BitVec.ofNat 40 x ^^^ BitVec.allOnes 40).toNat : Int)) ∧ Below w0.heap.size w0 w' := by
  have hv := Lib.hid (value_val x hx)
  have hL := Sees.refl w0
  go_enter Tryd.func22, Tryd.ntmps22
  go_wp2_with (first | (refine wpl_box hL rfl _ _ rfl _ rfl _ rfl ?_; clear hL; intro b w hL; simp only [Act.put, List.setIfInBounds_toArray, List.set_cons_succ, List.set_cons_zero]) | (refine wpl_run rfl (run_load_plain rfl p_u64 rfl (hL.at (by first | exact .head _ | exact .tail _ (.head _) | exact .tail _ (.tail _ (.head _)) | exact .tail _ (.tail _ (.tail _ (.head _))) | exact .tail _ (.tail _ (.tail _ (.tail _ (.head _)))) | exact .tail _ (.tail _ (.tail _ (.tail _ (.tail _ (.head _))))) | exact List.mem_append_right _ (.head _) | exact List.mem_append_right _ (.tail _ (.head _)) | exact List.mem_append_right _ (.tail _ (.tail _ (.head _))) | exact List.mem_append_right _ (.tail _ (.tail _ (.tail _ (.head _)))) | exact .tail _ (List.mem_append_right _ (.head _)) | exact .tail _ (List.mem_append_right _ (.tail _ (.head _))) | exact .tail _ (List.mem_append_right _ (.tail _ (.tail _ (.head _)))) | exact .tail _ (List.mem_append_right _ (.tail _ (.tail _ (.tail _ (.head _))))) | exact .tail _ (.tail _ (List.mem_append_right _ (.head _))) | exact .tail _ (.tail _ (List.mem_append_right _ (.tail _ (.head _)))) | exact .tail _ (.tail _ (List.mem_append_right _ (.tail _ (.tail _ (.head _))))) | exact .tail _ (.tail _ (List.mem_append_right _ (.tail _ (.tail _ (.tail _ (.head _))))))) (by rfl))) ?_; simp only [Act.put, List.setIfInBounds_toArray, List.set_cons_succ, List.set_cons_zero]))
  go_ret
  refine ⟨?_, hL.below⟩
  rw [← hv.out]
  rfl
theorem value_any (r : BitVec 40) (w0 : World) :
    Calls Tryd.prog 22 #[.agg #[reg r]] w0 fun e w' => e = .returned (.int .i64 ((r ^^^ BitVec.allOnes 40).toNat : Int)) ∧ Below w0.heap.size w0 w' := by
  simpa using value_core r.toNat w0 r.isLt

set_option maxHeartbeats 1000000 in
theorem add_any (r : BitVec 40) (s : ByteArray) (w0 : World) (hs : s.size ≤ 9223372036854775807) (hT : Tab w0) :
    Calls Tryd.prog 20 #[.agg #[reg r], .string s] w0 fun e w' => e = .returned (.agg #[reg (addB r s.data.toList)]) ∧ Below w0.heap.size w0 w' := by
  have hL := Sees.refl w0
  go_enter Tryd.func20, Tryd.ntmps20
  go_wp2_with (first | (refine wpl_box hL rfl _ _ rfl _ rfl _ rfl ?_; clear hL; intro b w hL; simp only [Act.put, List.setIfInBounds_toArray, List.set_cons_succ, List.set_cons_zero]) | (refine wpl_alloc hL rfl _ rfl _ z_crc ?_; clear hL; intro b w hL; simp only [Act.put, List.setIfInBounds_toArray, List.set_cons_succ, List.set_cons_zero]))
  rename_i bc _ _ _
  obtain ⟨br, rfl⟩ : ∃ br, br = b := ⟨_, rfl⟩
  go_loopw [8] (fun i wr => ∃ k : Nat, k ≤ s.size ∧ i = .int .i64 k ∧ Sees w0 wr [⟨br, 30, [.int .u64 0]⟩, ⟨bc, 30, [reg (addB r (s.data.toList.take k))]⟩]) (fun i _ => s.size - (intOf i).toNat)
  case atStart => exact ⟨0, Nat.zero_le _, rfl, hL⟩
  case round =>
    clear hL
    obtain ⟨k, hk, rfl, hL⟩ := hrel
    generalize hR : addB r (s.data.toList.take k) = R at hL
    have HR := Lib.hid hR
    clear hR
    by_cases hlt : k < s.size
    · go_wp2
      refine wp_region_lex [(.calm, _), (.val, _), (.val, _), (.val, _), (.val, _), (.eff, _), (.val, _), (.val, _), (.val, _), (.eff, _), (.eff, _)] rfl mixed (by kernel_rfl) ?_
      replace hL := hL.drew
      have hc := (s[k]).toNat_lt
      repeat (first | (refine wpLex_calm rfl _ (run_load_row hL rfl a_crc rfl (by first | exact .head _ | exact .tail _ (.head _) | exact .tail _ (.tail _ (.head _)) | exact .tail _ (.tail _ (.tail _ (.head _))) | exact .tail _ (.tail _ (.tail _ (.tail _ (.head _)))) | exact .tail _ (.tail _ (.tail _ (.tail _ (.tail _ (.head _))))) | exact List.mem_append_right _ (.head _) | exact List.mem_append_right _ (.tail _ (.head _)) | exact List.mem_append_right _ (.tail _ (.tail _ (.head _))) | exact List.mem_append_right _ (.tail _ (.tail _ (.tail _ (.head _)))) | exact .tail _ (List.mem_append_right _ (.head _)) | exact .tail _ (List.mem_append_right _ (.tail _ (.head _))) | exact .tail _ (List.mem_append_right _ (.tail _ (.tail _ (.head _)))) | exact .tail _ (List.mem_append_right _ (.tail _ (.tail _ (.tail _ (.head _))))) | exact .tail _ (.tail _ (List.mem_append_right _ (.head _))) | exact .tail _ (.tail _ (List.mem_append_right _ (.tail _ (.head _)))) | exact .tail _ (.tail _ (List.mem_append_right _ (.tail _ (.tail _ (.head _))))) | exact .tail _ (.tail _ (List.mem_append_right _ (.tail _ (.tail _ (.tail _ (.head _))))))) (by rfl)) ?_; simp only [Act.put, List.setIfInBounds_toArray, List.set_cons_succ, List.set_cons_zero]) | (refine x_call en_nibble rfl rfl rfl rfl (nibble_any _ _ _ (by omega) (by omega) (hT.since hL)) ?_; rintro e w ⟨rfl, hb⟩; refine ⟨_, rfl, ?_⟩; replace hL := hL.call hb; clear hb; simp only [Act.put, List.setIfInBounds_toArray, List.set_cons_succ, List.set_cons_zero]) | (refine x_strow hL rfl _ _ _ rfl _ rfl _ rfl _ s_crc _ rfl _ _ _ (by first | exact .here | exact .there .here | exact .there (.there .here) | exact .there (.there (.there .here)) | exact .there (.there (.there (.there .here))) | exact .pre (.here) | exact .pre (.there .here) | exact .pre (.there (.there .here))) (by repeat (first | exact all1_nil | refine all1_cons rfl ?_)) (by rfl) (by rfl) ?_; clear hL; intro w hL; simp only [Act.put, List.setIfInBounds_toArray, List.set_cons_succ, List.set_cons_zero]) | (refine wpLex_val rfl _ (fun w2 => by (go_simp; try rfl)) ?_; simp only [Act.put, List.setIfInBounds_toArray, List.set_cons_succ, List.set_cons_zero]))
      refine wpLex_nil ?_
      go_wp2
      go_roundw
      case rel =>
        refine ⟨k + 1, by omega, by go_num, ?_⟩
        have e : addB r (s.data.toList.take (k + 1)) = CrcMath.nib (CrcMath.nib R (BitVec.ofNat 4 ((s[k].toNat : Int) / 16).toNat)) (BitVec.ofNat 4 ((s[k].toNat : Int)).toNat) := by
          rw [take_succ_bytes s k hlt, addB_snoc, HR.out]
          rfl
        rw [e]
        exact hL
      case measure => simp [intOf]; omega
    · go_wp2_with (first | (refine wpl_run rfl (run_load_row hL rfl a_crc rfl (by first | exact .head _ | exact .tail _ (.head _) | exact .tail _ (.tail _ (.head _)) | exact .tail _ (.tail _ (.tail _ (.head _))) | exact .tail _ (.tail _ (.tail _ (.tail _ (.head _)))) | exact .tail _ (.tail _ (.tail _ (.tail _ (.tail _ (.head _))))) | exact List.mem_append_right _ (.head _) | exact List.mem_append_right _ (.tail _ (.head _)) | exact List.mem_append_right _ (.tail _ (.tail _ (.head _))) | exact List.mem_append_right _ (.tail _ (.tail _ (.tail _ (.head _)))) | exact .tail _ (List.mem_append_right _ (.head _)) | exact .tail _ (List.mem_append_right _ (.tail _ (.head _))) | exact .tail _ (List.mem_append_right _ (.tail _ (.tail _ (.head _)))) | exact .tail _ (List.mem_append_right _ (.tail _ (.tail _ (.tail _ (.head _))))) | exact .tail _ (.tail _ (List.mem_append_right _ (.head _))) | exact .tail _ (.tail _ (List.mem_append_right _ (.tail _ (.head _)))) | exact .tail _ (.tail _ (List.mem_append_right _ (.tail _ (.tail _ (.head _))))) | exact .tail _ (.tail _ (List.mem_append_right _ (.tail _ (.tail _ (.tail _ (.head _))))))) (by rfl)) ?_; simp only [Act.put, List.setIfInBounds_toArray, List.set_cons_succ, List.set_cons_zero]) | (refine wpl_strow hL rfl _ _ _ rfl _ rfl _ rfl _ s_crc _ rfl _ _ _ (by first | exact .here | exact .there .here | exact .there (.there .here) | exact .there (.there (.there .here)) | exact .there (.there (.there (.there .here))) | exact .pre (.here) | exact .pre (.there .here) | exact .pre (.there (.there .here))) (by repeat (first | exact all1_nil | refine all1_cons rfl ?_)) (by rfl) (by rfl) ?_; clear hL; intro w hL; simp only [Act.put, List.setIfInBounds_toArray, List.set_cons_succ, List.set_cons_zero]))
      refine bodyPost_cell rfl a_crc rfl rfl hL (by first | exact .head _ | exact .tail _ (.head _) | exact .tail _ (.tail _ (.head _)) | exact .tail _ (.tail _ (.tail _ (.head _))) | exact .tail _ (.tail _ (.tail _ (.tail _ (.head _)))) | exact .tail _ (.tail _ (.tail _ (.tail _ (.tail _ (.head _))))) | exact List.mem_append_right _ (.head _) | exact List.mem_append_right _ (.tail _ (.head _)) | exact List.mem_append_right _ (.tail _ (.tail _ (.head _))) | exact List.mem_append_right _ (.tail _ (.tail _ (.tail _ (.head _)))) | exact .tail _ (List.mem_append_right _ (.head _)) | exact .tail _ (List.mem_append_right _ (.tail _ (.head _))) | exact .tail _ (List.mem_append_right _ (.tail _ (.tail _ (.head _)))) | exact .tail _ (List.mem_append_right _ (.tail _ (.tail _ (.tail _ (.head _))))) | exact .tail _ (.tail _ (List.mem_append_right _ (.head _))) | exact .tail _ (.tail _ (List.mem_append_right _ (.tail _ (.head _)))) | exact .tail _ (.tail _ (List.mem_append_right _ (.tail _ (.tail _ (.head _))))) | exact .tail _ (.tail _ (List.mem_append_right _ (.tail _ (.tail _ (.tail _ (.head _))))))) rfl ⟨?_, hL.below⟩
      rw [← HR.out, List.take_of_length_le (by simp; omega)]

def ones : BitVec 40 := BitVec.allOnes 40
/-- the check of bytes -/
def crcB (l : List UInt8) : BitVec 40 := addB (BitVec.allOnes 40) l ^^^ BitVec.allOnes 40
theorem en_begin : enterable Tryd.prog 19 = true := by kernel_rfl
theorem en_add : enterable Tryd.prog 20 = true := by kernel_rfl
theorem en_value : enterable Tryd.prog 22 = true := by kernel_rfl

set_option maxHeartbeats 400000 in
theorem crc40_any (v : Value) (l : List UInt8) (w0 : World) (hR : Rd w0 v l.length 1 (bytesV l)) (hl : l.length ≤ 9223372036854775807) (hT : Tab w0) :
    Calls Tryd.prog 16 #[v] w0 fun e w' => e = .returned (.int .i64 ((crcB l).toNat : Int)) ∧ Below w0.heap.size w0 w' := by
  have hl' : (⟨l.toArray⟩ : ByteArray).size ≤ 9223372036854775807 := by show l.toArray.size ≤ _; simpa using hl
  have hL := Sees.refl w0
  go_enter Tryd.func16, Tryd.ntmps16
  go_wp2
  refine wp_region_lex [(.ext, _), (.val, _), (.old, _), (.eff, _), (.eff, _), (.val, _)] rfl mixed (by kernel_rfl) ?_
  replace hL := hL.drew
  have hS : Since w0.drew w0.drew := Below.refl _ _
  have hRI := hR.sees hL
  repeat (first | (refine xx_call en_begin rfl hS rfl rfl rfl (beginCrc_any _) ?_; rintro e w ⟨rfl, hb⟩; replace hS := hS.trans (hb.mono hS.size); refine ⟨_, rfl, hS, ?_⟩; replace hL := hL.call hb; clear hb; simp only [Act.put, List.setIfInBounds_toArray, List.set_cons_succ, List.set_cons_zero]) | (refine wpLex_old rfl hS _ (fun w2 hS2 => exec_toString u_bytes u_u8 u_string (hRI.below hS2) rfl rfl) ?_; simp only [Act.put, List.setIfInBounds_toArray, List.set_cons_succ, List.set_cons_zero]) | (refine x_call en_add rfl rfl rfl rfl (add_any _ _ _ hl' (hT.since hL)) ?_; rintro e w ⟨rfl, hb⟩; refine ⟨_, rfl, ?_⟩; replace hL := hL.call hb; clear hb; simp only [Act.put, List.setIfInBounds_toArray, List.set_cons_succ, List.set_cons_zero]) | (refine x_call en_value rfl rfl rfl rfl (value_any _ _) ?_; rintro e w ⟨rfl, hb⟩; refine ⟨_, rfl, ?_⟩; replace hL := hL.call hb; clear hb; simp only [Act.put, List.setIfInBounds_toArray, List.set_cons_succ, List.set_cons_zero]) | (refine wpLex_val rfl _ (fun w2 => by (go_simp; try rfl)) ?_; simp only [Act.put, List.setIfInBounds_toArray, List.set_cons_succ, List.set_cons_zero]))
  refine wpLex_nil ?_
  go_wp2
  go_ret
  exact ⟨rfl, hL.below⟩
end Go.Proofs.YtkkmkfkgmioblaaDoor
namespace Go.Proofs.YtkkmkfkgmioblaaDoor
open Go Go.RowKit Go.Lx CrcMath

theorem bit39 (z : Nat) (hz : z < 1099511627776) : (BitVec.ofNat 40 z).getLsbD 39 = decide (549755813888 ≤ z) := by
  rw [BitVec.getLsbD_ofNat]
  simp only [show 39 < 40 from by decide, decide_true, Bool.true_and]
  rw [Nat.testBit_eq_decide_div_mod_eq]
  have : z / 2 ^ 39 < 2 := by omega
  by_cases h : 549755813888 ≤ z
  · simp [h]; omega
  · simp [h]; omega
theorem shl_ofNat (z : Nat) : (BitVec.ofNat 40 z) <<< 1 = BitVec.ofNat 40 (z * 2) := by
  apply BitVec.eq_of_toNat_eq
  simp [BitVec.toNat_shiftLeft, Nat.shiftLeft_eq]
theorem X_low (z : Nat) (hz : z < 1099511627776) (h : (((z : Int) * 2) / 1099511627776 == 1) = false) : X (BitVec.ofNat 40 z) = BitVec.ofNat 40 (z * 2) ∧ z * 2 < 1099511627776 := by
  have h1 : ¬ ((z : Int) * 2) / 1099511627776 = 1 := by simpa using h
  have h2 : z < 549755813888 := by omega
  unfold X
  rw [bit39 z hz, shl_ofNat]
  simp [show ¬ 549755813888 ≤ z from by omega]
  omega
theorem X_high (z : Nat) (hz : z < 1099511627776) (h : (((z : Int) * 2) / 1099511627776 == 1) = true) :
    ∃ z1 : Nat, z1 < 1099511627776 ∧ bits BinOp.xor IntKind.u64 (bits BinOp.and IntKind.u64 ((z : Int) * 2) 1099511627775) 75628553 = (z1 : Int) ∧ X (BitVec.ofNat 40 z) = BitVec.ofNat 40 z1 := by
  have h1 : ((z : Int) * 2) / 1099511627776 = 1 := by simpa using h
  have h2 : 549755813888 ≤ z := by omega
  have e2 : bits BinOp.and IntKind.u64 ((z : Int) * 2) 1099511627775 = ((z * 2 % 1099511627776 : Nat) : Int) := by
    rw [show (1099511627775 : Int) = ((1099511627775 : Nat) : Int) from rfl, show (z : Int) * 2 = ((z * 2 : Nat) : Int) from by omega, u64_and_nat _ _ (by omega) (by omega)]
    rw [show (1099511627775 : Nat) = 2 ^ 40 - 1 from rfl, Nat.and_two_pow_sub_one_eq_mod]
  refine ⟨(z * 2 % 1099511627776) ^^^ 75628553, ?_, ?_, ?_⟩
  · exact Nat.xor_lt_two_pow (n := 40) (by omega) (by omega)
  · rw [e2, show (75628553 : Int) = ((75628553 : Nat) : Int) from rfl, u64_xor_nat _ _ (by omega) (by omega)]
  · unfold X
    rw [bit39 z hz, shl_ofNat]
    simp only [h2, decide_true, if_true]
    apply BitVec.eq_of_toNat_eq
    simp only [BitVec.toNat_xor, BitVec.toNat_ofNat, poly]
    rw [Nat.mod_eq_of_lt (a := z * 2 % 1099511627776 ^^^ 75628553) (Nat.xor_lt_two_pow (n := 40) (by omega) (by omega))]
theorem xor_ofNat (z x : Nat) (hz : z < 1099511627776) (hx : x < 1099511627776) :
    ∃ z1 : Nat, z1 < 1099511627776 ∧ bits BinOp.xor IntKind.u64 (z : Int) (x : Int) = (z1 : Int) ∧ BitVec.ofNat 40 z ^^^ BitVec.ofNat 40 x = BitVec.ofNat 40 z1 := by
  refine ⟨z ^^^ x, Nat.xor_lt_two_pow (n := 40) (by omega) (by omega), u64_xor_nat _ _ (by omega) (by omega), ?_⟩
  apply BitVec.eq_of_toNat_eq
  simp only [BitVec.toNat_xor, BitVec.toNat_ofNat]
  rw [Nat.mod_eq_of_lt hz, Nat.mod_eq_of_lt hx, Nat.mod_eq_of_lt (Nat.xor_lt_two_pow (n := 40) (by omega) (by omega))]
theorem bit_test (y k : Nat) (hy : y < 1099511627776) (hk : k < 40) : (bits BinOp.and IntKind.u64 ((y : Int) / 2 ^ k) 1 == 1) = (BitVec.ofNat 40 y).getLsbD k := by
  have e : (y : Int) / 2 ^ k = ((y / 2 ^ k : Nat) : Int) := by simp
  have hle : y / 2 ^ k ≤ y := Nat.div_le_self _ _
  rw [e, show (1 : Int) = ((1 : Nat) : Int) from rfl, u64_and_nat _ _ (by omega) (by omega), BitVec.getLsbD_ofNat, Nat.and_one_is_mod]
  simp only [hk, decide_true, Bool.true_and]
  rw [Nat.testBit_eq_decide_div_mod_eq]
  by_cases h : y / 2 ^ k % 2 = 1
  · simp [h]
  · have : y / 2 ^ k % 2 = 0 := by omega
    simp [this]
theorem horner_succ (a b o : R) (k : Nat) : horner a b (k + 1) o = horner a b k (X o ^^^ (if b.getLsbD k then a else 0#40)) := rfl

theorem low40 (a : Int) : bits BinOp.and IntKind.u64 (IntKind.u64.wrap a) 1099511627775 = ((BitVec.ofInt 40 a).toNat : Int) := by
  obtain ⟨m, hm⟩ : ∃ m : Nat, a % 18446744073709551616 = (m : Int) := ⟨(a % 18446744073709551616).toNat, by omega⟩
  have hm2 : m < 18446744073709551616 := by omega
  rw [wrap_u64, hm, show (1099511627775 : Int) = ((1099511627775 : Nat) : Int) from rfl, u64_and_nat _ _ hm2 (by omega)]
  rw [show (1099511627775 : Nat) = 2 ^ 40 - 1 from rfl, Nat.and_two_pow_sub_one_eq_mod, BitVec.toNat_ofInt]
  have : (a % ((2 ^ 40 : Nat) : Int)) = ((m % 2 ^ 40 : Nat) : Int) := by omega
  rw [this, Int.toNat_natCast]
theorem xor_regs (a b : R) : wrap64 (bits BinOp.xor IntKind.u64 (a.toNat : Int) (b.toNat : Int)) = ((a ^^^ b).toNat : Int) := by
  have h1 := a.isLt
  have h2 := b.isLt
  rw [u64_xor_nat _ _ (by omega) (by omega), wrap64_small _ (by have := Nat.xor_lt_two_pow (n := 40) (x := a.toNat) (y := b.toNat) (by omega) (by omega); omega), BitVec.toNat_xor]
theorem xor_regs' (a b : R) : bits BinOp.xor IntKind.u64 (a.toNat : Int) (b.toNat : Int) = ((a ^^^ b).toNat : Int) := by
  have h1 := a.isLt
  have h2 := b.isLt
  rw [u64_xor_nat _ _ (by omega) (by omega), BitVec.toNat_xor]
/-- what Join returns -/
def joinV (a b n : Int) : Int := if n < 0 then 0 else ((Xn (8 * n.toNat) (BitVec.ofInt 40 a) ^^^ BitVec.ofInt 40 b).toNat : Int)
theorem X8 : (BitVec.ofNat 40 256) = Xn 8 1#40 := by decide
theorem odd_test (m : Nat) (hm : m < 9223372036854775808) : (bits BinOp.and IntKind.i64 (m : Int) 1 == 1) = decide (m % 2 = 1) := by
  have : bits BinOp.and IntKind.i64 (m : Int) 1 = ((m % 2 : Nat) : Int) := by
    unfold bits
    have e1 : BitVec.ofInt IntKind.i64.bits (m : Int) = BitVec.ofNat 64 m := BitVec.ofInt_natCast _ _
    have e2 : BitVec.ofInt IntKind.i64.bits 1 = BitVec.ofNat 64 1 := rfl
    simp only [e1, e2]
    have : (BitVec.ofNat 64 m &&& BitVec.ofNat 64 1).toNat = m % 2 := by
      rw [BitVec.toNat_and, BitVec.toNat_ofNat, BitVec.toNat_ofNat, Nat.mod_eq_of_lt (by omega : m < 2 ^ 64)]
      exact Nat.and_one_is_mod m
    show IntKind.i64.wrap ((BitVec.ofNat 64 m &&& BitVec.ofNat 64 1).toNat : Int) = _
    rw [this]
    rcases Nat.mod_two_eq_zero_or_one m with h | h <;> rw [h] <;> decide
  rw [this]
  rcases Nat.mod_two_eq_zero_or_one m with h | h <;> rw [h] <;> decide
theorem join_even (j m : Nat) (h : m % 2 = 0) (O : R) : Xn ((j + j) * (m / 2)) O = Xn (j * m) O := by
  have e : (j + j) * (m / 2) = j * m := by
    conv => rhs; rw [show m = 2 * (m / 2) from by omega]
    rw [← Nat.mul_assoc, Nat.add_mul, Nat.mul_two, Nat.add_mul]
  rw [e]
theorem join_odd (j m : Nat) (h : m % 2 = 1) (O : R) : Xn ((j + j) * (m / 2)) (mul O (Xn j 1#40)) = Xn (j * m) O := by
  rw [mul_pow, ← Xn_add]
  have e : (j + j) * (m / 2) + j = j * m := by
    conv => rhs; rw [show m = 2 * (m / 2) + 1 from by omega]
    rw [Nat.mul_add, ← Nat.mul_assoc, Nat.mul_two, Nat.mul_one]
  rw [e]
theorem join_pow (j : Nat) : mul (Xn j 1#40) (Xn j 1#40) = Xn (j + j) 1#40 := by rw [mul_pow, ← Xn_add]
end Go.Proofs.YtkkmkfkgmioblaaDoor
namespace Go.Proofs.YtkkmkfkgmioblaaDoor
open Go Go.RowKit Go.Lx CrcMath
attribute [local irreducible] Calls

set_option maxHeartbeats 1000000 in
theorem times_core (x y : Nat) (w0 : World) (hx : x < 1099511627776) (hy : y < 1099511627776) (hT : Tab w0) :
    Calls Tryd.prog 43 #[.int .u64 x, .int .u64 y] w0 fun e w' => e = .returned (reg (mul (BitVec.ofNat 40 x) (BitVec.ofNat 40 y))) ∧ w' = w0 := by
  go_enter Tryd.func43, Tryd.ntmps43
  go_wp2
  go_loop [5, 6] (fun o i => ∃ k z : Nat, k ≤ 40 ∧ z < 1099511627776 ∧ i = .int .i64 ((k : Int) - 1) ∧ o = .int .u64 z ∧ Hid (horner (BitVec.ofNat 40 x) (BitVec.ofNat 40 y) k (BitVec.ofNat 40 z) = mul (BitVec.ofNat 40 x) (BitVec.ofNat 40 y))) (fun _ i => ((intOf i) + 1).toNat)
  case atStart => exact ⟨40, 0, by omega, by omega, rfl, rfl, Lib.hid rfl⟩
  case round =>
    obtain ⟨k, z, hk, hz, rfl, rfl, H⟩ := hrel
    have hn : w0.cell? ⟨1, 1, none⟩ = some (.int .u64 75628553) := hT.nib 1 (by omega)
    have hbit : 1 ≤ k → Hid ((bits BinOp.and IntKind.u64 ((y : Int) / 2 ^ (k - 1)) 1 == 1) = (BitVec.ofNat 40 y).getLsbD (k - 1)) := fun h1 => Lib.hid (bit_test y (k - 1) hy (by omega))
    go_wp2
    · have h1 : 1 ≤ k := by have : (1 : Int) ≤ (k : Int) := by assumption
                            omega
      have h39 : (((z : Int) * 2) / 1099511627776 == 1) = true := by assumption
      have hb : (bits BinOp.and IntKind.u64 ((y : Int) / 2 ^ (k - 1)) 1 == 1) = true := by assumption
      obtain ⟨z1, hz1, e1, E1⟩ := X_high z hz h39
      obtain ⟨z2, hz2, e2, E2⟩ := xor_ofNat z1 x hz1 hx
      go_round
      case rel =>
        refine ⟨k - 1, z2, by omega, hz2, by go_num, by rw [e1, e2], ?_⟩
        have hh := H.out
        rw [show k = (k - 1) + 1 from by omega, horner_succ, ← (hbit h1).out, hb, if_pos rfl, E1, E2] at hh
        exact hh
      case measure => simp [intOf]; omega
    · have h1 : 1 ≤ k := by have : (1 : Int) ≤ (k : Int) := by assumption
                            omega
      have h39 : (((z : Int) * 2) / 1099511627776 == 1) = true := by assumption
      have hb : (bits BinOp.and IntKind.u64 ((y : Int) / 2 ^ (k - 1)) 1 == 1) = false := by assumption
      obtain ⟨z1, hz1, e1, E1⟩ := X_high z hz h39
      go_round
      case rel =>
        refine ⟨k - 1, z1, by omega, hz1, by go_num, by rw [e1], ?_⟩
        have hh := H.out
        rw [show k = (k - 1) + 1 from by omega, horner_succ, ← (hbit h1).out, hb, E1] at hh
        exact Lib.hid (by simpa using hh)
      case measure => simp [intOf]; omega
    · have h1 : 1 ≤ k := by have : (1 : Int) ≤ (k : Int) := by assumption
                            omega
      have h39 : (((z : Int) * 2) / 1099511627776 == 1) = false := by assumption
      have hb : (bits BinOp.and IntKind.u64 ((y : Int) / 2 ^ (k - 1)) 1 == 1) = true := by assumption
      obtain ⟨E1, hz1⟩ := X_low z hz h39
      obtain ⟨z2, hz2, e2, E2⟩ := xor_ofNat (z * 2) x hz1 hx
      go_round
      case rel =>
        refine ⟨k - 1, z2, by omega, hz2, by go_num, by rw [← e2]; rfl, ?_⟩
        have hh := H.out
        rw [show k = (k - 1) + 1 from by omega, horner_succ, ← (hbit h1).out, hb, if_pos rfl, E1, E2] at hh
        exact hh
      case measure => simp [intOf]; omega
    · have h1 : 1 ≤ k := by have : (1 : Int) ≤ (k : Int) := by assumption
                            omega
      have h39 : (((z : Int) * 2) / 1099511627776 == 1) = false := by assumption
      have hb : (bits BinOp.and IntKind.u64 ((y : Int) / 2 ^ (k - 1)) 1 == 1) = false := by assumption
      obtain ⟨E1, hz1⟩ := X_low z hz h39
      go_round
      case rel =>
        refine ⟨k - 1, z * 2, by omega, hz1, by go_num, rfl, ?_⟩
        have hh := H.out
        rw [show k = (k - 1) + 1 from by omega, horner_succ, ← (hbit h1).out, hb, E1] at hh
        exact Lib.hid (by simpa using hh)
      case measure => simp [intOf]; omega
    · have h1 : k = 0 := by have : (k : Int) < 1 := by assumption
                            omega
      go_ret
      refine ⟨?_, rfl⟩
      have hh := H.out
      rw [h1] at hh
      rw [← hh]
      show Ending.returned (.int .u64 z) = Ending.returned (.int .u64 ((BitVec.ofNat 40 z).toNat : Int))
      rw [BitVec.toNat_ofNat, Nat.mod_eq_of_lt hz]
theorem times_any (a b : R) (w0 : World) (hT : Tab w0) :
    Calls Tryd.prog 43 #[reg a, reg b] w0 fun e w' => e = .returned (reg (mul a b)) ∧ w' = w0 := by
  simpa using times_core a.toNat b.toNat w0 a.isLt b.isLt hT

set_option maxHeartbeats 1000000 in
theorem join_any (a b n : Int) (w0 : World) (hn : n < 9223372036854775808) (hT : Tab w0) :
    Calls Tryd.prog 26 #[.int .i64 a, .int .i64 b, .int .i64 n] w0 fun e w' => e = .returned (.int .i64 (joinV a b n)) ∧ w' = w0 := by
  by_cases hneg : n < 0
  · go_enter Tryd.func26, Tryd.ntmps26
    go_wp2
    go_ret
    exact ⟨by simp [joinV, hneg], rfl⟩
  · obtain ⟨N, rfl⟩ := Int.eq_ofNat_of_zero_le (show 0 ≤ n by omega)
    have hla := low40 a
    have hlb := low40 b
    have hfin : ∀ o : R, o = Xn (8 * N) (BitVec.ofInt 40 a) → wrap64 (bits BinOp.xor IntKind.u64 (o.toNat : Int) ((BitVec.ofInt 40 b).toNat : Int)) = joinV a b N := by
      intro o ho
      rw [xor_regs, ho]
      simp [joinV]; omega
    generalize BitVec.ofInt 40 a = A at hla hfin
    generalize BitVec.ofInt 40 b = B at hlb hfin
    have HF := Lib.hid hfin
    have HN := Lib.hid hn
    clear hfin hn
    go_enter Tryd.func26, Tryd.ntmps26
    go_wp2
    go_loop [2, 7, 8] (fun s o p => ∃ (m j : Nat) (O : R), m ≤ N ∧ s = .int .i64 m ∧ o = reg O ∧ p = reg (Xn j 1#40) ∧ Hid (Xn (j * m) O = Xn (8 * N) A)) (fun s _ _ => (intOf s).toNat)
    case atStart => exact ⟨N, 8, A, by omega, rfl, rfl, by rw [← X8]; rfl, Lib.hid rfl⟩
    case round =>
      obtain ⟨m, j, O, hm, rfl, rfl, rfl, H⟩ := hrel
      have hodd := odd_test m (by have := HN.out; omega)
      by_cases h0 : 0 < m
      · by_cases hpar : m % 2 = 1
        · have hb : (bits BinOp.and IntKind.i64 (m : Int) 1 == 1) = true := by rw [hodd]; simp [hpar]
          clear hodd
          have HP := Lib.hid hpar
          clear hpar
          go_wp2_with (go_at_call 43; refine (times_any _ _ _ hT).mono ?_; rintro e w' ⟨rfl, rfl⟩)
          go_round
          case rel => exact ⟨m / 2, j + j, mul O (Xn j 1#40), by omega, by go_num, rfl, by rw [join_pow], Lib.hid ((join_odd j m HP.out O).trans H.out)⟩
          case measure => simp [intOf]; omega
        · have hb : (bits BinOp.and IntKind.i64 (m : Int) 1 == 1) = false := by rw [hodd]; simp [hpar]
          clear hodd
          have HP := Lib.hid hpar
          clear hpar
          go_wp2_with (go_at_call 43; refine (times_any _ _ _ hT).mono ?_; rintro e w' ⟨rfl, rfl⟩)
          go_round
          case rel => exact ⟨m / 2, j + j, O, by omega, by go_num, rfl, by rw [join_pow], Lib.hid ((join_even j m (by have := HP.out; omega) O).trans H.out)⟩
          case measure => simp [intOf]; omega
      · go_wp2
        go_ret
        have hm0 : m = 0 := by omega
        have hh := H.out
        rw [hm0] at hh
        refine ⟨?_, rfl⟩
        rw [← HF.out O (by simpa [Xn] using hh)]
        rfl
end Go.Proofs.YtkkmkfkgmioblaaDoor
namespace Go.Proofs.YtkkmkfkgmioblaaDoor
open Go Go.RowKit Go.Lx CrcMath
attribute [local irreducible] Calls

/-- the value of ints -/
def intsV (l : List Int) : List Value := l.map fun n => .int .i64 n
theorem intsV_at (l : List Int) (j : Nat) (h : j < l.length) : (intsV l)[j]? = some (.int .i64 (l[j])) := by simp [intsV, h]
/-- the register behind the q lowest nibbles of a word -/
def wordT (r : R) (x : Int) : Nat → R
  | 0 => r
  | q + 1 => wordT (nib r (BitVec.ofInt 4 (x / 2 ^ (4 * q)))) x q
def wordsB (r : R) (l : List Int) : R := l.foldl (fun r x => wordT r x 10) r
theorem wordsB_snoc (r : R) (l : List Int) (x : Int) : wordsB r (l ++ [x]) = wordT (wordsB r l) x 10 := by
  unfold wordsB; rw [List.foldl_append]; rfl
theorem and15 (y : Int) : bits BinOp.and IntKind.i64 y 15 = y % 16 := by
  unfold bits
  have e2 : BitVec.ofInt IntKind.i64.bits 15 = BitVec.ofNat 64 15 := rfl
  have e3 : (BitVec.ofInt 64 y &&& BitVec.ofNat 64 15).toNat = (y % 16).toNat := by
    rw [BitVec.toNat_and, BitVec.toNat_ofInt, BitVec.toNat_ofNat, show 15 % 2 ^ 64 = 2 ^ 4 - 1 from rfl, Nat.and_two_pow_sub_one_eq_mod]
    omega
  show IntKind.i64.wrap ((BitVec.ofInt 64 y &&& BitVec.ofNat 64 15).toNat : Int) = _
  rw [e3, IntKind.wrap_i64]
  omega
theorem nib_arg (y : Int) : BitVec.ofNat 4 (y % 16).toNat = BitVec.ofInt 4 y := by
  apply BitVec.eq_of_toNat_eq
  rw [BitVec.toNat_ofNat, BitVec.toNat_ofInt]
  omega

set_option maxHeartbeats 1000000 in
theorem words_any (v : Value) (l : List Int) (w0 : World) (hR : Rd w0 v l.length 1 (intsV l)) (hl : l.length ≤ 9223372036854775807) (hT : Tab w0) :
    Calls Tryd.prog 23 #[v] w0 fun e w' => e = .returned (.int .i64 ((wordsB (BitVec.allOnes 40) l ^^^ BitVec.allOnes 40).toNat : Int)) ∧ Below w0.heap.size w0 w' := by
  obtain ⟨⟨a, cap, rfl, hcells⟩, -⟩ := hR
  have hL := Sees.refl w0
  go_enter Tryd.func23, Tryd.ntmps23
  go_wp2_with (first | (go_at_call 19; refine (beginCrc_any _).mono ?_; rintro e w ⟨rfl, hb⟩; replace hL := hL.call hb; clear hb) | (refine wpl_alloc hL rfl _ rfl _ z_crc ?_; clear hL; intro b w hL; simp only [Act.put, List.setIfInBounds_toArray, List.set_cons_succ, List.set_cons_zero]) | (refine wpl_strow hL rfl _ _ _ rfl _ rfl _ rfl _ s_crc _ rfl _ _ _ (by first | exact .here | exact .there .here | exact .there (.there .here) | exact .there (.there (.there .here)) | exact .there (.there (.there (.there .here))) | exact .pre (.here) | exact .pre (.there .here) | exact .pre (.there (.there .here))) (by repeat (first | exact all1_nil | refine all1_cons rfl ?_)) (by rfl) (by rfl) ?_; clear hL; intro w hL; simp only [Act.put, List.setIfInBounds_toArray, List.set_cons_succ, List.set_cons_zero]))
  obtain ⟨bc, rfl⟩ : ∃ bc, bc = b := ⟨_, rfl⟩
  go_loopw [10] (fun i wr => ∃ k : Nat, k ≤ l.length ∧ i = .int .i64 k ∧ Sees w0 wr [⟨bc, 30, [reg (wordsB (BitVec.allOnes 40) (l.take k))]⟩]) (fun i _ => l.length - (intOf i).toNat)
  case atStart => exact ⟨0, Nat.zero_le _, rfl, hL⟩
  case round =>
    clear hL
    obtain ⟨k, hk, rfl, hL⟩ := hrel
    generalize hR : wordsB (BitVec.allOnes 40) (l.take k) = R at hL
    have HR := Lib.hid hR
    clear hR
    by_cases hlt : k < l.length
    · obtain ⟨ad, rfl, hc⟩ := hcells (by intro h; have := congrArg List.length h; simp [intsV] at this; subst this; simp at hlt)
      have hc1 := hc k _ (intsV_at l k hlt)
      generalize hx : l[k] = x at hc1
      have HX := Lib.hid hx
      clear hx
      go_wp2_with (first | (refine wpl_run rfl (run_load_plain rfl p_int rfl (hL.old hc1)) ?_; simp only [Act.put, List.setIfInBounds_toArray, List.set_cons_succ, List.set_cons_zero]))
      go_loopw [6] (fun s wr' => ∃ (q : Nat) (R' : CrcMath.R) (S : Int), q ≤ 10 ∧ S = 4 * (q : Int) - 4 ∧ s = .int .i64 S ∧ Hid (wordT R' x q = wordT R x 10) ∧ Sees w0 wr' [⟨bc, 30, [reg R']⟩]) (fun s _ => ((intOf s) + 4).toNat)
      case atStart => exact ⟨10, R, 36, by omega, rfl, rfl, Lib.hid rfl, hL⟩
      case round =>
        clear hL
        obtain ⟨q, R', S, hq, hS, rfl, H, hL⟩ := hrel
        cases q with
        | zero =>
          have hneg : decide (S ≥ 0) = false := by simp; omega
          have hneg2 : decide (0 ≤ S) = false := by simp; omega
          go_wp2
          go_roundw
          case rel =>
            refine ⟨k + 1, by omega, by rfl, ?_⟩
            rw [show wordsB (BitVec.allOnes 40) (l.take (k + 1)) = R' from ?_]
            · exact hL
            · rw [List.take_succ_eq_append_getElem hlt, wordsB_snoc, HR.out, HX.out, ← H.out]; rfl
          case measure => simp [intOf]; omega
        | succ p =>
          have hpos : 0 ≤ S := by omega
          have hpd : decide (S ≥ 0) = true := by simp; omega
          have hpd2 : decide (0 ≤ S) = true := by simp; omega
          have hS' : S.toNat = 4 * p := by omega
          have hy := and15 (x / 2 ^ S.toNat)
          have hy2 : IntKind.u8.wrap (x / 2 ^ S.toNat % 16) = x / 2 ^ S.toNat % 16 := by rw [IntKind.wrap_u8]; omega
          have ey : x / 2 ^ (4 * p) = x / 2 ^ S.toNat := by rw [hS']
          generalize hyy : x / 2 ^ S.toNat = y at hy hy2 ey
          have hS40 : S ≤ 40 := by omega
          have HS := Lib.hid hS
          have HY := Lib.hid hyy
          have EY := Lib.hid ey
          clear hS hS' ey
          go_wp2
          refine wp_region_lex [(.calm, _), (.val, _), (.val, _), (.val, _), (.val, _), (.val, _), (.eff, _), (.eff, _)] rfl mixed (by kernel_rfl) ?_
          replace hL := hL.drew
          repeat (first | (refine wpLex_calm rfl _ (run_load_row hL rfl a_crc rfl (by first | exact .head _ | exact .tail _ (.head _) | exact .tail _ (.tail _ (.head _)) | exact .tail _ (.tail _ (.tail _ (.head _))) | exact .tail _ (.tail _ (.tail _ (.tail _ (.head _)))) | exact .tail _ (.tail _ (.tail _ (.tail _ (.tail _ (.head _))))) | exact List.mem_append_right _ (.head _) | exact List.mem_append_right _ (.tail _ (.head _)) | exact List.mem_append_right _ (.tail _ (.tail _ (.head _))) | exact List.mem_append_right _ (.tail _ (.tail _ (.tail _ (.head _)))) | exact .tail _ (List.mem_append_right _ (.head _)) | exact .tail _ (List.mem_append_right _ (.tail _ (.head _))) | exact .tail _ (List.mem_append_right _ (.tail _ (.tail _ (.head _)))) | exact .tail _ (List.mem_append_right _ (.tail _ (.tail _ (.tail _ (.head _))))) | exact .tail _ (.tail _ (List.mem_append_right _ (.head _))) | exact .tail _ (.tail _ (List.mem_append_right _ (.tail _ (.head _)))) | exact .tail _ (.tail _ (List.mem_append_right _ (.tail _ (.tail _ (.head _))))) | exact .tail _ (.tail _ (List.mem_append_right _ (.tail _ (.tail _ (.tail _ (.head _))))))) (by rfl)) ?_; simp only [Act.put, List.setIfInBounds_toArray, List.set_cons_succ, List.set_cons_zero]) | (refine x_call en_nibble rfl rfl rfl rfl (nibble_any _ _ _ (by omega) (by omega) (hT.since hL)) ?_; rintro e w ⟨rfl, hb⟩; refine ⟨_, rfl, ?_⟩; replace hL := hL.call hb; clear hb; simp only [Act.put, List.setIfInBounds_toArray, List.set_cons_succ, List.set_cons_zero]) | (refine x_strow hL rfl _ _ _ rfl _ rfl _ rfl _ s_crc _ rfl _ _ _ (by first | exact .here | exact .there .here | exact .there (.there .here) | exact .there (.there (.there .here)) | exact .there (.there (.there (.there .here))) | exact .pre (.here) | exact .pre (.there .here) | exact .pre (.there (.there .here))) (by repeat (first | exact all1_nil | refine all1_cons rfl ?_)) (by rfl) (by rfl) ?_; clear hL; intro w hL; simp only [Act.put, List.setIfInBounds_toArray, List.set_cons_succ, List.set_cons_zero]) | (refine wpLex_val rfl _ (fun w2 => by (go_simp; try rfl)) ?_; simp only [Act.put, List.setIfInBounds_toArray, List.set_cons_succ, List.set_cons_zero]) | (simp only [hyy, hy, hy2]; (refine x_call en_nibble rfl rfl rfl rfl (nibble_any _ _ _ (by omega) (by omega) (hT.since hL)) ?_; rintro e w ⟨rfl, hb⟩; refine ⟨_, rfl, ?_⟩; replace hL := hL.call hb; clear hb; simp only [Act.put, List.setIfInBounds_toArray, List.set_cons_succ, List.set_cons_zero])))
          refine wpLex_nil ?_
          go_wp2
          go_roundw
          case rel =>
            have hS := HS.out
            refine ⟨p, _, S - 4, by omega, by omega, by rfl, ?_, hL⟩
            rw [nib_arg]
            refine Lib.hid ?_
            rw [← H.out]
            show _ = wordT (nib R' (BitVec.ofInt 4 (x / 2 ^ (4 * p)))) x p
            rw [EY.out]
          case measure => have hS := HS.out; simp [intOf]; omega
    · have hk' : k = l.length := by omega
      subst hk'
      go_wp2_with (first | (refine wpl_run rfl (run_load_row hL rfl a_crc rfl (by first | exact .head _ | exact .tail _ (.head _) | exact .tail _ (.tail _ (.head _)) | exact .tail _ (.tail _ (.tail _ (.head _))) | exact .tail _ (.tail _ (.tail _ (.tail _ (.head _)))) | exact .tail _ (.tail _ (.tail _ (.tail _ (.tail _ (.head _))))) | exact List.mem_append_right _ (.head _) | exact List.mem_append_right _ (.tail _ (.head _)) | exact List.mem_append_right _ (.tail _ (.tail _ (.head _))) | exact List.mem_append_right _ (.tail _ (.tail _ (.tail _ (.head _)))) | exact .tail _ (List.mem_append_right _ (.head _)) | exact .tail _ (List.mem_append_right _ (.tail _ (.head _))) | exact .tail _ (List.mem_append_right _ (.tail _ (.tail _ (.head _)))) | exact .tail _ (List.mem_append_right _ (.tail _ (.tail _ (.tail _ (.head _))))) | exact .tail _ (.tail _ (List.mem_append_right _ (.head _))) | exact .tail _ (.tail _ (List.mem_append_right _ (.tail _ (.head _)))) | exact .tail _ (.tail _ (List.mem_append_right _ (.tail _ (.tail _ (.head _))))) | exact .tail _ (.tail _ (List.mem_append_right _ (.tail _ (.tail _ (.tail _ (.head _))))))) (by rfl)) ?_; simp only [Act.put, List.setIfInBounds_toArray, List.set_cons_succ, List.set_cons_zero]) | (go_at_call 22; refine (value_any _ _).mono ?_; rintro e w ⟨rfl, hb⟩; replace hL := hL.call hb; clear hb))
      go_ret
      refine ⟨?_, hL.below⟩
      have := HR.out
      rw [List.take_length] at this
      rw [this]
      show Ending.returned (Value.int IntKind.i64 ((BitVec.toNat R ^^^ 1099511627775 : Nat) : Int)) = _
      rw [BitVec.toNat_xor]
      rfl
end Go.Proofs.YtkkmkfkgmioblaaDoor
/- The specification's check: step and Crc40. -/
namespace Go.Proofs.YtkkmkfkgmioblaaDoor
open Go Go.RowKit Go.Lx CrcMath
attribute [local irreducible] Calls

theorem msb_and (x : Nat) (h : x < 1099511627776) : bits BinOp.and IntKind.u64 ((x : Int) / 549755813888) 1 = (((BitVec.ofNat 40 x).getLsbD 39).toNat : Int) := by
  rw [show (x : Int) / 549755813888 = ((x / 549755813888 : Nat) : Int) from by omega, show (1 : Int) = ((1 : Nat) : Int) from rfl, bits_nat_u64 .and _ _ (by omega) (by decide)]
  congr 1
  have e : (BitVec.ofNat 40 x).getLsbD 39 = decide (549755813888 ≤ x) := by
    rw [BitVec.getLsbD_ofNat]
    simp only [Nat.testBit_eq_decide_div_mod_eq, show (39 : Nat) < 40 from by decide, decide_true, Bool.true_and]
    congr 1
    apply propext
    constructor <;> intro h <;> omega
  rw [e]
  simp only [BitVec.toNat_and, BitVec.toNat_ofNat]
  rw [Nat.mod_eq_of_lt (show x / 549755813888 < 2 ^ 64 by omega), show 1 % 2 ^ 64 = 2 ^ 1 - 1 from rfl, Nat.and_two_pow_sub_one_eq_mod]
  by_cases h2 : 549755813888 ≤ x
  · simp only [h2, decide_true, Bool.toNat_true]; omega
  · simp only [h2, decide_false, Bool.toNat_false]; omega
theorem bool_xor (a b : Bool) : bits BinOp.xor IntKind.u64 (a.toNat : Int) (b.toNat : Int) = ((a ^^ b).toNat : Int) := by
  cases a <;> cases b <;> decide
theorem shl_and (x : Nat) (h : x < 1099511627776) : bits BinOp.and IntKind.u64 ((x : Int) * 2) 1099511627775 = ((BitVec.ofNat 40 x <<< 1).toNat : Int) := by
  rw [show (x : Int) * 2 = ((x * 2 : Nat) : Int) from by omega, show (1099511627775 : Int) = ((1099511627775 : Nat) : Int) from rfl, bits_nat_u64 .and _ _ (by omega) (by decide)]
  congr 1
  rw [BitVec.toNat_and, BitVec.toNat_shiftLeft, BitVec.toNat_ofNat, BitVec.toNat_ofNat, BitVec.toNat_ofNat, Nat.shiftLeft_eq, Nat.mod_eq_of_lt (show x * 2 < 2 ^ 64 by omega), Nat.mod_eq_of_lt (show x < 2 ^ 40 by omega), show 1099511627775 % 2 ^ 64 = 2 ^ 40 - 1 from rfl, Nat.and_two_pow_sub_one_eq_mod]
theorem xor_poly (r : R) : bits BinOp.xor IntKind.u64 (r.toNat : Int) 75628553 = ((r ^^^ poly).toNat : Int) := by
  have := r.isLt
  rw [show (75628553 : Int) = ((75628553 : Nat) : Int) from rfl, bits_nat_u64 .xor _ _ (by omega) (by decide)]
  congr 1
  rw [BitVec.toNat_xor, BitVec.toNat_xor, BitVec.toNat_ofNat, BitVec.toNat_ofNat, Nat.mod_eq_of_lt (show r.toNat < 2 ^ 64 by omega)]
  rfl

set_option maxHeartbeats 400000 in
theorem step_core (x : Nat) (b : Bool) (w0 : World) (hx : x < 1099511627776) :
    Calls Tryd.prog 40 #[.int .u64 x, .int .u64 (b.toNat : Int)] w0 fun e w' => e = .returned (reg (CrcMath.step (BitVec.ofNat 40 x) b)) ∧ w' = w0 := by
  have h1 := msb_and x hx
  have h2 := bool_xor ((BitVec.ofNat 40 x).getLsbD 39) b
  have h3 := shl_and x hx
  have h4 := xor_poly (BitVec.ofNat 40 x <<< 1)
  have hs : Hid (CrcMath.step (BitVec.ofNat 40 x) b = (BitVec.ofNat 40 x <<< 1) ^^^ (if ((BitVec.ofNat 40 x).getLsbD 39 ^^ b) then poly else 0#40)) := Lib.hid rfl
  generalize BitVec.ofNat 40 x <<< 1 = N at h3 h4 hs
  generalize (BitVec.ofNat 40 x).getLsbD 39 = p at h1 h2 hs
  generalize hP : (N ^^^ poly).toNat = P at h4
  have HP := Lib.hid hP
  clear hP
  generalize hp : (p ^^ b) = c at h2 hs
  clear hp
  generalize p.toNat = pn at h1 h2
  generalize b.toNat = bn at h2
  generalize hN : N.toNat = M at h3 h4
  have HN := Lib.hid hN
  clear hN
  cases c
  · simp only [Bool.toNat_false] at h2
    go_enter Tryd.func40, Tryd.ntmps40
    go_wp2
    go_ret
    refine ⟨?_, rfl⟩
    rw [hs.out]
    show Ending.returned (.int .u64 (M : Nat)) = _
    rw [← HN.out]
    simp
  · simp only [Bool.toNat_true] at h2
    go_enter Tryd.func40, Tryd.ntmps40
    go_wp2
    go_ret
    refine ⟨?_, rfl⟩
    rw [hs.out]
    show Ending.returned (.int .u64 (P : Nat)) = _
    rw [← HP.out]
    simp
theorem step_any (r : R) (b : Bool) (w0 : World) :
    Calls Tryd.prog 40 #[reg r, .int .u64 (b.toNat : Int)] w0 fun e w' => e = .returned (reg (CrcMath.step r b)) ∧ w' = w0 := by
  simpa using step_core r.toNat b w0 r.isLt
theorem en_step : enterable Tryd.prog 40 = true := by kernel_rfl

/-- the register behind the q highest bits of a byte -/
def bitsB (c : UInt8) (q : Nat) : List Bool := (List.range q).map fun i => c.toNat.testBit (7 - i)
def runB (r : R) (l : List UInt8) : R := l.foldl (fun r c => CrcMath.run r (bitsB c 8)) r
theorem runB_snoc (r : R) (l : List UInt8) (c : UInt8) : runB r (l ++ [c]) = CrcMath.run (runB r l) (bitsB c 8) := by unfold runB; rw [List.foldl_append]; rfl
theorem bitsB_snoc (c : UInt8) (q : Nat) : bitsB c (q + 1) = bitsB c q ++ [c.toNat.testBit (7 - q)] := by unfold bitsB; rw [List.range_succ, List.map_append]; rfl
theorem bit_val (c : UInt8) (q : Nat) : bits BinOp.and IntKind.u64 ((c.toNat : Int) / 2 ^ (7 - q)) 1 = ((c.toNat.testBit (7 - q)).toNat : Int) := by
  have hc := c.toNat_lt
  have hd : c.toNat / 2 ^ (7 - q) ≤ c.toNat := Nat.div_le_self _ _
  rw [show (c.toNat : Int) / 2 ^ (7 - q) = ((c.toNat / 2 ^ (7 - q) : Nat) : Int) from by norm_cast, show (1 : Int) = ((1 : Nat) : Int) from rfl, bits_nat_u64 .and _ _ (by omega) (by decide)]
  congr 1
  rw [BitVec.toNat_and, BitVec.toNat_ofNat, BitVec.toNat_ofNat, Nat.mod_eq_of_lt (show c.toNat / 2 ^ (7 - q) < 2 ^ 64 by omega), show 1 % 2 ^ 64 = 2 ^ 1 - 1 from rfl, Nat.and_two_pow_sub_one_eq_mod, Nat.testBit_eq_decide_div_mod_eq]
  have := Nat.mod_two_eq_zero_or_one (c.toNat / 2 ^ (7 - q))
  rcases this with h | h
  · rw [show 2 ^ 1 = 2 from rfl, h]; rfl
  · rw [show 2 ^ 1 = 2 from rfl, h]; rfl

set_option maxHeartbeats 1000000 in
theorem refcrc_any (v : Value) (l : List UInt8) (w0 : World) (hR : Rd w0 v l.length 1 (bytesV l)) (hl : l.length ≤ 9223372036854775807) :
    Calls Tryd.prog 17 #[v] w0 fun e w' => e = .returned (.int .i64 ((runB (BitVec.allOnes 40) l ^^^ BitVec.allOnes 40).toNat : Int)) ∧ w' = w0 := by
  obtain ⟨⟨a, cap, rfl, hcells⟩, -⟩ := hR
  have hL := Sees.refl w0
  go_enter Tryd.func17, Tryd.ntmps17
  go_wp2
  go_loopw [3, 4] (fun r i wr => ∃ k : Nat, k ≤ l.length ∧ i = .int .i64 k ∧ r = reg (runB (BitVec.allOnes 40) (l.take k)) ∧ w0 = wr) (fun _ i _ => l.length - (intOf i).toNat)
  case atStart => exact ⟨0, Nat.zero_le _, rfl, rfl, rfl⟩
  case round =>
    obtain ⟨k, hk, rfl, rfl, rfl⟩ := hrel
    generalize hr : runB (BitVec.allOnes 40) (l.take k) = r
    have HR := Lib.hid hr
    clear hr
    by_cases hlt : k < l.length
    · obtain ⟨ad, rfl, hcc⟩ := hcells (by intro h; have := congrArg List.length h; simp [bytesV] at this; subst this; simp at hlt)
      have hc1 := hcc k _ (bytesV_at l k hlt)
      generalize hx : l[k] = c at hc1
      have HX := Lib.hid hx
      clear hx
      go_wp2
      go_loopw [3, 5] (fun r' i wr => ∃ q : Nat, q ≤ 8 ∧ i = .int .i64 q ∧ r' = reg (CrcMath.run r (bitsB c q)) ∧ w0 = wr) (fun _ i _ => 8 - (intOf i).toNat)
      case atStart => exact ⟨0, Nat.zero_le _, rfl, rfl, rfl⟩
      case round =>
        obtain ⟨q, hq, rfl, rfl, rfl⟩ := hrel
        generalize hr : CrcMath.run r (bitsB c q) = r'
        have HR' := Lib.hid hr
        clear hr
        by_cases hq8 : q < 8
        · have hb := bit_val c q
          obtain ⟨S, hS0, hS1, HS⟩ : ∃ S : Int, 0 ≤ S ∧ S ≤ 7 ∧ Hid (S = 7 - (q : Int)) := ⟨7 - (q : Int), by omega, by omega, Lib.hid rfl⟩
          have eS : (7 : Int) - (q : Int) = S := HS.out.symm
          rw [show 7 - q = S.toNat from by rw [HS.out]; omega] at hb
          generalize hbb : c.toNat.testBit S.toNat = b at hb
          have HB := Lib.hid hbb
          clear hbb
          have hcl := c.toNat_lt
          go_wp2_with (first | (refine wpl_run rfl (run_load_plain rfl p_u8 rfl (hL.old hc1)) ?_; simp only [Act.put, List.setIfInBounds_toArray, List.set_cons_succ, List.set_cons_zero]) | (go_at_call 40; refine (step_any r' b _).mono ?_; rintro e w ⟨rfl, rfl⟩))
          refine ⟨⟨q + 1, by omega, rfl, ?_, by trivial⟩, ?_⟩
          · rw [bitsB_snoc, CrcMath.run_append, HR'.out, show 7 - q = S.toNat from by rw [HS.out]; omega, HB.out]; rfl
          · simp [intOf]; omega
        · obtain rfl : q = 8 := by omega
          go_wp2
          refine ⟨⟨k + 1, by omega, rfl, ?_, by trivial⟩, ?_⟩
          · rw [List.take_succ_eq_append_getElem hlt, runB_snoc, HR.out, HX.out, HR'.out]
          · simp [intOf]; omega
    · obtain rfl : k = l.length := by omega
      have hv := value_val r.toNat r.isLt
      go_wp2
      go_ret
      refine ⟨?_, rfl⟩
      have e := HR.out
      rw [List.take_length] at e
      rw [e]
      show Ending.returned (.int .i64 (wrap64 (bits BinOp.xor IntKind.u64 (r.toNat : Int) 1099511627775))) = _
      rw [hv]
      simp
theorem en_refcrc : enterable Tryd.prog 17 = true := by kernel_rfl
end Go.Proofs.YtkkmkfkgmioblaaDoor
/- The check on bit vectors: bytes as bits; joins; exclusive or; words. -/
namespace Go.Proofs.YtkkmkfkgmioblaaDoor
open Go Go.RowKit Go.Lx CrcMath

/-- the bits of bytes -/
def bitsOf (l : List UInt8) : List Bool := l.flatMap fun c => bitsB c 8
theorem bitsB_len (c : UInt8) (q : Nat) : (bitsB c q).length = q := by simp [bitsB]
theorem bitsOf_len (l : List UInt8) : (bitsOf l).length = 8 * l.length := by
  induction l with
  | nil => rfl
  | cons c l ih => unfold bitsOf at *; rw [List.flatMap_cons, List.length_append, bitsB_len, ih, List.length_cons]; omega
theorem bitsOf_append (l m : List UInt8) : bitsOf (l ++ m) = bitsOf l ++ bitsOf m := by unfold bitsOf; rw [List.flatMap_append]
theorem runB_bits (r : R) (l : List UInt8) : runB r l = CrcMath.run r (bitsOf l) := by
  induction l generalizing r with
  | nil => rfl
  | cons c l ih =>
    show runB (CrcMath.run r (bitsB c 8)) l = _
    rw [ih, ← CrcMath.run_append]; rfl
theorem getLsb4 (n k : Nat) (h : k < 4) : (BitVec.ofNat 4 n).getLsbD k = n.testBit k := by
  rw [BitVec.getLsbD_ofNat]; simp [h]
theorem nib2 (r : R) (c : UInt8) : nib (nib r (BitVec.ofNat 4 (c.toNat / 16))) (BitVec.ofNat 4 c.toNat) = CrcMath.run r (bitsB c 8) := by
  rw [nib_eq, nib_eq]
  unfold steps4
  simp only [getLsb4 _ _ (show 3 < 4 by decide), getLsb4 _ _ (show 2 < 4 by decide), getLsb4 _ _ (show 1 < 4 by decide), getLsb4 _ _ (show 0 < 4 by decide)]
  have e : ∀ k, (c.toNat / 16).testBit k = c.toNat.testBit (4 + k) := fun k => by
    rw [show (16 : Nat) = 2 ^ 4 from rfl, ← Nat.shiftRight_eq_div_pow, Nat.testBit_shiftRight]
  rw [e, e, e, e]
  rfl
theorem addB_runB (r : R) (l : List UInt8) : addB r l = runB r l := by
  unfold addB runB
  congr 1
  funext r c
  exact nib2 r c
theorem crcB_bits (l : List UInt8) : crcB l = CrcMath.run (BitVec.allOnes 40) (bitsOf l) ^^^ BitVec.allOnes 40 := by
  unfold crcB; rw [addB_runB, runB_bits]
/-- the check of a concatenation -/
theorem crcB_append (l m : List UInt8) : crcB (l ++ m) = Xn (8 * m.length) (crcB l) ^^^ crcB m := by
  rw [crcB_bits, crcB_bits, crcB_bits, bitsOf_append, CrcMath.run_append, run_split (bitsOf m) (CrcMath.run _ _), run_split (bitsOf m) (BitVec.allOnes 40), bitsOf_len, Xn_xor]
  generalize Xn (8 * m.length) (CrcMath.run (BitVec.allOnes 40) (bitsOf l)) = A
  generalize Xn (8 * m.length) (BitVec.allOnes 40) = B
  generalize CrcMath.run 0#40 (bitsOf m) = C
  generalize BitVec.allOnes 40 = D
  rw [show A ^^^ B ^^^ (B ^^^ C ^^^ D) = A ^^^ (B ^^^ B) ^^^ C ^^^ D from by ac_rfl, BitVec.xor_self, BitVec.xor_zero]
theorem ofInt_toNat40 (r : R) : BitVec.ofInt 40 (r.toNat : Int) = r := by
  rw [BitVec.ofInt_natCast]; simp
theorem joinV_regs (a b : R) (n : Nat) : joinV (a.toNat : Int) (b.toNat : Int) (n : Int) = ((Xn (8 * n) a ^^^ b).toNat : Int) := by
  unfold joinV
  rw [if_neg (by omega), ofInt_toNat40, ofInt_toNat40, Int.toNat_natCast]
theorem crcB_join (l m : List UInt8) : joinV ((crcB l).toNat : Int) ((crcB m).toNat : Int) (m.length : Int) = ((crcB (l ++ m)).toNat : Int) := by
  rw [joinV_regs, crcB_append]
/-- i64: exclusive or of registers -/
theorem xor_i64 (a b : R) : bits BinOp.xor IntKind.i64 (a.toNat : Int) (b.toNat : Int) = ((a ^^^ b).toNat : Int) := by
  have h1 := a.isLt
  have h2 := b.isLt
  unfold bits
  have e1 : BitVec.ofInt IntKind.i64.bits ((a.toNat : Nat) : Int) = BitVec.ofNat 64 a.toNat := BitVec.ofInt_natCast _ _
  have e2 : BitVec.ofInt IntKind.i64.bits ((b.toNat : Nat) : Int) = BitVec.ofNat 64 b.toNat := BitVec.ofInt_natCast _ _
  simp only [e1, e2]
  have e3 : (BitVec.ofNat 64 a.toNat ^^^ BitVec.ofNat 64 b.toNat).toNat = (a ^^^ b).toNat := by
    rw [BitVec.toNat_xor, BitVec.toNat_xor, BitVec.toNat_ofNat, BitVec.toNat_ofNat, Nat.mod_eq_of_lt (show a.toNat < 2 ^ 64 by omega), Nat.mod_eq_of_lt (show b.toNat < 2 ^ 64 by omega)]
  show IntKind.i64.wrap ((BitVec.ofNat 64 a.toNat ^^^ BitVec.ofNat 64 b.toNat).toNat : Int) = _
  rw [e3, IntKind.wrap_i64]
  have := (a ^^^ b).isLt
  omega
theorem and_i64 (a : Int) : bits BinOp.and IntKind.i64 a 1099511627775 = ((BitVec.ofInt 40 a).toNat : Int) := by
  unfold bits
  have e2 : BitVec.ofInt IntKind.i64.bits 1099511627775 = BitVec.ofNat 64 1099511627775 := rfl
  have e3 : (BitVec.ofInt 64 a &&& BitVec.ofNat 64 1099511627775).toNat = (BitVec.ofInt 40 a).toNat := by
    rw [BitVec.toNat_and, BitVec.toNat_ofInt, BitVec.toNat_ofNat, BitVec.toNat_ofInt, show 1099511627775 % 2 ^ 64 = 2 ^ 40 - 1 from rfl, Nat.and_two_pow_sub_one_eq_mod]
    omega
  simp only [e2]
  show IntKind.i64.wrap ((BitVec.ofInt 64 a &&& BitVec.ofNat 64 1099511627775).toNat : Int) = _
  rw [e3, IntKind.wrap_i64]
  have := (BitVec.ofInt 40 a).isLt
  omega
end Go.Proofs.YtkkmkfkgmioblaaDoor
