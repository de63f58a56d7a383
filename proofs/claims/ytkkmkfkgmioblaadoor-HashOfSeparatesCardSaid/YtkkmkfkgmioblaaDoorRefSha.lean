/- The specification's SHA-256: rotation, the schedule of a block. -/
import Derived.Test.YtkkmkfkgmioblaaDoorSha
set_option linter.unusedVariables false
set_option linter.unusedSimpArgs false
namespace Go.Proofs.YtkkmkfkgmioblaaDoor
open Go Go.RowKit Go.Lx
attribute [local irreducible] Calls

theorem w32_mod (a : BitVec 32) : w32 a % (4294967296 : Int) = w32 a := by have := w32_lo a; have := w32_hi a; omega
theorem w32_shl24m (a : BitVec 32) : w32 a * (16777216 : Int) % (4294967296 : Int) = w32 (a <<< 24) := w32_shlm a 24
theorem w32_shl16m (a : BitVec 32) : w32 a * (65536 : Int) % (4294967296 : Int) = w32 (a <<< 16) := w32_shlm a 16
theorem w32_wrap (a : BitVec 32) : IntKind.u32.wrap (w32 a) = w32 a := by rw [wrap_u32, w32_mod]
theorem w32_shl24 (a : BitVec 32) : IntKind.u32.wrap (w32 a * (16777216 : Int)) = w32 (a <<< 24) := w32_shl a 24
theorem w32_shl16 (a : BitVec 32) : IntKind.u32.wrap (w32 a * (65536 : Int)) = w32 (a <<< 16) := w32_shl a 16
theorem en_refrotr : enterable Tryd.prog 46 = true := by kernel_rfl
set_option maxHeartbeats 400000 in
theorem refrotr_any (x : BitVec 32) (k : Nat) (w0 : World) (h1 : 1 ≤ k) (h2 : k ≤ 31) :
    Calls Tryd.prog 46 #[W32 x, .int .i64 k] w0 fun e w' => e = .returned (W32 (rotr x k)) ∧ Below w0.heap.size w0 w' := by
  have hL := Sees.refl w0
  obtain ⟨K, hK0, hK1, HK⟩ : ∃ K : Int, 0 ≤ K ∧ K ≤ 31 ∧ Hid (K = (k : Int)) := ⟨k, by omega, by omega, Lib.hid rfl⟩
  rw [← HK.out]
  obtain ⟨M, hM0, hM1, HM⟩ : ∃ M : Int, 0 ≤ M ∧ M ≤ 31 ∧ Hid (M = 32 - (k : Int)) := ⟨32 - k, by omega, by omega, Lib.hid rfl⟩
  have eM : (32 : Int) - K = M := by rw [HM.out, HK.out]
  have eMw : IntKind.i64.wrap M = M := by rw [IntKind.wrap_i64]; omega
  go_enter Tryd.func46, Tryd.ntmps46
  go_wp2
  refine wp_region_lex [(.val, _), (.val, _), (.val, _), (.val, _), (.val, _), (.val, _), (.val, _), (.val, _), (.val, _)] rfl mixed (by kernel_rfl) ?_
  replace hL := hL.drew
  repeat (refine wpLex_val rfl _ (fun w2 => by (go_simp; try rfl)) ?_; simp only [Act.put, List.setIfInBounds_toArray, List.set_cons_succ, List.set_cons_zero])
  refine wpLex_nil ?_
  go_wp2
  go_ret
  refine ⟨?_, hL.below⟩
  show Ending.returned (.int .u32 (bits BinOp.or IntKind.u32 (w32 x / 2 ^ K.toNat) (w32 x * 2 ^ M.toNat % 4294967296))) = _
  rw [w32_shlm, w32_shr, w32_or, show K.toNat = k from by rw [HK.out]; omega, show M.toNat = 32 - k from by rw [HM.out]; omega]
  rfl

/-- the byte at i, as a word -/
def byteW (bs : List UInt8) (i : Nat) : BitVec 32 := BitVec.ofNat 32 (bs.getD i 0).toNat
theorem byteW_at (bs : List UInt8) (i : Nat) (h : i < bs.length) : (bytesV bs)[i]? = some (.int .u8 (w32 (byteW bs i))) := by
  rw [bytesV_at bs i h]
  unfold byteW
  rw [List.getD_eq_getElem?_getD, List.getElem?_eq_getElem h, Option.getD_some, ← w32_u8]
theorem word4_four (bs : List UInt8) (t : Nat) : word4 bs t 4 = byteW bs (4 * t) <<< 24 ||| byteW bs (4 * t + 1) <<< 16 ||| byteW bs (4 * t + 2) <<< 8 ||| byteW bs (4 * t + 3) := by
  show (((0 <<< 8 ||| byteW bs (4 * t + 0)) <<< 8 ||| byteW bs (4 * t + 1)) <<< 8 ||| byteW bs (4 * t + 2)) <<< 8 ||| byteW bs (4 * t + 3) = _
  rw [Nat.add_zero]
  generalize byteW bs (4 * t) = a
  generalize byteW bs (4 * t + 1) = b
  generalize byteW bs (4 * t + 2) = c
  simp only [BitVec.shiftLeft_or_distrib, ← BitVec.shiftLeft_add]
  simp
theorem en_refwords : enterable Tryd.prog 45 = true := by kernel_rfl
set_option maxHeartbeats 4000000 in
theorem refwords_any (ad : Addr) (cap : Nat) (bs : List UInt8) (w0 : World) (hlen : bs.length = 64) (hcap : 64 ≤ cap) (hc : ∀ j x, (bytesV bs)[j]? = some x → w0.cell? (ad.add j) = some x) :
    Calls Tryd.prog 45 #[.slice (some ad) 64 cap] w0 fun e w' => e = .returned (.agg (rowF 64 fun j => W32 (wv bs j)).toArray) ∧ Below w0.heap.size w0 w' := by
  have hL := Sees.refl w0
  go_enter Tryd.func45, Tryd.ntmps45
  go_wp2_with (first | (refine wpl_alloc hL rfl _ rfl _ z_w ?_; clear hL; intro b w hL; simp only [Act.put, List.setIfInBounds_toArray, List.set_cons_succ, List.set_cons_zero]))
  rename_i br _ _ _
  obtain ⟨bw, rfl⟩ : ∃ bw, bw = b := ⟨_, rfl⟩
  go_loopw [4] (fun i wr => ∃ (t : Nat) (f : Nat → BitVec 32), t ≤ 16 ∧ i = .int .i64 t ∧ Hid (∀ j, f j = if j < t then wv bs j else 0) ∧ Sees w0 wr [⟨bw, 73, rowF 64 fun j => W32 (f j)⟩, ⟨br, 73, rowF 64 fun _ => W32 0⟩]) (fun i _ => 16 - (intOf i).toNat)
  case atStart => exact ⟨0, fun _ => 0, Nat.zero_le _, rfl, Lib.hid (fun j => by simp), hL⟩
  case round =>
    clear hL
    obtain ⟨t, f, ht, rfl, hf, hL⟩ := hrel
    by_cases hlt : t < 16
    · obtain ⟨m0, hm0, H0⟩ : ∃ m : Nat, (m : Int) < 64 ∧ Hid (m = 4 * t) := ⟨4 * t, by omega, Lib.hid rfl⟩
      obtain ⟨m1, hm1, H1⟩ : ∃ m : Nat, (m : Int) < 64 ∧ Hid (m = 4 * t + 1) := ⟨4 * t + 1, by omega, Lib.hid rfl⟩
      obtain ⟨m2, hm2, H2⟩ : ∃ m : Nat, (m : Int) < 64 ∧ Hid (m = 4 * t + 2) := ⟨4 * t + 2, by omega, Lib.hid rfl⟩
      obtain ⟨m3, hm3, H3⟩ : ∃ m : Nat, (m : Int) < 64 ∧ Hid (m = 4 * t + 3) := ⟨4 * t + 3, by omega, Lib.hid rfl⟩
      have hb0 := hc m0 _ (byteW_at bs m0 (by omega))
      have hb1 := hc m1 _ (byteW_at bs m1 (by omega))
      have hb2 := hc m2 _ (byteW_at bs m2 (by omega))
      have hb3 := hc m3 _ (byteW_at bs m3 (by omega))
      have e0 : IntKind.i64.wrap (4 * (t : Int)) = (m0 : Int) := by rw [H0.out, IntKind.wrap_i64]; omega
      have e1 : IntKind.i64.wrap ((m0 : Int) + 1) = (m1 : Int) := by rw [H0.out, H1.out, IntKind.wrap_i64]; omega
      have e2 : IntKind.i64.wrap ((m0 : Int) + 2) = (m2 : Int) := by rw [H0.out, H2.out, IntKind.wrap_i64]; omega
      have e3 : IntKind.i64.wrap ((m0 : Int) + 3) = (m3 : Int) := by rw [H0.out, H3.out, IntKind.wrap_i64]; omega
      have ht64 : t < 64 := by omega
      have ht64i : (t : Int) < 64 := by omega
      have HW : Hid (wv bs t = byteW bs m0 <<< 24 ||| byteW bs m1 <<< 16 ||| byteW bs m2 <<< 8 ||| byteW bs m3) := Lib.hid (by rw [wv_low bs t hlt, word4_four, H0.out, H1.out, H2.out, H3.out])
      generalize byteW bs m0 = X0 at *
      generalize byteW bs m1 = X1 at *
      generalize byteW bs m2 = X2 at *
      generalize byteW bs m3 = X3 at *
      go_wp2
      refine wp_region_lex [(.val, _), (.val, _), (.val, _), (.val, _), (.val, _), (.calm, _), (.val, _), (.val, _), (.val, _), (.val, _), (.val, _), (.val, _), (.val, _), (.calm, _), (.val, _), (.val, _), (.val, _), (.val, _), (.val, _), (.val, _), (.val, _), (.val, _), (.calm, _), (.val, _), (.val, _), (.val, _), (.val, _), (.val, _), (.val, _), (.val, _), (.val, _), (.calm, _), (.val, _), (.val, _), (.val, _), (.eff, _)] rfl mixed (by kernel_rfl) ?_
      replace hL := hL.drew
      repeat (first | (refine wpLex_calm rfl _ (run_load_plain rfl p_u8 rfl (hL.old hb0)) ?_; simp only [Act.put, List.setIfInBounds_toArray, List.set_cons_succ, List.set_cons_zero]) | (refine wpLex_calm rfl _ (run_load_plain rfl p_u8 rfl (hL.old hb1)) ?_; simp only [Act.put, List.setIfInBounds_toArray, List.set_cons_succ, List.set_cons_zero]) | (refine wpLex_calm rfl _ (run_load_plain rfl p_u8 rfl (hL.old hb2)) ?_; simp only [Act.put, List.setIfInBounds_toArray, List.set_cons_succ, List.set_cons_zero]) | (refine wpLex_calm rfl _ (run_load_plain rfl p_u8 rfl (hL.old hb3)) ?_; simp only [Act.put, List.setIfInBounds_toArray, List.set_cons_succ, List.set_cons_zero]) | (refine x_set1 hL rfl _ _ _ rfl _ _ rfl _ rfl s_u32 rfl rfl _ _ _ _ (by first | exact .here | exact .there .here | exact .there (.there .here) | exact .there (.there (.there .here)) | exact .there (.there (.there (.there .here))) | exact .pre (.here) | exact .pre (.there .here) | exact .pre (.there (.there .here))) (by rw [rowF_len]; exact ht64) (rowF_set 64 _ (fun j => W32 (if j = t then wv bs t else f j)) t _ ht64 (by simp only [if_true]; exact congrArg W32 HW.out) (fun j _ hne => by simp only [if_neg hne])) ?_; clear hL; intro w hL; simp only [Act.put, List.setIfInBounds_toArray, List.set_cons_succ, List.set_cons_zero]) | (refine wpLex_val rfl _ (fun w2 => by (go_simp; (try simp only [w32_wrap, w32_shl24, w32_shl16, w32_shl8, w32_or]); (try rfl))) ?_; simp only [Act.put, List.setIfInBounds_toArray, List.set_cons_succ, List.set_cons_zero]))
      refine wpLex_nil ?_
      go_wp2
      go_roundw
      case rel =>
        refine ⟨t + 1, fun j => if j = t then wv bs t else f j, by omega, by rfl, Lib.hid (fun j => ?_), hL⟩
        by_cases h : j = t
        · simp only [if_pos h]; rw [if_pos (by omega), h]
        · simp only [if_neg h]; rw [hf.out j]
          by_cases h2 : j < t
          · rw [if_pos h2, if_pos (by omega)]
          · rw [if_neg h2, if_neg (by omega)]
      case measure => simp [intOf]; omega
    · obtain rfl : t = 16 := by omega
      go_wp2
      go_loopw [5, 6, 7] (fun i _ _ wr => ∃ (t : Nat) (f : Nat → BitVec 32), t ≤ 64 ∧ 16 ≤ t ∧ i = .int .i64 t ∧ Hid (∀ j, f j = if j < t then wv bs j else 0) ∧ Sees w0 wr [⟨bw, 73, rowF 64 fun j => W32 (f j)⟩, ⟨br, 73, rowF 64 fun _ => W32 0⟩]) (fun i _ _ _ => 64 - (intOf i).toNat)
      case atStart => exact ⟨16, f, by omega, by omega, rfl, hf, hL⟩
      case round =>
        clear hL
        obtain ⟨t, f, ht, h16, rfl, hf, hL⟩ := hrel
        by_cases hlt : t < 64
        · obtain ⟨m15, hm15, HM15⟩ : ∃ m : Nat, (m : Int) < 64 ∧ Hid (m = t - 15) := ⟨t - 15, by omega, Lib.hid rfl⟩
          have e15 : IntKind.i64.wrap ((t : Int) - 15) = (m15 : Int) := by rw [HM15.out, IntKind.wrap_i64]; omega
          obtain ⟨m2, hm2, HM2⟩ : ∃ m : Nat, (m : Int) < 64 ∧ Hid (m = t - 2) := ⟨t - 2, by omega, Lib.hid rfl⟩
          have e2 : IntKind.i64.wrap ((t : Int) - 2) = (m2 : Int) := by rw [HM2.out, IntKind.wrap_i64]; omega
          obtain ⟨m16, hm16, HM16⟩ : ∃ m : Nat, (m : Int) < 64 ∧ Hid (m = t - 16) := ⟨t - 16, by omega, Lib.hid rfl⟩
          have e16 : IntKind.i64.wrap ((t : Int) - 16) = (m16 : Int) := by rw [HM16.out, IntKind.wrap_i64]; omega
          obtain ⟨m7, hm7, HM7⟩ : ∃ m : Nat, (m : Int) < 64 ∧ Hid (m = t - 7) := ⟨t - 7, by omega, Lib.hid rfl⟩
          have e7 : IntKind.i64.wrap ((t : Int) - 7) = (m7 : Int) := by rw [HM7.out, IntKind.wrap_i64]; omega
          go_wp2
          refine wp_region_lex [(.val, _), (.val, _), (.val, _), (.old, _), (.ext, _), (.val, _), (.val, _), (.val, _), (.old, _), (.ext, _), (.val, _), (.val, _), (.val, _), (.val, _), (.old, _), (.val, _), (.val, _), (.val, _)] rfl mixed (by kernel_rfl) ?_
          replace hL := hL.drew
          have hI := hL
          have hS : Since wr.drew wr.drew := Below.refl _ _
          repeat (first | (refine wpLex_old rfl hS _ (fun w2 hS2 => run_load_plain rfl p_u32 rfl ((hI.call hS2).at (by first | exact .head _ | exact .tail _ (.head _) | exact .tail _ (.tail _ (.head _)) | exact .tail _ (.tail _ (.tail _ (.head _))) | exact .tail _ (.tail _ (.tail _ (.tail _ (.head _)))) | exact .tail _ (.tail _ (.tail _ (.tail _ (.tail _ (.head _))))) | exact List.mem_append_right _ (.head _) | exact List.mem_append_right _ (.tail _ (.head _)) | exact List.mem_append_right _ (.tail _ (.tail _ (.head _))) | exact List.mem_append_right _ (.tail _ (.tail _ (.tail _ (.head _)))) | exact .tail _ (List.mem_append_right _ (.head _)) | exact .tail _ (List.mem_append_right _ (.tail _ (.head _))) | exact .tail _ (List.mem_append_right _ (.tail _ (.tail _ (.head _)))) | exact .tail _ (List.mem_append_right _ (.tail _ (.tail _ (.tail _ (.head _))))) | exact .tail _ (.tail _ (List.mem_append_right _ (.head _))) | exact .tail _ (.tail _ (List.mem_append_right _ (.tail _ (.head _)))) | exact .tail _ (.tail _ (List.mem_append_right _ (.tail _ (.tail _ (.head _))))) | exact .tail _ (.tail _ (List.mem_append_right _ (.tail _ (.tail _ (.tail _ (.head _))))))) (rowF_at 64 _ _ (by omega)))) ?_; simp only [Act.put, List.setIfInBounds_toArray, List.set_cons_succ, List.set_cons_zero]) | (refine xx_call en_refrotr rfl hS rfl rfl rfl (refrotr_any _ _ _ (by decide) (by decide)) ?_; rintro e w ⟨rfl, hb⟩; replace hS := hS.trans (hb.mono hS.size); refine ⟨_, rfl, hS, ?_⟩; replace hL := hL.call hb; clear hb; simp only [Act.put, List.setIfInBounds_toArray, List.set_cons_succ, List.set_cons_zero]) | (refine wpLex_val rfl _ (fun w2 => by (go_simp; (try simp only [w32_xor, w32_shr3]); (try rfl))) ?_; simp only [Act.put, List.setIfInBounds_toArray, List.set_cons_succ, List.set_cons_zero]))
          refine wpLex_nil ?_
          rw [show rotr (f m15) 7 ^^^ rotr (f m15) 18 ^^^ f m15 >>> 3 = sig0 (f m15) from rfl]
          go_wp2
          rename_i wq _
          clear hS hI
          refine wp_region_lex [(.val, _), (.val, _), (.val, _), (.old, _), (.ext, _), (.val, _), (.val, _), (.val, _), (.old, _), (.ext, _), (.val, _), (.val, _), (.val, _), (.val, _), (.old, _), (.val, _), (.val, _), (.val, _)] rfl mixed (by kernel_rfl) ?_
          replace hL := hL.drew
          have hI := hL
          have hS : Since w.drew w.drew := Below.refl _ _
          repeat (first | (refine wpLex_old rfl hS _ (fun w2 hS2 => run_load_plain rfl p_u32 rfl ((hI.call hS2).at (by first | exact .head _ | exact .tail _ (.head _) | exact .tail _ (.tail _ (.head _)) | exact .tail _ (.tail _ (.tail _ (.head _))) | exact .tail _ (.tail _ (.tail _ (.tail _ (.head _)))) | exact .tail _ (.tail _ (.tail _ (.tail _ (.tail _ (.head _))))) | exact List.mem_append_right _ (.head _) | exact List.mem_append_right _ (.tail _ (.head _)) | exact List.mem_append_right _ (.tail _ (.tail _ (.head _))) | exact List.mem_append_right _ (.tail _ (.tail _ (.tail _ (.head _)))) | exact .tail _ (List.mem_append_right _ (.head _)) | exact .tail _ (List.mem_append_right _ (.tail _ (.head _))) | exact .tail _ (List.mem_append_right _ (.tail _ (.tail _ (.head _)))) | exact .tail _ (List.mem_append_right _ (.tail _ (.tail _ (.tail _ (.head _))))) | exact .tail _ (.tail _ (List.mem_append_right _ (.head _))) | exact .tail _ (.tail _ (List.mem_append_right _ (.tail _ (.head _)))) | exact .tail _ (.tail _ (List.mem_append_right _ (.tail _ (.tail _ (.head _))))) | exact .tail _ (.tail _ (List.mem_append_right _ (.tail _ (.tail _ (.tail _ (.head _))))))) (rowF_at 64 _ _ (by omega)))) ?_; simp only [Act.put, List.setIfInBounds_toArray, List.set_cons_succ, List.set_cons_zero]) | (refine xx_call en_refrotr rfl hS rfl rfl rfl (refrotr_any _ _ _ (by decide) (by decide)) ?_; rintro e w ⟨rfl, hb⟩; replace hS := hS.trans (hb.mono hS.size); refine ⟨_, rfl, hS, ?_⟩; replace hL := hL.call hb; clear hb; simp only [Act.put, List.setIfInBounds_toArray, List.set_cons_succ, List.set_cons_zero]) | (refine wpLex_val rfl _ (fun w2 => by (go_simp; (try simp only [w32_xor, w32_shr10]); (try rfl))) ?_; simp only [Act.put, List.setIfInBounds_toArray, List.set_cons_succ, List.set_cons_zero]))
          refine wpLex_nil ?_
          rw [show rotr (f m2) 17 ^^^ rotr (f m2) 19 ^^^ f m2 >>> 10 = sig1 (f m2) from rfl]
          go_wp2
          clear hS hI
          refine wp_region_lex [(.val, _), (.val, _), (.val, _), (.val, _), (.calm, _), (.val, _), (.val, _), (.val, _), (.val, _), (.val, _), (.calm, _), (.val, _), (.val, _), (.val, _), (.val, _), (.eff, _)] rfl mixed (by kernel_rfl) ?_
          replace hL := hL.drew
          have HG : Hid (f m16 + sig0 (f m15) + f m7 + sig1 (f m2) = wv bs t) := Lib.hid (by
            rw [wv_high bs t (by omega), hf.out m16, hf.out m15, hf.out m7, hf.out m2, HM16.out, HM15.out, HM7.out, HM2.out, if_pos (by omega), if_pos (by omega), if_pos (by omega), if_pos (by omega)])
          repeat (first | (refine wpLex_calm rfl _ (run_load_plain rfl p_u32 rfl (hL.at (by first | exact .head _ | exact .tail _ (.head _) | exact .tail _ (.tail _ (.head _)) | exact .tail _ (.tail _ (.tail _ (.head _))) | exact .tail _ (.tail _ (.tail _ (.tail _ (.head _)))) | exact .tail _ (.tail _ (.tail _ (.tail _ (.tail _ (.head _))))) | exact List.mem_append_right _ (.head _) | exact List.mem_append_right _ (.tail _ (.head _)) | exact List.mem_append_right _ (.tail _ (.tail _ (.head _))) | exact List.mem_append_right _ (.tail _ (.tail _ (.tail _ (.head _)))) | exact .tail _ (List.mem_append_right _ (.head _)) | exact .tail _ (List.mem_append_right _ (.tail _ (.head _))) | exact .tail _ (List.mem_append_right _ (.tail _ (.tail _ (.head _)))) | exact .tail _ (List.mem_append_right _ (.tail _ (.tail _ (.tail _ (.head _))))) | exact .tail _ (.tail _ (List.mem_append_right _ (.head _))) | exact .tail _ (.tail _ (List.mem_append_right _ (.tail _ (.head _)))) | exact .tail _ (.tail _ (List.mem_append_right _ (.tail _ (.tail _ (.head _))))) | exact .tail _ (.tail _ (List.mem_append_right _ (.tail _ (.tail _ (.tail _ (.head _))))))) (rowF_at 64 _ _ (by omega)))) ?_; simp only [Act.put, List.setIfInBounds_toArray, List.set_cons_succ, List.set_cons_zero]) | (refine x_set1 hL rfl _ _ _ rfl _ _ rfl _ rfl s_u32 rfl rfl _ _ _ _ (by first | exact .here | exact .there .here | exact .there (.there .here) | exact .there (.there (.there .here)) | exact .there (.there (.there (.there .here))) | exact .pre (.here) | exact .pre (.there .here) | exact .pre (.there (.there .here))) (by rw [rowF_len]; exact hlt) (rowF_set 64 _ (fun j => W32 (if j = t then wv bs t else f j)) t _ hlt (by simp only [if_true]; exact congrArg W32 HG.out.symm) (fun j _ hne => by simp only [if_neg hne])) ?_; clear hL; intro w hL; simp only [Act.put, List.setIfInBounds_toArray, List.set_cons_succ, List.set_cons_zero]) | (refine wpLex_val rfl _ (fun w2 => by (go_simp; (try simp only [w32_add, w32_addm]); (try rfl))) ?_; simp only [Act.put, List.setIfInBounds_toArray, List.set_cons_succ, List.set_cons_zero]))
          refine wpLex_nil ?_
          go_wp2
          go_roundw
          case rel =>
            refine ⟨t + 1, fun j => if j = t then wv bs t else f j, by omega, by omega, by rfl, Lib.hid (fun j => ?_), hL⟩
            by_cases h : j = t
            · simp only [if_pos h]; rw [if_pos (by omega), h]
            · simp only [if_neg h]; rw [hf.out j]
              by_cases h2 : j < t
              · rw [if_pos h2, if_pos (by omega)]
              · rw [if_neg h2, if_neg (by omega)]
          case measure => simp [intOf]; omega
        · obtain rfl : t = 64 := by omega
          go_wp2_with (first | (refine wpl_run rfl (run_load_row hL rfl a_w rfl (by first | exact .head _ | exact .tail _ (.head _) | exact .tail _ (.tail _ (.head _)) | exact .tail _ (.tail _ (.tail _ (.head _))) | exact .tail _ (.tail _ (.tail _ (.tail _ (.head _)))) | exact .tail _ (.tail _ (.tail _ (.tail _ (.tail _ (.head _))))) | exact List.mem_append_right _ (.head _) | exact List.mem_append_right _ (.tail _ (.head _)) | exact List.mem_append_right _ (.tail _ (.tail _ (.head _))) | exact List.mem_append_right _ (.tail _ (.tail _ (.tail _ (.head _)))) | exact .tail _ (List.mem_append_right _ (.head _)) | exact .tail _ (List.mem_append_right _ (.tail _ (.head _))) | exact .tail _ (List.mem_append_right _ (.tail _ (.tail _ (.head _)))) | exact .tail _ (List.mem_append_right _ (.tail _ (.tail _ (.tail _ (.head _))))) | exact .tail _ (.tail _ (List.mem_append_right _ (.head _))) | exact .tail _ (.tail _ (List.mem_append_right _ (.tail _ (.head _)))) | exact .tail _ (.tail _ (List.mem_append_right _ (.tail _ (.tail _ (.head _))))) | exact .tail _ (.tail _ (List.mem_append_right _ (.tail _ (.tail _ (.tail _ (.head _))))))) (by rfl)) ?_; simp only [Act.put, List.setIfInBounds_toArray, List.set_cons_succ, List.set_cons_zero]) | (refine wpl_strow hL rfl _ _ _ rfl _ rfl _ rfl _ s_w _ rfl _ _ _ (by first | exact .here | exact .there .here | exact .there (.there .here) | exact .there (.there (.there .here)) | exact .there (.there (.there (.there .here))) | exact .pre (.here) | exact .pre (.there .here) | exact .pre (.there (.there .here))) (rowF_one _ _ fun _ => rfl) (by rfl) (by rfl) ?_; clear hL; intro w hL; simp only [Act.put, List.setIfInBounds_toArray, List.set_cons_succ, List.set_cons_zero]))
          refine bodyPost_cell rfl a_w rfl rfl hL (by first | exact .head _ | exact .tail _ (.head _) | exact .tail _ (.tail _ (.head _)) | exact .tail _ (.tail _ (.tail _ (.head _))) | exact .tail _ (.tail _ (.tail _ (.tail _ (.head _)))) | exact .tail _ (.tail _ (.tail _ (.tail _ (.tail _ (.head _))))) | exact List.mem_append_right _ (.head _) | exact List.mem_append_right _ (.tail _ (.head _)) | exact List.mem_append_right _ (.tail _ (.tail _ (.head _))) | exact List.mem_append_right _ (.tail _ (.tail _ (.tail _ (.head _)))) | exact .tail _ (List.mem_append_right _ (.head _)) | exact .tail _ (List.mem_append_right _ (.tail _ (.head _))) | exact .tail _ (List.mem_append_right _ (.tail _ (.tail _ (.head _)))) | exact .tail _ (List.mem_append_right _ (.tail _ (.tail _ (.tail _ (.head _))))) | exact .tail _ (.tail _ (List.mem_append_right _ (.head _))) | exact .tail _ (.tail _ (List.mem_append_right _ (.tail _ (.head _)))) | exact .tail _ (.tail _ (List.mem_append_right _ (.tail _ (.tail _ (.head _))))) | exact .tail _ (.tail _ (List.mem_append_right _ (.tail _ (.tail _ (.tail _ (.head _))))))) rfl ⟨?_, hL.below⟩
          rw [rowF_congr 64 (fun j => W32 (f j)) (fun j => W32 (wv bs j)) (fun j hj => by simp only [hf.out j, if_pos hj])]
end Go.Proofs.YtkkmkfkgmioblaaDoor
