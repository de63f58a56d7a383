/- One text out of: RefSha, P21, RefSum, RefOf, RefInt, RefL, ExtM. -/
import Derived.Test.YticponffemffnaaDoorSha
import Derived.Test.YticponffemffnaaDoorP0
import Derived.Test.YticponffemffnaaDoorK
import Derived.Test.YticponffemffnaaDoorXB
section
/- The specification's SHA-256: rotation, the schedule of a block. -/
set_option linter.unusedVariables false
set_option linter.unusedSimpArgs false
namespace Go.Proofs.YticponffemffnaaDoor
open Go Go.RowKit Go.Lx
attribute [local irreducible] Calls

theorem w32_mod (a : BitVec 32) : w32 a % (4294967296 : Int) = w32 a := by have := w32_lo a; have := w32_hi a; omega
theorem w32_shl24m (a : BitVec 32) : w32 a * (16777216 : Int) % (4294967296 : Int) = w32 (a <<< 24) := w32_shlm a 24
theorem w32_shl16m (a : BitVec 32) : w32 a * (65536 : Int) % (4294967296 : Int) = w32 (a <<< 16) := w32_shlm a 16
theorem w32_wrap (a : BitVec 32) : IntKind.u32.wrap (w32 a) = w32 a := by rw [wrap_u32, w32_mod]
theorem w32_shl24 (a : BitVec 32) : IntKind.u32.wrap (w32 a * (16777216 : Int)) = w32 (a <<< 24) := w32_shl a 24
theorem w32_shl16 (a : BitVec 32) : IntKind.u32.wrap (w32 a * (65536 : Int)) = w32 (a <<< 16) := w32_shl a 16
theorem en_refrotr : enterable Tryd.prog 88 = true := by kernel_rfl
set_option maxHeartbeats 400000 in
theorem refrotr_any (x : BitVec 32) (k : Nat) (w0 : World) (h1 : 1 ≤ k) (h2 : k ≤ 31) :
    Calls Tryd.prog 88 #[W32 x, .int .i64 k] w0 fun e w' => e = .returned (W32 (rotr x k)) ∧ Below w0.heap.size w0 w' := by
  have hL := Sees.refl w0
  obtain ⟨K, hK0, hK1, HK⟩ : ∃ K : Int, 0 ≤ K ∧ K ≤ 31 ∧ Hid (K = (k : Int)) := ⟨k, by omega, by omega, Lib.hid rfl⟩
  rw [← HK.out]
  obtain ⟨M, hM0, hM1, HM⟩ : ∃ M : Int, 0 ≤ M ∧ M ≤ 31 ∧ Hid (M = 32 - (k : Int)) := ⟨32 - k, by omega, by omega, Lib.hid rfl⟩
  have eM : (32 : Int) - K = M := by rw [HM.out, HK.out]
  have eMw : IntKind.i64.wrap M = M := by rw [IntKind.wrap_i64]; omega
  go_enter Tryd.func88, Tryd.ntmps88
  go_wp2
  refine wp_region_lex [(.val, _), (.val, _), (.val, _), (.val, _), (.val, _), (.val, _), (.val, _), (.val, _), (.val, _)] rfl mixed (by kernel_rfl) ?_
  replace hL := hL.drew
  repeat (refine wpLex_val rfl _ (fun w2 => by (go_simp; try rfl)) ?_; simp only [Act.put, List.setIfInBounds_toArray, List.set_cons_succ, List.set_cons_zero])
  refine wpLex_nil ?_
  go_wp2
  go_ret
  refine ⟨?_, hL.below⟩
  show Ending.returned (.int .u32 (bits BinOp.or IntKind.u32 (w32 x / 2 ^ K.toNat) (w32 x * 2 ^ M.toNat % 4294967296))) = _
  rw [w32_shlm, w32_shr, w32_or, show K.toNat = k from by rw [HK.out]; omega, show M.toNat = 32 - k from by rw [HM.out]; omega]
  rfl

/-- the byte at i, as a word -/
def byteW (bs : List UInt8) (i : Nat) : BitVec 32 := BitVec.ofNat 32 (bs.getD i 0).toNat
theorem byteW_at (bs : List UInt8) (i : Nat) (h : i < bs.length) : (bytesV bs)[i]? = some (.int .u8 (w32 (byteW bs i))) := by
  rw [bytesV_at bs i h]
  unfold byteW
  rw [List.getD_eq_getElem?_getD, List.getElem?_eq_getElem h, Option.getD_some, ← w32_u8]
theorem word4_four (bs : List UInt8) (t : Nat) : word4 bs t 4 = byteW bs (4 * t) <<< 24 ||| byteW bs (4 * t + 1) <<< 16 ||| byteW bs (4 * t + 2) <<< 8 ||| byteW bs (4 * t + 3) := by
  show (((0 <<< 8 ||| byteW bs (4 * t + 0)) <<< 8 ||| byteW bs (4 * t + 1)) <<< 8 ||| byteW bs (4 * t + 2)) <<< 8 ||| byteW bs (4 * t + 3) = _
  rw [Nat.add_zero]
  generalize byteW bs (4 * t) = a
  generalize byteW bs (4 * t + 1) = b
  generalize byteW bs (4 * t + 2) = c
  simp only [BitVec.shiftLeft_or_distrib, ← BitVec.shiftLeft_add]
  simp
theorem en_refwords : enterable Tryd.prog 87 = true := by kernel_rfl
set_option maxHeartbeats 4000000 in
theorem refwords_any (ad : Addr) (cap : Nat) (bs : List UInt8) (w0 : World) (hlen : bs.length = 64) (hcap : 64 ≤ cap) (hc : ∀ j x, (bytesV bs)[j]? = some x → w0.cell? (ad.add j) = some x) :
    Calls Tryd.prog 87 #[.slice (some ad) 64 cap] w0 fun e w' => e = .returned (.agg (rowF 64 fun j => W32 (wv bs j)).toArray) ∧ Below w0.heap.size w0 w' := by
  have hL := Sees.refl w0
  go_enter Tryd.func87, Tryd.ntmps87
  go_wp2_with (first | (refine wpl_alloc hL rfl _ rfl _ z_w ?_; clear hL; intro b w hL; simp only [Act.put, List.setIfInBounds_toArray, List.set_cons_succ, List.set_cons_zero]))
  rename_i br _ _ _
  obtain ⟨bw, rfl⟩ : ∃ bw, bw = b := ⟨_, rfl⟩
  go_loopw [4] (fun i wr => ∃ (t : Nat) (f : Nat → BitVec 32), t ≤ 16 ∧ i = .int .i64 t ∧ Hid (∀ j, f j = if j < t then wv bs j else 0) ∧ Sees w0 wr [⟨bw, 93, rowF 64 fun j => W32 (f j)⟩, ⟨br, 93, rowF 64 fun _ => W32 0⟩]) (fun i _ => 16 - (intOf i).toNat)
  case atStart => exact ⟨0, fun _ => 0, Nat.zero_le _, rfl, Lib.hid (fun j => by simp), hL⟩
  case round =>
    clear hL
    obtain ⟨t, f, ht, rfl, hf, hL⟩ := hrel
    by_cases hlt : t < 16
    · obtain ⟨m0, hm0, H0⟩ : ∃ m : Nat, (m : Int) < 64 ∧ Hid (m = 4 * t) := ⟨4 * t, by omega, Lib.hid rfl⟩
      obtain ⟨m1, hm1, H1⟩ : ∃ m : Nat, (m : Int) < 64 ∧ Hid (m = 4 * t + 1) := ⟨4 * t + 1, by omega, Lib.hid rfl⟩
      obtain ⟨m2, hm2, H2⟩ : ∃ m : Nat, (m : Int) < 64 ∧ Hid (m = 4 * t + 2) := ⟨4 * t + 2, by omega, Lib.hid rfl⟩
      obtain ⟨m3, hm3, H3⟩ : ∃ m : Nat, (m : Int) < 64 ∧ Hid (m = 4 * t + 3) := ⟨4 * t + 3, by omega, Lib.hid rfl⟩
      have hb0 := hc m0 _ (byteW_at bs m0 (by omega))
      have hb1 := hc m1 _ (byteW_at bs m1 (by omega))
      have hb2 := hc m2 _ (byteW_at bs m2 (by omega))
      have hb3 := hc m3 _ (byteW_at bs m3 (by omega))
      have e0 : IntKind.i64.wrap (4 * (t : Int)) = (m0 : Int) := by rw [H0.out, IntKind.wrap_i64]; omega
      have e1 : IntKind.i64.wrap ((m0 : Int) + 1) = (m1 : Int) := by rw [H0.out, H1.out, IntKind.wrap_i64]; omega
      have e2 : IntKind.i64.wrap ((m0 : Int) + 2) = (m2 : Int) := by rw [H0.out, H2.out, IntKind.wrap_i64]; omega
      have e3 : IntKind.i64.wrap ((m0 : Int) + 3) = (m3 : Int) := by rw [H0.out, H3.out, IntKind.wrap_i64]; omega
      have ht64 : t < 64 := by omega
      have ht64i : (t : Int) < 64 := by omega
      have HW : Hid (wv bs t = byteW bs m0 <<< 24 ||| byteW bs m1 <<< 16 ||| byteW bs m2 <<< 8 ||| byteW bs m3) := Lib.hid (by rw [wv_low bs t hlt, word4_four, H0.out, H1.out, H2.out, H3.out])
      generalize byteW bs m0 = X0 at *
      generalize byteW bs m1 = X1 at *
      generalize byteW bs m2 = X2 at *
      generalize byteW bs m3 = X3 at *
      go_wp2
      refine wp_region_lex [(.val, _), (.val, _), (.val, _), (.val, _), (.val, _), (.calm, _), (.val, _), (.val, _), (.val, _), (.val, _), (.val, _), (.val, _), (.val, _), (.calm, _), (.val, _), (.val, _), (.val, _), (.val, _), (.val, _), (.val, _), (.val, _), (.val, _), (.calm, _), (.val, _), (.val, _), (.val, _), (.val, _), (.val, _), (.val, _), (.val, _), (.val, _), (.calm, _), (.val, _), (.val, _), (.val, _), (.eff, _)] rfl mixed (by kernel_rfl) ?_
      replace hL := hL.drew
      repeat (first | (refine wpLex_calm rfl _ (run_load_plain rfl p_u8 rfl (hL.old hb0)) ?_; simp only [Act.put, List.setIfInBounds_toArray, List.set_cons_succ, List.set_cons_zero]) | (refine wpLex_calm rfl _ (run_load_plain rfl p_u8 rfl (hL.old hb1)) ?_; simp only [Act.put, List.setIfInBounds_toArray, List.set_cons_succ, List.set_cons_zero]) | (refine wpLex_calm rfl _ (run_load_plain rfl p_u8 rfl (hL.old hb2)) ?_; simp only [Act.put, List.setIfInBounds_toArray, List.set_cons_succ, List.set_cons_zero]) | (refine wpLex_calm rfl _ (run_load_plain rfl p_u8 rfl (hL.old hb3)) ?_; simp only [Act.put, List.setIfInBounds_toArray, List.set_cons_succ, List.set_cons_zero]) | (refine x_set1 hL rfl _ _ _ rfl _ _ rfl _ rfl s_u32 rfl rfl _ _ _ _ (by first | exact .here | exact .there .here | exact .there (.there .here) | exact .there (.there (.there .here)) | exact .there (.there (.there (.there .here))) | exact .pre (.here) | exact .pre (.there .here) | exact .pre (.there (.there .here))) (by rw [rowF_len]; exact ht64) (rowF_set 64 _ (fun j => W32 (if j = t then wv bs t else f j)) t _ ht64 (by simp only [if_true]; exact congrArg W32 HW.out) (fun j _ hne => by simp only [if_neg hne])) ?_; clear hL; intro w hL; simp only [Act.put, List.setIfInBounds_toArray, List.set_cons_succ, List.set_cons_zero]) | (refine wpLex_val rfl _ (fun w2 => by (go_simp; (try simp only [w32_wrap, w32_shl24, w32_shl16, w32_shl8, w32_or]); (try rfl))) ?_; simp only [Act.put, List.setIfInBounds_toArray, List.set_cons_succ, List.set_cons_zero]))
      refine wpLex_nil ?_
      go_wp2
      go_roundw
      case rel =>
        refine ⟨t + 1, fun j => if j = t then wv bs t else f j, by omega, by rfl, Lib.hid (fun j => ?_), hL⟩
        by_cases h : j = t
        · simp only [if_pos h]; rw [if_pos (by omega), h]
        · simp only [if_neg h]; rw [hf.out j]
          by_cases h2 : j < t
          · rw [if_pos h2, if_pos (by omega)]
          · rw [if_neg h2, if_neg (by omega)]
      case measure => simp [intOf]; omega
    · obtain rfl : t = 16 := by omega
      go_wp2
      go_loopw [5, 6, 7] (fun i _ _ wr => ∃ (t : Nat) (f : Nat → BitVec 32), t ≤ 64 ∧ 16 ≤ t ∧ i = .int .i64 t ∧ Hid (∀ j, f j = if j < t then wv bs j else 0) ∧ Sees w0 wr [⟨bw, 93, rowF 64 fun j => W32 (f j)⟩, ⟨br, 93, rowF 64 fun _ => W32 0⟩]) (fun i _ _ _ => 64 - (intOf i).toNat)
      case atStart => exact ⟨16, f, by omega, by omega, rfl, hf, hL⟩
      case round =>
        clear hL
        obtain ⟨t, f, ht, h16, rfl, hf, hL⟩ := hrel
        by_cases hlt : t < 64
        · obtain ⟨m15, hm15, HM15⟩ : ∃ m : Nat, (m : Int) < 64 ∧ Hid (m = t - 15) := ⟨t - 15, by omega, Lib.hid rfl⟩
          have e15 : IntKind.i64.wrap ((t : Int) - 15) = (m15 : Int) := by rw [HM15.out, IntKind.wrap_i64]; omega
          obtain ⟨m2, hm2, HM2⟩ : ∃ m : Nat, (m : Int) < 64 ∧ Hid (m = t - 2) := ⟨t - 2, by omega, Lib.hid rfl⟩
          have e2 : IntKind.i64.wrap ((t : Int) - 2) = (m2 : Int) := by rw [HM2.out, IntKind.wrap_i64]; omega
          obtain ⟨m16, hm16, HM16⟩ : ∃ m : Nat, (m : Int) < 64 ∧ Hid (m = t - 16) := ⟨t - 16, by omega, Lib.hid rfl⟩
          have e16 : IntKind.i64.wrap ((t : Int) - 16) = (m16 : Int) := by rw [HM16.out, IntKind.wrap_i64]; omega
          obtain ⟨m7, hm7, HM7⟩ : ∃ m : Nat, (m : Int) < 64 ∧ Hid (m = t - 7) := ⟨t - 7, by omega, Lib.hid rfl⟩
          have e7 : IntKind.i64.wrap ((t : Int) - 7) = (m7 : Int) := by rw [HM7.out, IntKind.wrap_i64]; omega
          go_wp2
          refine wp_region_lex [(.val, _), (.val, _), (.val, _), (.old, _), (.ext, _), (.val, _), (.val, _), (.val, _), (.old, _), (.ext, _), (.val, _), (.val, _), (.val, _), (.val, _), (.old, _), (.val, _), (.val, _), (.val, _)] rfl mixed (by kernel_rfl) ?_
          replace hL := hL.drew
          have hI := hL
          have hS : Since wr.drew wr.drew := Below.refl _ _
          repeat (first | (refine wpLex_old rfl hS _ (fun w2 hS2 => run_load_plain rfl p_u32 rfl ((hI.call hS2).at (by first | exact .head _ | exact .tail _ (.head _) | exact .tail _ (.tail _ (.head _)) | exact .tail _ (.tail _ (.tail _ (.head _))) | exact .tail _ (.tail _ (.tail _ (.tail _ (.head _)))) | exact .tail _ (.tail _ (.tail _ (.tail _ (.tail _ (.head _))))) | exact List.mem_append_right _ (.head _) | exact List.mem_append_right _ (.tail _ (.head _)) | exact List.mem_append_right _ (.tail _ (.tail _ (.head _))) | exact List.mem_append_right _ (.tail _ (.tail _ (.tail _ (.head _)))) | exact .tail _ (List.mem_append_right _ (.head _)) | exact .tail _ (List.mem_append_right _ (.tail _ (.head _))) | exact .tail _ (List.mem_append_right _ (.tail _ (.tail _ (.head _)))) | exact .tail _ (List.mem_append_right _ (.tail _ (.tail _ (.tail _ (.head _))))) | exact .tail _ (.tail _ (List.mem_append_right _ (.head _))) | exact .tail _ (.tail _ (List.mem_append_right _ (.tail _ (.head _)))) | exact .tail _ (.tail _ (List.mem_append_right _ (.tail _ (.tail _ (.head _))))) | exact .tail _ (.tail _ (List.mem_append_right _ (.tail _ (.tail _ (.tail _ (.head _))))))) (rowF_at 64 _ _ (by omega)))) ?_; simp only [Act.put, List.setIfInBounds_toArray, List.set_cons_succ, List.set_cons_zero]) | (refine xx_call en_refrotr rfl hS rfl rfl rfl (refrotr_any _ _ _ (by decide) (by decide)) ?_; rintro e w ⟨rfl, hb⟩; replace hS := hS.trans (hb.mono hS.size); refine ⟨_, rfl, hS, ?_⟩; replace hL := hL.call hb; clear hb; simp only [Act.put, List.setIfInBounds_toArray, List.set_cons_succ, List.set_cons_zero]) | (refine wpLex_val rfl _ (fun w2 => by (go_simp; (try simp only [w32_xor, w32_shr3]); (try rfl))) ?_; simp only [Act.put, List.setIfInBounds_toArray, List.set_cons_succ, List.set_cons_zero]))
          refine wpLex_nil ?_
          rw [show rotr (f m15) 7 ^^^ rotr (f m15) 18 ^^^ f m15 >>> 3 = sig0 (f m15) from rfl]
          go_wp2
          rename_i wq _
          clear hS hI
          refine wp_region_lex [(.val, _), (.val, _), (.val, _), (.old, _), (.ext, _), (.val, _), (.val, _), (.val, _), (.old, _), (.ext, _), (.val, _), (.val, _), (.val, _), (.val, _), (.old, _), (.val, _), (.val, _), (.val, _)] rfl mixed (by kernel_rfl) ?_
          replace hL := hL.drew
          have hI := hL
          have hS : Since w.drew w.drew := Below.refl _ _
          repeat (first | (refine wpLex_old rfl hS _ (fun w2 hS2 => run_load_plain rfl p_u32 rfl ((hI.call hS2).at (by first | exact .head _ | exact .tail _ (.head _) | exact .tail _ (.tail _ (.head _)) | exact .tail _ (.tail _ (.tail _ (.head _))) | exact .tail _ (.tail _ (.tail _ (.tail _ (.head _)))) | exact .tail _ (.tail _ (.tail _ (.tail _ (.tail _ (.head _))))) | exact List.mem_append_right _ (.head _) | exact List.mem_append_right _ (.tail _ (.head _)) | exact List.mem_append_right _ (.tail _ (.tail _ (.head _))) | exact List.mem_append_right _ (.tail _ (.tail _ (.tail _ (.head _)))) | exact .tail _ (List.mem_append_right _ (.head _)) | exact .tail _ (List.mem_append_right _ (.tail _ (.head _))) | exact .tail _ (List.mem_append_right _ (.tail _ (.tail _ (.head _)))) | exact .tail _ (List.mem_append_right _ (.tail _ (.tail _ (.tail _ (.head _))))) | exact .tail _ (.tail _ (List.mem_append_right _ (.head _))) | exact .tail _ (.tail _ (List.mem_append_right _ (.tail _ (.head _)))) | exact .tail _ (.tail _ (List.mem_append_right _ (.tail _ (.tail _ (.head _))))) | exact .tail _ (.tail _ (List.mem_append_right _ (.tail _ (.tail _ (.tail _ (.head _))))))) (rowF_at 64 _ _ (by omega)))) ?_; simp only [Act.put, List.setIfInBounds_toArray, List.set_cons_succ, List.set_cons_zero]) | (refine xx_call en_refrotr rfl hS rfl rfl rfl (refrotr_any _ _ _ (by decide) (by decide)) ?_; rintro e w ⟨rfl, hb⟩; replace hS := hS.trans (hb.mono hS.size); refine ⟨_, rfl, hS, ?_⟩; replace hL := hL.call hb; clear hb; simp only [Act.put, List.setIfInBounds_toArray, List.set_cons_succ, List.set_cons_zero]) | (refine wpLex_val rfl _ (fun w2 => by (go_simp; (try simp only [w32_xor, w32_shr10]); (try rfl))) ?_; simp only [Act.put, List.setIfInBounds_toArray, List.set_cons_succ, List.set_cons_zero]))
          refine wpLex_nil ?_
          rw [show rotr (f m2) 17 ^^^ rotr (f m2) 19 ^^^ f m2 >>> 10 = sig1 (f m2) from rfl]
          go_wp2
          clear hS hI
          refine wp_region_lex [(.val, _), (.val, _), (.val, _), (.val, _), (.calm, _), (.val, _), (.val, _), (.val, _), (.val, _), (.val, _), (.calm, _), (.val, _), (.val, _), (.val, _), (.val, _), (.eff, _)] rfl mixed (by kernel_rfl) ?_
          replace hL := hL.drew
          have HG : Hid (f m16 + sig0 (f m15) + f m7 + sig1 (f m2) = wv bs t) := Lib.hid (by
            rw [wv_high bs t (by omega), hf.out m16, hf.out m15, hf.out m7, hf.out m2, HM16.out, HM15.out, HM7.out, HM2.out, if_pos (by omega), if_pos (by omega), if_pos (by omega), if_pos (by omega)])
          repeat (first | (refine wpLex_calm rfl _ (run_load_plain rfl p_u32 rfl (hL.at (by first | exact .head _ | exact .tail _ (.head _) | exact .tail _ (.tail _ (.head _)) | exact .tail _ (.tail _ (.tail _ (.head _))) | exact .tail _ (.tail _ (.tail _ (.tail _ (.head _)))) | exact .tail _ (.tail _ (.tail _ (.tail _ (.tail _ (.head _))))) | exact List.mem_append_right _ (.head _) | exact List.mem_append_right _ (.tail _ (.head _)) | exact List.mem_append_right _ (.tail _ (.tail _ (.head _))) | exact List.mem_append_right _ (.tail _ (.tail _ (.tail _ (.head _)))) | exact .tail _ (List.mem_append_right _ (.head _)) | exact .tail _ (List.mem_append_right _ (.tail _ (.head _))) | exact .tail _ (List.mem_append_right _ (.tail _ (.tail _ (.head _)))) | exact .tail _ (List.mem_append_right _ (.tail _ (.tail _ (.tail _ (.head _))))) | exact .tail _ (.tail _ (List.mem_append_right _ (.head _))) | exact .tail _ (.tail _ (List.mem_append_right _ (.tail _ (.head _)))) | exact .tail _ (.tail _ (List.mem_append_right _ (.tail _ (.tail _ (.head _))))) | exact .tail _ (.tail _ (List.mem_append_right _ (.tail _ (.tail _ (.tail _ (.head _))))))) (rowF_at 64 _ _ (by omega)))) ?_; simp only [Act.put, List.setIfInBounds_toArray, List.set_cons_succ, List.set_cons_zero]) | (refine x_set1 hL rfl _ _ _ rfl _ _ rfl _ rfl s_u32 rfl rfl _ _ _ _ (by first | exact .here | exact .there .here | exact .there (.there .here) | exact .there (.there (.there .here)) | exact .there (.there (.there (.there .here))) | exact .pre (.here) | exact .pre (.there .here) | exact .pre (.there (.there .here))) (by rw [rowF_len]; exact hlt) (rowF_set 64 _ (fun j => W32 (if j = t then wv bs t else f j)) t _ hlt (by simp only [if_true]; exact congrArg W32 HG.out.symm) (fun j _ hne => by simp only [if_neg hne])) ?_; clear hL; intro w hL; simp only [Act.put, List.setIfInBounds_toArray, List.set_cons_succ, List.set_cons_zero]) | (refine wpLex_val rfl _ (fun w2 => by (go_simp; (try simp only [w32_add, w32_addm]); (try rfl))) ?_; simp only [Act.put, List.setIfInBounds_toArray, List.set_cons_succ, List.set_cons_zero]))
          refine wpLex_nil ?_
          go_wp2
          go_roundw
          case rel =>
            refine ⟨t + 1, fun j => if j = t then wv bs t else f j, by omega, by omega, by rfl, Lib.hid (fun j => ?_), hL⟩
            by_cases h : j = t
            · simp only [if_pos h]; rw [if_pos (by omega), h]
            · simp only [if_neg h]; rw [hf.out j]
              by_cases h2 : j < t
              · rw [if_pos h2, if_pos (by omega)]
              · rw [if_neg h2, if_neg (by omega)]
          case measure => simp [intOf]; omega
        · obtain rfl : t = 64 := by omega
          go_wp2_with (first | (refine wpl_run rfl (run_load_row hL rfl a_w rfl (by first | exact .head _ | exact .tail _ (.head _) | exact .tail _ (.tail _ (.head _)) | exact .tail _ (.tail _ (.tail _ (.head _))) | exact .tail _ (.tail _ (.tail _ (.tail _ (.head _)))) | exact .tail _ (.tail _ (.tail _ (.tail _ (.tail _ (.head _))))) | exact List.mem_append_right _ (.head _) | exact List.mem_append_right _ (.tail _ (.head _)) | exact List.mem_append_right _ (.tail _ (.tail _ (.head _))) | exact List.mem_append_right _ (.tail _ (.tail _ (.tail _ (.head _)))) | exact .tail _ (List.mem_append_right _ (.head _)) | exact .tail _ (List.mem_append_right _ (.tail _ (.head _))) | exact .tail _ (List.mem_append_right _ (.tail _ (.tail _ (.head _)))) | exact .tail _ (List.mem_append_right _ (.tail _ (.tail _ (.tail _ (.head _))))) | exact .tail _ (.tail _ (List.mem_append_right _ (.head _))) | exact .tail _ (.tail _ (List.mem_append_right _ (.tail _ (.head _)))) | exact .tail _ (.tail _ (List.mem_append_right _ (.tail _ (.tail _ (.head _))))) | exact .tail _ (.tail _ (List.mem_append_right _ (.tail _ (.tail _ (.tail _ (.head _))))))) (by rfl)) ?_; simp only [Act.put, List.setIfInBounds_toArray, List.set_cons_succ, List.set_cons_zero]) | (refine wpl_strow hL rfl _ _ _ rfl _ rfl _ rfl _ s_w _ rfl _ _ _ (by first | exact .here | exact .there .here | exact .there (.there .here) | exact .there (.there (.there .here)) | exact .there (.there (.there (.there .here))) | exact .pre (.here) | exact .pre (.there .here) | exact .pre (.there (.there .here))) (rowF_one _ _ fun _ => rfl) (by rfl) (by rfl) ?_; clear hL; intro w hL; simp only [Act.put, List.setIfInBounds_toArray, List.set_cons_succ, List.set_cons_zero]))
          refine bodyPost_cell rfl a_w rfl rfl hL (by first | exact .head _ | exact .tail _ (.head _) | exact .tail _ (.tail _ (.head _)) | exact .tail _ (.tail _ (.tail _ (.head _))) | exact .tail _ (.tail _ (.tail _ (.tail _ (.head _)))) | exact .tail _ (.tail _ (.tail _ (.tail _ (.tail _ (.head _))))) | exact List.mem_append_right _ (.head _) | exact List.mem_append_right _ (.tail _ (.head _)) | exact List.mem_append_right _ (.tail _ (.tail _ (.head _))) | exact List.mem_append_right _ (.tail _ (.tail _ (.tail _ (.head _)))) | exact .tail _ (List.mem_append_right _ (.head _)) | exact .tail _ (List.mem_append_right _ (.tail _ (.head _))) | exact .tail _ (List.mem_append_right _ (.tail _ (.tail _ (.head _)))) | exact .tail _ (List.mem_append_right _ (.tail _ (.tail _ (.tail _ (.head _))))) | exact .tail _ (.tail _ (List.mem_append_right _ (.head _))) | exact .tail _ (.tail _ (List.mem_append_right _ (.tail _ (.head _)))) | exact .tail _ (.tail _ (List.mem_append_right _ (.tail _ (.tail _ (.head _))))) | exact .tail _ (.tail _ (List.mem_append_right _ (.tail _ (.tail _ (.tail _ (.head _))))))) rfl ⟨?_, hL.below⟩
          rw [rowF_congr 64 (fun j => W32 (f j)) (fun j => W32 (wv bs j)) (fun j hj => by simp only [hf.out j, if_pos hj])]
end Go.Proofs.YticponffemffnaaDoor
end
section
/- Machine side of the laws: Lean functions that answer as the Go functions do, and the proofs of it; written by a program of this session (printx.py) that alters the kit's print. -/
namespace Go.Proofs.YticponffemffnaaDoor.Ext
end Go.Proofs.YticponffemffnaaDoor.Ext
namespace Go.Proofs.YticponffemffnaaDoor.P
open Go.Proofs.YticponffemffnaaDoor.Ext Go.Proofs.YticponffemffnaaDoor
open Go.RowKit Go.Proofs.YticponffemffnaaDoorW.PrintWords Go.Proofs.YticponffemffnaaDoorW.PrintLast Go.Proofs.YticponffemffnaaDoorW.PrintMore
attribute [local go_sem] max2_int min2_int max_two min_two max_three min_three max_four min_four   -- for this text's walks alone
set_option linter.unusedVariables false
set_option linter.unusedSimpArgs false

/-! ### antiquaryref02_padded: function 86 -/
mutual
def antiquaryref02_padded.l0 : Nat → List Int → List Int → Option (List Int)
  | 0, _, _ => none
  | k + 1, x0, x3 => if ((x3.length : Int) % 64) = 56 then (antiquaryref02_padded.l1 k x3 (IntKind.u64.wrap (8 * (IntKind.u64.wrap ((x0.length : Int))))) 0) else (if x3.length < 140737488355328 then (antiquaryref02_padded.l0 k x0 (x3 ++ [0])) else (none))
def antiquaryref02_padded.l1 : Nat → List Int → Int → Int → Option (List Int)
  | 0, _, _, _ => none
  | k + 1, x3, x4, x5 => if x5 < 8 then (if 0 ≤ (wrap64 (56 - (wrap64 (8 * x5)))) then (if x3.length < 140737488355328 then (antiquaryref02_padded.l1 k (x3 ++ [(shr .u64 x4 (wrap64 (56 - (wrap64 (8 * x5))))) % 256]) x4 (wrap64 (x5 + 1))) else (none)) else (none)) else (some x3)
end
def antiquaryref02_padded.f (k : Nat) (l0 : List Int) : Option (List Int) := (some (([] : List Int) : List Int)).bind fun y448 => (if y448.length + l0.length < 140737488355328 then ((some (y448 ++ l0 : List Int)).bind fun y451 => (if y451.length < 140737488355328 then (antiquaryref02_padded.l0 k l0 (y451 ++ [128])) else (none))) else (none))
theorem antiquaryref02_padded.mono_l : ∀ k, (∀ y0 y1, LeO (antiquaryref02_padded.l0 k y0 y1) (antiquaryref02_padded.l0 (k + 1) y0 y1)) ∧ (∀ y0 y1 y2, LeO (antiquaryref02_padded.l1 k y0 y1 y2) (antiquaryref02_padded.l1 (k + 1) y0 y1 y2))
  | 0 => ⟨fun _ _ r h => by simp [antiquaryref02_padded.l0] at h, fun _ _ _ r h => by simp [antiquaryref02_padded.l1] at h⟩
  | k + 1 => by
    obtain ⟨ih0, ih1⟩ := antiquaryref02_padded.mono_l k
    refine ⟨?_, ?_⟩
    · intro y0 y1
      unfold antiquaryref02_padded.l0
      repeat' first
      | (with_reducible exact ih0 _ _)
      | (with_reducible exact ih1 _ _ _)
      | (with_reducible exact LeO.refl _)
      | (with_reducible exact LeO.none _)
      | (with_reducible refine LeO.ite ?_ ?_)
      | (with_reducible refine LeO.bind ?_ (fun _ => ?_))
      | exact ih0 _ _
      | exact ih1 _ _ _
      | exact LeO.none _
      | refine LeO.ite ?_ ?_
      | refine LeO.bind ?_ (fun _ => ?_)
    · intro y0 y1 y2
      unfold antiquaryref02_padded.l1
      repeat' first
      | (with_reducible exact ih0 _ _)
      | (with_reducible exact ih1 _ _ _)
      | (with_reducible exact LeO.refl _)
      | (with_reducible exact LeO.none _)
      | (with_reducible refine LeO.ite ?_ ?_)
      | (with_reducible refine LeO.bind ?_ (fun _ => ?_))
      | exact ih0 _ _
      | exact ih1 _ _ _
      | exact LeO.none _
      | refine LeO.ite ?_ ?_
      | refine LeO.bind ?_ (fun _ => ?_)
theorem antiquaryref02_padded.mono : ∀ a0 k, LeO (antiquaryref02_padded.f k a0) (antiquaryref02_padded.f (k + 1) a0) := by
  intro a0 k
  obtain ⟨ih0, ih1⟩ := antiquaryref02_padded.mono_l k
  unfold antiquaryref02_padded.f
  repeat' first
      | (with_reducible exact ih0 _ _)
      | (with_reducible exact ih1 _ _ _)
      | (with_reducible exact LeO.refl _)
      | (with_reducible exact LeO.none _)
      | (with_reducible refine LeO.ite ?_ ?_)
      | (with_reducible refine LeO.bind ?_ (fun _ => ?_))
      | exact ih0 _ _
      | exact ih1 _ _ _
      | exact LeO.none _
      | refine LeO.ite ?_ ?_
      | refine LeO.bind ?_ (fun _ => ?_)
set_option maxHeartbeats 8000000 in
set_option maxRecDepth 100000 in
theorem antiquaryref02_padded.calls (k : Nat) (A0 : Option Addr) (c0 : Nat) (l0 : List Int) (r : List Int) (w : World) (hr0 : Kd.C (Kd.int .u8) w A0 l0.length l0) (hc0 : l0.length ≤ c0) (h : antiquaryref02_padded.f k l0 = some r) :
    Calls Tryd.prog 86 #[.slice A0 l0.length c0] w fun e w' => ∃ v0_ : Value, e = .returned (v0_) ∧ Kd.R (Kd.int .u8) 5 w' w.heap.size (fun _ => True) v0_ r ∧ Below w.heap.size w w' := by
  have HR0 := Aside0.mk hr0
  have HC0 := Aside0.mk hc0
  clear hr0 hc0
  have HB := Aside0.mk (Below.refl w.heap.size w)
  have H : ((some (([] : List Int) : List Int)).bind fun y448 => (if y448.length + l0.length < 140737488355328 then ((some (y448 ++ l0 : List Int)).bind fun y451 => (if y451.length < 140737488355328 then (antiquaryref02_padded.l0 k l0 (y451 ++ [128])) else (none))) else (none))) = some r := h
  clear h
  obtain ⟨y448, hy448⟩ : ∃ y_ : List Int, y_ = (([] : List Int)) := ⟨_, rfl⟩
  replace H : (if y448.length + l0.length < 140737488355328 then ((some (y448 ++ l0 : List Int)).bind fun y451 => (if y451.length < 140737488355328 then (antiquaryref02_padded.l0 k l0 (y451 ++ [128])) else (none))) else (none)) = some r := by first | (rw [hy448]; with_reducible exact H) | (have H2_ := (Option.bind_some _ _).symm.trans H; rw [hy448]; with_reducible exact H2_) | (have H2_ := (Option.bind_some _ _).symm.trans H; with_reducible exact H2_) | with_reducible exact H | (rw [hy448]; exact H) | exact H
  have Ny448 := Aside0.mk hy448
  clear hy448
  by_cases c2 : y448.length + l0.length < 140737488355328
  · rw [if_pos c2] at H
    have LMc2 := Aside0.mk c2
    clear c2
    obtain ⟨y451, hy451⟩ : ∃ y_ : List Int, y_ = (y448 ++ l0) := ⟨_, rfl⟩
    replace H : (if y451.length < 140737488355328 then (antiquaryref02_padded.l0 k l0 (y451 ++ [128])) else (none)) = some r := by first | (rw [hy451]; with_reducible exact H) | (have H2_ := (Option.bind_some _ _).symm.trans H; rw [hy451]; with_reducible exact H2_) | (have H2_ := (Option.bind_some _ _).symm.trans H; with_reducible exact H2_) | with_reducible exact H | (rw [hy451]; exact H) | exact H
    have Ny451 := Aside0.mk hy451
    clear hy451
    by_cases c3 : y451.length < 140737488355328
    · rw [if_pos c3] at H
      have LMc3 := Aside0.mk c3
      clear c3
      obtain ⟨y454, hy454⟩ : ∃ y_ : List Int, y_ = (y451 ++ [128]) := ⟨_, rfl⟩
      replace H : (antiquaryref02_padded.l0 k l0 y454) = some r := by first | (rw [hy454]; with_reducible exact H) | (have H2_ := (Option.bind_some _ _).symm.trans H; rw [hy454]; with_reducible exact H2_) | (have H2_ := (Option.bind_some _ _).symm.trans H; with_reducible exact H2_) | with_reducible exact H | (rw [hy454]; exact H) | exact H
      have Ny454 := Aside0.mk hy454
      clear hy454
      have H' := Aside0.mk H
      clear H
      go_enter Tryd.func86, Tryd.ntmps86
      go_wp2_with (first | ((with_reducible refine gate_dst (N := 6) rfl ?_); refine Kd.R_lit (Kd.int .u8) _ 5 ?hg (N := 6) ?hd (xs := ([] : List Int)) (inner := []) (ok := fun _ => True) (okp := fun _ => True) ?hr ?hp (fun _ hk => hk) trivial (Below.refl _ _) (Nat.le_refl _) (by simp) ?_; (case hd => rfl); (case hg => rfl); (case hr => first | (go_simp; done) | (go_simp; rfl)); (case hp => exact (Reps.none _ _)); intro v449 w4 ho5 hb hg_ hnew_; clear hg_ hnew_; (first | rw [← Ny448.out] at ho5 | (simp only [Int.reduceToNat] at ho5; rw [← Ny448.out] at ho5)); have n0_ := Aside0.mk (Kd.R_lower ho5 (below_size (by repeat (first | (with_reducible first | exact HB.out | apply below_alloc | apply pw_below_drewN | apply below_drew1) | exact HB.out)))); have n1_ := Aside0.mk (below_step (by repeat (first | (with_reducible first | exact HB.out | apply below_alloc | apply pw_below_drewN | apply below_drew1) | exact HB.out)) hb); clear HB; have HO450 := n0_; have HB := n1_; clear n0_ n1_; clear hb ho5) | ((with_reducible refine gate_builtin (b := .append) (xs := #[.tmp 6, .tmp 7]) rfl ?_); at_builtin; refine Kd.R_append_rows (Kd.int .u8) (w0 := w) w.heap.size rfl (.tmp 6) (.tmp 7) 53 5 (.int .u8 0) 1 rfl Tryd.underlying53 info5 rfl (by decide) (by omega) v449 y448 l0 _ _ _ (fun _ => True) (fun _ => False) rfl rfl ?aO ?aR (fun _ _ h => h) (fun _ h => h.elim) ?aF ?aB ?aS ?aL ?_; (case aR => repeat (first | exact (Kd.C_below HR0.out HB.out) | (with_reducible refine Kd.C_alloc ?_ _) | (with_reducible refine Kd.C_drewN ?_ _) | (with_reducible refine Kd.C_drew ?_))); (case aB => exact (by repeat (first | (with_reducible first | exact HB.out | apply below_alloc | apply pw_below_drewN | apply below_drew1) | exact HB.out))); (case aF => exact (fun _ _ => trivial)); (case aO => exact (by (with_reducible repeat (first | apply Kd.R_alloc | apply Kd.R_drewN | apply Kd.R_drew)); exact HO450.out)); (case aS => exact (below_size (by repeat (first | (with_reducible first | exact HB.out | apply below_alloc | apply pw_below_drewN | apply below_drew1) | exact HB.out)))); (case aL => have := LMc2.out; omega); intro v452 w6 ho hb hg hat; rw [← Ny451.out] at ho; have n0_ := Aside0.mk (hb); have n1_ := Aside0.mk (ho); clear HB; clear HO450; have HB := n0_; have HO453 := n1_; clear n0_ n1_; clear ho hb hg hat) | ((with_reducible refine gate_builtin (b := .append) (xs := #[.tmp 9, .tmp 10]) rfl ?_); at_builtin; refine Kd.R_append (Kd.int .u8) (w0 := w) w.heap.size rfl (.tmp 9) (.tmp 10) 53 5 (.int .u8 0) 1 rfl Tryd.underlying53 info5 rfl (by decide) (by omega) v452 y451 128 [.int .u8 128] (fun _ => True) (fun _ => False) rfl rfl ?aP (fun _ hk => hk.elim) ?aF ?aO ?aB ?aS ?aL ?_; (case aP => exact rfl); (case aB => exact (by repeat (first | (with_reducible first | exact HB.out | apply below_alloc | apply pw_below_drewN | apply below_drew1) | exact HB.out))); (case aF => exact (fun _ _ => trivial)); (case aO => exact (by (with_reducible repeat (first | apply Kd.R_alloc | apply Kd.R_drewN | apply Kd.R_drew)); exact HO453.out)); (case aS => exact (below_size (by repeat (first | (with_reducible first | exact HB.out | apply below_alloc | apply pw_below_drewN | apply below_drew1) | exact HB.out)))); (case aL => have := LMc3.out; omega); intro v455 w7 ho hb hg hat; rw [← Ny454.out] at ho; have n0_ := Aside0.mk (hb); have n1_ := Aside0.mk (ho); clear HB; clear HO453; have HB := n0_; have HO456 := n1_; clear n0_ n1_; clear ho hb hg hat))
      go_loopg [3] k (fun kq v3 w' => ∃ (x3_1 : List Int), Aside0 (antiquaryref02_padded.l0 kq l0 x3_1 = some r) ∧ Aside0 (kq ≤ k) ∧ Aside0 (Kd.R (Kd.int .u8) 5 w' w.heap.size (fun _ => True) v3 x3_1) ∧ Aside0 (Below w.heap.size w w'))
      case atStart => exact ⟨(y454), H', ⟨Nat.le_refl _⟩, ⟨by (with_reducible repeat (first | apply Kd.R_alloc | apply Kd.R_drewN | apply Kd.R_drew)); exact HO456.out⟩, ⟨by repeat (first | (with_reducible first | exact HB.out | apply below_alloc | apply pw_below_drewN | apply below_drew1) | exact HB.out)⟩⟩
      case round =>
        clear H'
        try clear c2
        try clear p2
        try clear c3
        obtain ⟨x3_1, HA, HK1, HO_3, HB⟩ := hrel
        cases gk with
        | zero => exact absurd HA.out (by simp [antiquaryref02_padded.l0])
        | succ k1 =>
          have H := HA.out
          clear HA
          simp only [antiquaryref02_padded.l0] at H
          by_cases c8 : ((x3_1.length : Int) % 64) = 56
          · rw [if_pos c8] at H
            have c8b0 : (((x3_1.length : Int) % 64) == 56) = true := beq_iff_eq.mpr c8
            have c8b1 : (((x3_1.length : Int) % 64) != 56) = false := bne_eq_false_iff_eq.mpr c8
            clear c8
            have H' := Aside0.mk H
            clear H
            obtain ⟨Ao9, co9, eo9⟩ := Kd.R_slice HO_3.out
            subst eo9
            go_wp2
            go_loopg [3, 5] k1 (fun kq v3 v5 w' => ∃ (x3_2 : List Int) (x5_2 : Int), v5 = .int .i64 x5_2 ∧ Aside0 (antiquaryref02_padded.l1 kq x3_2 (IntKind.u64.wrap (8 * (IntKind.u64.wrap ((l0.length : Int))))) x5_2 = some r) ∧ Aside0 (kq ≤ k1) ∧ Aside0 (Kd.R (Kd.int .u8) 5 w' w.heap.size (fun _ => True) v3 x3_2) ∧ Aside0 (Below w.heap.size w w'))
            case atStart => exact ⟨(x3_1), (0), (by first | rfl | (simp; done) | (simp [*]; done)), H', ⟨Nat.le_refl _⟩, ⟨by (with_reducible repeat (first | apply Kd.R_alloc | apply Kd.R_drewN | apply Kd.R_drew)); exact HO_3.out⟩, ⟨by repeat (first | (with_reducible first | exact HB.out | apply below_alloc | apply pw_below_drewN | apply below_drew1) | exact HB.out)⟩⟩
            case round =>
              clear H'
              try clear c2
              try clear p2
              try clear c3
              try clear c8
              try clear c8b0
              try clear c8b1
              try clear p2
              obtain ⟨x3_2, x5_2, rfl, HA, HK2, HO_3, HB⟩ := hrel
              cases gk with
              | zero => exact absurd HA.out (by simp [antiquaryref02_padded.l1])
              | succ k2 =>
                have H := HA.out
                clear HA
                simp only [antiquaryref02_padded.l1] at H
                by_cases c10 : x5_2 < 8
                · rw [if_pos c10] at H
                  have c10b0 : decide (x5_2 < 8) = true := decide_eq_true c10
                  clear c10
                  obtain ⟨ji11, hji11⟩ : ∃ j_ : Int, (wrap64 (56 - (wrap64 (8 * x5_2)))) = j_ := ⟨_, rfl⟩
                  replace H : (if 0 ≤ (ji11) then (if x3_2.length < 140737488355328 then (antiquaryref02_padded.l1 k2 (x3_2 ++ [(shr .u64 (IntKind.u64.wrap (8 * (IntKind.u64.wrap ((l0.length : Int))))) (ji11)) % 256]) (IntKind.u64.wrap (8 * (IntKind.u64.wrap ((l0.length : Int))))) (wrap64 (x5_2 + 1))) else (none)) else (none)) = some r := by first | (rw [hji11] at H; exact H) | (simp only [hji11] at H ⊢; exact H)
                  have hji11w : (IntKind.i64.wrap (56 - (wrap64 (8 * x5_2)))) = ji11 := (i64_w _).trans hji11
                  by_cases c12 : 0 ≤ (ji11)
                  · rw [if_pos c12] at H
                    have c12b0 := eq_true c12
                    have c12b1 : decide (0 ≤ (ji11)) = true := decide_eq_true c12
                    clear c12
                    obtain ⟨ji13, hji13⟩ : ∃ j_ : Int, (shr .u64 (IntKind.u64.wrap (8 * (IntKind.u64.wrap ((l0.length : Int))))) (ji11)) = j_ := ⟨_, rfl⟩
                    replace H : (if x3_2.length < 140737488355328 then (antiquaryref02_padded.l1 k2 (x3_2 ++ [(ji13) % 256]) (IntKind.u64.wrap (8 * (IntKind.u64.wrap ((l0.length : Int))))) (wrap64 (x5_2 + 1))) else (none)) = some r := by first | (rw [hji13] at H; exact H) | (simp only [hji13] at H ⊢; exact H)
                    have hji13_ : ((IntKind.u64.wrap (8 * (IntKind.u64.wrap ((l0.length : Int))))) / 2 ^ min (ji11).toNat 64) = ji13 := hji13
                    have hji13z : (ji11) ≤ 64 → ((IntKind.u64.wrap (8 * (IntKind.u64.wrap ((l0.length : Int))))) / 2 ^ (ji11).toNat) = ji13 := shr_small hji13
                    by_cases c14 : x3_2.length < 140737488355328
                    · rw [if_pos c14] at H
                      have LMc14 := Aside0.mk c14
                      clear c14
                      obtain ⟨y460, hy460⟩ : ∃ y_ : List Int, y_ = (x3_2 ++ [(ji13) % 256]) := ⟨_, rfl⟩
                      replace H : (antiquaryref02_padded.l1 k2 y460 (IntKind.u64.wrap (8 * (IntKind.u64.wrap ((l0.length : Int))))) (wrap64 (x5_2 + 1))) = some r := by first | (rw [hy460]; with_reducible exact H) | (have H2_ := (Option.bind_some _ _).symm.trans H; rw [hy460]; with_reducible exact H2_) | (have H2_ := (Option.bind_some _ _).symm.trans H; with_reducible exact H2_) | with_reducible exact H | (rw [hy460]; exact H) | exact H
                      have Ny460 := Aside0.mk hy460
                      clear hy460
                      have H' := Aside0.mk H
                      clear H
                      go_wp2_with (first | ((with_reducible refine gate_builtin (b := .append) (xs := #[.tmp 27, .tmp 34]) rfl ?_); at_builtin; refine Kd.R_append (Kd.int .u8) (w0 := w) w.heap.size rfl (.tmp 27) (.tmp 34) 53 5 (.int .u8 0) 1 rfl Tryd.underlying53 info5 rfl (by decide) (by omega) u3 x3_2 ((ji13) % 256) [.int .u8 ((ji13) % 256)] (fun _ => True) (fun _ => False) rfl rfl ?aP (fun _ hk => hk.elim) ?aF ?aO ?aB ?aS ?aL ?_; (case aP => exact rfl); (case aB => exact (by repeat (first | (with_reducible first | exact HB.out | apply below_alloc | apply pw_below_drewN | apply below_drew1) | exact HB.out))); (case aF => exact (fun _ _ => trivial)); (case aO => exact (by (with_reducible repeat (first | apply Kd.R_alloc | apply Kd.R_drewN | apply Kd.R_drew)); exact HO_3.out)); (case aS => exact (below_size (by repeat (first | (with_reducible first | exact HB.out | apply below_alloc | apply pw_below_drewN | apply below_drew1) | exact HB.out)))); (case aL => have := LMc14.out; omega); intro v461 w15 ho hb hg hat; rw [← Ny460.out] at ho; have n0_ := Aside0.mk (hb); have n1_ := Aside0.mk (ho); clear HB; clear HO_3; have HB := n0_; have HO462 := n1_; clear n0_ n1_; clear ho hb hg hat))
                      go_roundg k2
                      case measure => have := HK1.out; have := HK2.out; omega
                      case rel => exact ⟨(y460), (wrap64 (x5_2 + 1)), (by first | rfl | (simp; done) | (simp [*]; done)), H', ⟨by have := HK1.out; have := HK2.out; omega⟩, ⟨by (with_reducible repeat (first | apply Kd.R_alloc | apply Kd.R_drewN | apply Kd.R_drew)); exact HO462.out⟩, ⟨by repeat (first | (with_reducible first | exact HB.out | apply below_alloc | apply pw_below_drewN | apply below_drew1) | exact HB.out)⟩⟩
                    · rw [if_neg c14] at H
                      exact absurd H (by simp)
                  · rw [if_neg c12] at H
                    exact absurd H (by simp)
                · rw [if_neg c10] at H
                  have c10b0 : decide (x5_2 < 8) = false := decide_eq_false c10
                  clear c10
                  obtain rfl := Option.some.inj H
                  go_wp2
                  go_ret
                  exact ⟨_, by first | rfl | (simp [errW_none, errW_some] <;> rfl) | (simp [*, errW_none, errW_some] <;> rfl), by (with_reducible repeat (first | apply Kd.R_alloc | apply Kd.R_drewN | apply Kd.R_drew)); exact HO_3.out, by repeat (first | (with_reducible first | exact HB.out | apply below_alloc | apply pw_below_drewN | apply below_drew1) | exact HB.out)⟩
          · rw [if_neg c8] at H
            have c8b0 : (((x3_1.length : Int) % 64) == 56) = false := beq_eq_false_iff_ne.mpr c8
            have c8b1 : (((x3_1.length : Int) % 64) != 56) = true := bne_iff_ne.mpr c8
            by_cases c16 : x3_1.length < 140737488355328
            · rw [if_pos c16] at H
              have LMc16 := Aside0.mk c16
              clear c16
              obtain ⟨y457, hy457⟩ : ∃ y_ : List Int, y_ = (x3_1 ++ [0]) := ⟨_, rfl⟩
              replace H : (antiquaryref02_padded.l0 k1 l0 y457) = some r := by first | (rw [hy457]; with_reducible exact H) | (have H2_ := (Option.bind_some _ _).symm.trans H; rw [hy457]; with_reducible exact H2_) | (have H2_ := (Option.bind_some _ _).symm.trans H; with_reducible exact H2_) | with_reducible exact H | (rw [hy457]; exact H) | exact H
              have Ny457 := Aside0.mk hy457
              clear hy457
              have H' := Aside0.mk H
              clear H
              obtain ⟨Ao17, co17, eo17⟩ := Kd.R_slice HO_3.out
              subst eo17
              go_wp2_with (first | ((with_reducible refine gate_builtin (b := .append) (xs := #[.tmp 16, .tmp 17]) rfl ?_); at_builtin; refine Kd.R_append (Kd.int .u8) (w0 := w) w.heap.size rfl (.tmp 16) (.tmp 17) 53 5 (.int .u8 0) 1 rfl Tryd.underlying53 info5 rfl (by decide) (by omega) (.slice Ao17 x3_1.length co17) x3_1 0 [.int .u8 0] (fun _ => True) (fun _ => False) rfl rfl ?aP (fun _ hk => hk.elim) ?aF ?aO ?aB ?aS ?aL ?_; (case aP => exact rfl); (case aB => exact (by repeat (first | (with_reducible first | exact HB.out | apply below_alloc | apply pw_below_drewN | apply below_drew1) | exact HB.out))); (case aF => exact (fun _ _ => trivial)); (case aO => exact (by (with_reducible repeat (first | apply Kd.R_alloc | apply Kd.R_drewN | apply Kd.R_drew)); exact HO_3.out)); (case aS => exact (below_size (by repeat (first | (with_reducible first | exact HB.out | apply below_alloc | apply pw_below_drewN | apply below_drew1) | exact HB.out)))); (case aL => have := LMc16.out; omega); intro v458 w18 ho hb hg hat; rw [← Ny457.out] at ho; have n0_ := Aside0.mk (hb); have n1_ := Aside0.mk (ho); clear HB; clear HO_3; have HB := n0_; have HO459 := n1_; clear n0_ n1_; clear ho hb hg hat))
              go_roundg k1
              case measure => have := HK1.out; omega
              case rel => exact ⟨(y457), H', ⟨by have := HK1.out; omega⟩, ⟨by (with_reducible repeat (first | apply Kd.R_alloc | apply Kd.R_drewN | apply Kd.R_drew)); exact HO459.out⟩, ⟨by repeat (first | (with_reducible first | exact HB.out | apply below_alloc | apply pw_below_drewN | apply below_drew1) | exact HB.out)⟩⟩
            · rw [if_neg c16] at H
              exact absurd H (by simp)
    · rw [if_neg c3] at H
      exact absurd H (by simp)
  · rw [if_neg c2] at H
    exact absurd H (by simp)

end Go.Proofs.YticponffemffnaaDoor.P
end
section
/- The specification's SHA-256: the padded message, the hash. -/
set_option linter.unusedVariables false
set_option linter.unusedSimpArgs false
namespace Go.Proofs.YticponffemffnaaDoor
open Go Go.RowKit Go.Lx Go.Proofs.YticponffemffnaaDoor.P Go.Proofs.YticponffemffnaaDoorW.PrintWords Go.Proofs.YticponffemffnaaDoorW.PrintLast
attribute [local irreducible] Calls

theorem ofBytes_append (l m : List UInt8) : ofBytes (l ++ m) = ofBytes l ++ ofBytes m := by unfold ofBytes; rw [List.map_append]
theorem ofBytes_cons (c : UInt8) (l : List UInt8) : ofBytes (c :: l) = (c.toNat : Int) :: ofBytes l := rfl
theorem wrap_small (q : Nat) (h : q ≤ 10000) : wrap64 ((q : Int) + 1) = ((q + 1 : Nat) : Int) := by unfold wrap64; omega
theorem shift_amt (q : Nat) (h : q < 8) : wrap64 (56 - wrap64 (8 * (q : Int))) = ((56 - 8 * q : Nat) : Int) := by unfold wrap64; omega
theorem pad_l1 (m : Nat) (d : Nat) : ∀ (k : Nat) (acc : List Int) (q : Nat), 8 - q = d → q ≤ 8 → d < k → acc.length ≤ 2000000 + q →
    antiquaryref02_padded.l1 k acc (m : Int) (q : Int) = some (acc ++ (List.range' q d).map fun i => ((m / 2 ^ (56 - 8 * i) % 256 : Nat) : Int)) := by
  induction d with
  | zero =>
    intro k acc q hd hq hk hac
    obtain ⟨k, rfl⟩ : ∃ m, k = m + 1 := ⟨k - 1, by omega⟩
    simp only [antiquaryref02_padded.l1]
    rw [if_neg (by omega)]
    simp
  | succ d ih =>
    intro k acc q hd hq hk hac
    obtain ⟨k, rfl⟩ : ∃ m, k = m + 1 := ⟨k - 1, by omega⟩
    have c1 : ((q : Int) < 8) := by omega
    have c2 : acc.length < 140737488355328 := by omega
    have c3 : (acc ++ [((m / 2 ^ (56 - 8 * q) % 256 : Nat) : Int)]).length ≤ 2000000 + (q + 1) := by rw [List.length_append, List.length_singleton]; omega
    have ih' := ih k (acc ++ [((m / 2 ^ (56 - 8 * q) % 256 : Nat) : Int)]) (q + 1) (by omega) (by omega) (by omega) c3
    have e0 := shift_amt q (by omega)
    have e1 := wrap_small q (by omega)
    simp only [antiquaryref02_padded.l1]
    rw [if_pos c1, e0, if_pos (Int.natCast_nonneg _), if_pos c2, e1]
    have e2 : shr .u64 (m : Int) ((56 - 8 * q : Nat) : Int) % 256 = ((m / 2 ^ (56 - 8 * q) % 256 : Nat) : Int) := by
      unfold shr
      rw [Int.toNat_natCast, show min (56 - 8 * q) IntKind.u64.bits = 56 - 8 * q from Nat.min_eq_left (by show 56 - 8 * q ≤ 64; omega)]
      rw [Int.natCast_emod, Int.natCast_ediv, Int.natCast_pow]
      rfl
    rw [e2, ih', List.range'_succ, List.map_cons, List.append_assoc]
    rfl
theorem ofBytes_be8 (m : Nat) : ofBytes (be8 m 8) = (List.range' 0 8).map fun i => ((m / 2 ^ (56 - 8 * i) % 256 : Nat) : Int) := by
  unfold ofBytes be8
  rw [List.map_map, List.range_eq_range']
  apply List.map_congr_left
  intro i _
  simp only [Function.comp, UInt8.toNat_ofNat']
theorem pad_l0 (x : List Int) (n : Nat) (hx : x.length = n) (hn : n ≤ 1000000) (d : Nat) : ∀ (k : Nat) (acc : List Int) (j : Nat), padZ n - j = d → j ≤ padZ n → d + 10 < k → acc.length = n + 1 + j →
    antiquaryref02_padded.l0 k x acc = some (acc ++ List.replicate d 0 ++ ofBytes (be8 (8 * n) 8)) := by
  have hz := padZ_spec n
  induction d with
  | zero =>
    intro k acc j hd hj hk hac
    obtain ⟨k, rfl⟩ : ∃ m, k = m + 1 := ⟨k - 1, by omega⟩
    have c1 : ((acc.length : Int) % 64) = 56 := by omega
    have e1 : IntKind.u64.wrap (8 * IntKind.u64.wrap ((x.length : Int))) = ((8 * n : Nat) : Int) := by rw [wrap_u64, wrap_u64, hx]; omega
    have := pad_l1 (8 * n) 8 k acc 0 rfl (by omega) (by omega) (by omega)
    simp only [antiquaryref02_padded.l0]
    rw [if_pos c1, e1]
    rw [show ((0 : Nat) : Int) = 0 from rfl] at this
    rw [this, ofBytes_be8]
    simp
  | succ d ih =>
    intro k acc j hd hj hk hac
    obtain ⟨k, rfl⟩ : ∃ m, k = m + 1 := ⟨k - 1, by omega⟩
    have c1 : ¬ ((acc.length : Int) % 64) = 56 := by
      rw [hac]
      unfold padZ at hd
      omega
    have c2 : acc.length < 140737488355328 := by omega
    have := ih k (acc ++ [0]) (j + 1) (by omega) (by omega) (by omega) (by rw [List.length_append, List.length_singleton]; omega)
    simp only [antiquaryref02_padded.l0]
    rw [if_neg c1, if_pos c2, this, List.replicate_succ]
    simp
theorem padded_f (l : List UInt8) (hn : l.length ≤ 1000000) : antiquaryref02_padded.f 200 (ofBytes l) = some (ofBytes (l ++ padL l.length)) := by
  have hz := padZ_spec l.length
  unfold antiquaryref02_padded.f
  have hl : (ofBytes l).length = l.length := ofBytes_length l
  rw [Option.bind_some, if_pos (by rw [hl]; simp; omega), Option.bind_some, if_pos (by rw [List.nil_append, hl]; omega), List.nil_append]
  have := pad_l0 (ofBytes l) l.length hl hn (padZ l.length) 200 (ofBytes l ++ [128]) 0 rfl (by omega) (by omega) (by rw [List.length_append, hl]; rfl)
  rw [this]
  have e0 : ofBytes (List.replicate (padZ l.length) 0) = List.replicate (padZ l.length) 0 := by unfold ofBytes; rw [List.map_replicate]; rfl
  unfold padL
  rw [ofBytes_append, List.cons_append, ofBytes_cons, ofBytes_append, e0]
  simp

/-- whole blocks, one after the other -/
def chunks (s : St) (l : List UInt8) : Nat → St
  | 0 => s
  | q + 1 => compr (chunks s l q) ((l.drop (64 * q)).take 64)
theorem w32_ffff (a : BitVec 32) : bits .xor .u32 (w32 a) 4294967295 = w32 (~~~a) := by
  have e : (4294967295 : Int) = w32 (BitVec.allOnes 32) := by decide
  rw [e, w32_xor, BitVec.xor_allOnes]
theorem tabR_cell {w : World} (h : TabR w) (t : Nat) (ht : t < 64) : ∀ w2, Since w w2 → w2.cell? ⟨1, t, none⟩ = some (W32 (kc t)) := fun w2 h2 => (h.below h2) t ht
theorem en_padded : enterable Tryd.prog 86 = true := by kernel_rfl
def s0 : St := ⟨0x6a09e667, 0xbb67ae85, 0x3c6ef372, 0xa54ff53a, 0x510e527f, 0x9b05688c, 0x1f83d9ab, 0x5be0cd19⟩
theorem padded_any (v : Value) (A : Option Addr) (c : Nat) (l : List UInt8) (w0 : World) (hv : v = .slice A l.length c) (hR : (Kd.int .u8).C w0 A (ofBytes l).length (ofBytes l)) (hc : l.length ≤ c) (hn : l.length ≤ 1000000) :
    Calls Tryd.prog 86 #[v] w0 fun e w' => ∃ (g c' N : Nat) (m : List UInt8) (rest : List Value), e = .returned (.slice (some ⟨g, 0, none⟩) N c') ∧ Hid (m = l ++ padL l.length) ∧ Hid (N = m.length) ∧ N ≤ c' ∧ (N : Int) ≤ 1100000 ∧ Sees w0 w' [⟨g, 5, bytesV m ++ rest⟩] := by
  subst hv
  have h := antiquaryref02_padded.calls 200 A c (ofBytes l) _ w0 hR (by rw [ofBytes_length]; exact hc) (padded_f l hn)
  rw [ofBytes_length] at h
  refine h.mono ?_
  rintro e w' ⟨v, rfl, hv, hb⟩
  have hz := padZ_spec l.length
  have hpl : (padL l.length).length = padZ l.length + 9 := by unfold padL be8; simp
  obtain ⟨Lv, hV, hS⟩ := sl_of_R hv hb
  have e : (ofBytes (l ++ padL l.length)).map (Value.int .u8) = bytesV (l ++ padL l.length) := by unfold ofBytes bytesV; rw [List.map_map]; rfl
  rw [e, ofBytes_length] at hV
  cases hV with
  | nil _ hn0 _ _ => rw [List.length_append, hpl] at hn0; omega
  | row b cap rest hv' hx hc1 hn1 hm1 hl1 =>
    subst hl1
    exact ⟨b, cap, _, _, rest, by rw [hv'], Lib.hid rfl, Lib.hid rfl, hn1, by rw [List.length_append, hpl]; omega, hS⟩
set_option maxRecDepth 100000 in
set_option maxHeartbeats 8000000 in
theorem refsum_any (v : Value) (A : Option Addr) (c : Nat) (l : List UInt8) (w0 : World) (hv : v = .slice A l.length c) (hR : (Kd.int .u8).C w0 A (ofBytes l).length (ofBytes l)) (hc : l.length ≤ c) (hn : l.length ≤ 1000000) (hT : TabR w0) :
    Calls Tryd.prog 84 #[v] w0 fun e w' => e = .returned (.agg (outV (chunks s0 (l ++ padL l.length) ((l ++ padL l.length).length / 64))).toArray) ∧ Below w0.heap.size w0 w' := by
  subst hv
  have hL := Sees.refl w0
  go_enter Tryd.func84, Tryd.ntmps84
  go_wp2_with (first | (refine wpl_alloc hL rfl _ rfl _ z_32 ?_; clear hL; intro b w hL; simp only [Act.put, List.setIfInBounds_toArray, List.set_cons_succ, List.set_cons_zero]) | (refine wpl_alloc hL rfl _ rfl _ z_8 ?_; clear hL; intro b w hL; simp only [Act.put, List.setIfInBounds_toArray, List.set_cons_succ, List.set_cons_zero]) | (refine wpl_run rfl (run_build_op (t := 72) rfl (cells := s0.v8.toArray) (by kernel_rfl)) ?_; simp only [Act.put, List.setIfInBounds_toArray, List.set_cons_succ, List.set_cons_zero]) | (refine wpl_strow hL rfl _ _ _ rfl _ rfl _ rfl _ s_8 _ rfl _ _ _ (by first | exact .here | exact .there .here | exact .there (.there .here) | exact .there (.there (.there .here)) | exact .there (.there (.there (.there .here))) | exact .pre (.here) | exact .pre (.there .here) | exact .pre (.there (.there .here))) (by repeat (first | exact all1_nil | refine all1_cons rfl ?_)) (by rfl) (by rfl) ?_; clear hL; intro w hL; simp only [Act.put, List.setIfInBounds_toArray, List.set_cons_succ, List.set_cons_zero]) | (go_at_call 86; refine (padded_any _ A c l _ rfl (Kd.C_below hR hL.below) hc hn).mono ?_; rintro e w ⟨g, c', N, m, rest, rfl, HM, HN, hNc, hN1, hM⟩; replace hL := hL.join hM; clear hM))
  rename_i br _ _ _ _ _
  obtain ⟨b8, rfl⟩ : ∃ b8, b8 = b := ⟨_, rfl⟩
  have hN64 : Hid (N = 64 * (N / 64)) := Lib.hid (by
    have hz := padZ_spec l.length
    have hpl : (padL l.length).length = padZ l.length + 9 := by unfold padL be8; simp
    have h1 := HN.out
    rw [HM.out, List.length_append, hpl] at h1
    omega)
  have hNc2 : (N : Int) ≤ (c' : Int) := by omega
  clear hR hc
  go_loopw [5] (fun i wr => ∃ (q a : Nat), Hid (a = 64 * q) ∧ (a : Int) ≤ (N : Int) ∧ i = .int .i64 a ∧ Sees w0 wr [⟨g, 5, bytesV m ++ rest⟩, ⟨b8, 72, (chunks s0 m q).v8⟩, ⟨br, 80, rowF 32 fun _ => .int .u8 0⟩]) (fun i _ => N - (intOf i).toNat)
  case atStart => exact ⟨0, 0, Lib.hid rfl, by omega, rfl, hL⟩
  case round =>
    clear hL
    obtain ⟨q, a, ha, haN, rfl, hL⟩ := hrel
    obtain ⟨s, hs⟩ : ∃ s, s = chunks s0 m q := ⟨_, rfl⟩
    rw [← hs] at hL
    have HSt := Lib.hid hs
    clear hs
    by_cases hlt : a < N
    · have h64 : (a : Int) + 64 ≤ (N : Int) := by have := ha.out; have := hN64.out; omega
      have h64c : (a : Int) + 64 ≤ (c' : Int) := by omega
      have hw1 : IntKind.i64.wrap ((a : Int) + 64) = (a : Int) + 64 := by rw [IntKind.wrap_i64]; omega
      obtain ⟨bs, hbs⟩ : ∃ bs, bs = (m.drop a).take 64 := ⟨_, rfl⟩
      have hbl : bs.length = 64 := by rw [hbs, List.length_take, List.length_drop]; have := HN.out; omega
      have hbc : ∀ j x, (bytesV bs)[j]? = some x → (bytesV m ++ rest)[a + j]? = some x := by
        intro j x hx
        have hj : j < 64 := by
          rcases Nat.lt_or_ge j 64 with h | h
          · exact h
          · rw [List.getElem?_eq_none (by rw [bytesV_length, hbl]; exact h)] at hx; cases hx
        have := HN.out
        rw [List.getElem?_append_left (by rw [bytesV_length]; omega)]
        unfold bytesV at hx ⊢
        rw [List.getElem?_map] at hx ⊢
        rw [hbs, List.getElem?_take, if_pos hj, List.getElem?_drop] at hx
        exact hx
      have HB := Lib.hid hbs
      clear hbs
      go_wp2_with (first | (go_at_call 87; refine (refwords_any _ _ bs _ hbl (by omega) (hL.part (by first | exact .head _ | exact .tail _ (.head _) | exact .tail _ (.tail _ (.head _)) | exact .tail _ (.tail _ (.tail _ (.head _))) | exact .tail _ (.tail _ (.tail _ (.tail _ (.head _)))) | exact .tail _ (.tail _ (.tail _ (.tail _ (.tail _ (.head _))))) | exact List.mem_append_right _ (.head _) | exact List.mem_append_right _ (.tail _ (.head _)) | exact List.mem_append_right _ (.tail _ (.tail _ (.head _))) | exact List.mem_append_right _ (.tail _ (.tail _ (.tail _ (.head _)))) | exact .tail _ (List.mem_append_right _ (.head _)) | exact .tail _ (List.mem_append_right _ (.tail _ (.head _))) | exact .tail _ (List.mem_append_right _ (.tail _ (.tail _ (.head _)))) | exact .tail _ (List.mem_append_right _ (.tail _ (.tail _ (.tail _ (.head _))))) | exact .tail _ (.tail _ (List.mem_append_right _ (.head _))) | exact .tail _ (.tail _ (List.mem_append_right _ (.tail _ (.head _)))) | exact .tail _ (.tail _ (List.mem_append_right _ (.tail _ (.tail _ (.head _))))) | exact .tail _ (.tail _ (List.mem_append_right _ (.tail _ (.tail _ (.tail _ (.head _))))))) hbc)).mono ?_; rintro e w ⟨rfl, hb⟩; replace hL := hL.call hb; clear hb) | (refine wpl_alloc hL rfl _ rfl _ z_w ?_; clear hL; intro bw w hL; simp only [Act.put, List.setIfInBounds_toArray, List.set_cons_succ, List.set_cons_zero]) | (refine wpl_strow hL rfl _ _ _ rfl _ rfl _ rfl _ s_w _ rfl _ _ _ (by first | exact .here | exact .there .here | exact .there (.there .here) | exact .there (.there (.there .here)) | exact .there (.there (.there (.there .here))) | exact .pre (.here) | exact .pre (.there .here) | exact .pre (.there (.there .here))) (rowF_one _ _ fun _ => rfl) (by rfl) (by rfl) ?_; clear hL; intro w hL; simp only [Act.put, List.setIfInBounds_toArray, List.set_cons_succ, List.set_cons_zero]) | (refine wpl_run rfl (run_load_row hL rfl a_8 rfl (by first | exact .head _ | exact .tail _ (.head _) | exact .tail _ (.tail _ (.head _)) | exact .tail _ (.tail _ (.tail _ (.head _))) | exact .tail _ (.tail _ (.tail _ (.tail _ (.head _)))) | exact .tail _ (.tail _ (.tail _ (.tail _ (.tail _ (.head _))))) | exact List.mem_append_right _ (.head _) | exact List.mem_append_right _ (.tail _ (.head _)) | exact List.mem_append_right _ (.tail _ (.tail _ (.head _))) | exact List.mem_append_right _ (.tail _ (.tail _ (.tail _ (.head _)))) | exact .tail _ (List.mem_append_right _ (.head _)) | exact .tail _ (List.mem_append_right _ (.tail _ (.head _))) | exact .tail _ (List.mem_append_right _ (.tail _ (.tail _ (.head _)))) | exact .tail _ (List.mem_append_right _ (.tail _ (.tail _ (.tail _ (.head _))))) | exact .tail _ (.tail _ (List.mem_append_right _ (.head _))) | exact .tail _ (.tail _ (List.mem_append_right _ (.tail _ (.head _)))) | exact .tail _ (.tail _ (List.mem_append_right _ (.tail _ (.tail _ (.head _))))) | exact .tail _ (.tail _ (List.mem_append_right _ (.tail _ (.tail _ (.tail _ (.head _))))))) (by rfl)) ?_; simp only [Act.put, List.setIfInBounds_toArray, List.set_cons_succ, List.set_cons_zero]) | (refine wpl_alloc hL rfl _ rfl _ z_8 ?_; clear hL; intro bv w hL; simp only [Act.put, List.setIfInBounds_toArray, List.set_cons_succ, List.set_cons_zero]) | (refine wpl_strow hL rfl _ _ _ rfl _ rfl _ rfl _ s_8 _ rfl _ _ _ (by first | exact .here | exact .there .here | exact .there (.there .here) | exact .there (.there (.there .here)) | exact .there (.there (.there (.there .here))) | exact .pre (.here) | exact .pre (.there .here) | exact .pre (.there (.there .here))) (by repeat (first | exact all1_nil | refine all1_cons rfl ?_)) (by rfl) (by rfl) ?_; clear hL; intro w hL; simp only [Act.put, List.setIfInBounds_toArray, List.set_cons_succ, List.set_cons_zero]))
      go_loopw [8] (fun i wr => ∃ (t : Nat) (r : St), t ≤ 64 ∧ i = .int .i64 t ∧ Hid (r = rounds bs s t) ∧ Sees w0 wr [⟨bv, 72, r.v8⟩, ⟨bw, 93, rowF 64 fun j => W32 (wv bs j)⟩, ⟨g, 5, bytesV m ++ rest⟩, ⟨b8, 72, s.v8⟩, ⟨br, 80, rowF 32 fun _ => .int .u8 0⟩]) (fun i _ => 64 - (intOf i).toNat)
      case atStart => exact ⟨0, s, Nat.zero_le _, rfl, Lib.hid rfl, hL⟩
      case round =>
        clear hL
        obtain ⟨t, r, ht, rfl, hr, hL⟩ := hrel
        by_cases hlt : t < 64
        · go_wp2
          refine wp_region_lex [(.val, _), (.old, _), (.val, _), (.old, _), (.ext, _), (.val, _), (.old, _), (.ext, _), (.val, _), (.val, _), (.old, _), (.ext, _), (.val, _), (.val, _), (.val, _), (.old, _), (.val, _), (.old, _), (.val, _), (.val, _), (.old, _), (.val, _), (.val, _), (.old, _), (.val, _), (.val, _), (.val, _), (.val, _), (.val, _), (.old, _), (.val, _), (.val, _), (.val, _), (.old, _), (.val, _), (.val, _)] rfl mixed (by kernel_rfl) ?_
          replace hL := hL.drew
          have hI := hL
          have hS : Since wr.drew wr.drew := Below.refl _ _
          have hG := tabR_cell (hT.since hL) t hlt
          repeat (first | (refine wpLex_old rfl hS _ (fun w2 hS2 => run_load_plain rfl p_u32 rfl (hG w2 hS2)) ?_; simp only [Act.put, List.setIfInBounds_toArray, List.set_cons_succ, List.set_cons_zero]) | (refine wpLex_old rfl hS _ (fun w2 hS2 => run_load_plain rfl p_u32 rfl ((hI.call hS2).at (by first | exact .head _ | exact .tail _ (.head _) | exact .tail _ (.tail _ (.head _)) | exact .tail _ (.tail _ (.tail _ (.head _))) | exact .tail _ (.tail _ (.tail _ (.tail _ (.head _)))) | exact .tail _ (.tail _ (.tail _ (.tail _ (.tail _ (.head _))))) | exact List.mem_append_right _ (.head _) | exact List.mem_append_right _ (.tail _ (.head _)) | exact List.mem_append_right _ (.tail _ (.tail _ (.head _))) | exact List.mem_append_right _ (.tail _ (.tail _ (.tail _ (.head _)))) | exact .tail _ (List.mem_append_right _ (.head _)) | exact .tail _ (List.mem_append_right _ (.tail _ (.head _))) | exact .tail _ (List.mem_append_right _ (.tail _ (.tail _ (.head _)))) | exact .tail _ (List.mem_append_right _ (.tail _ (.tail _ (.tail _ (.head _))))) | exact .tail _ (.tail _ (List.mem_append_right _ (.head _))) | exact .tail _ (.tail _ (List.mem_append_right _ (.tail _ (.head _)))) | exact .tail _ (.tail _ (List.mem_append_right _ (.tail _ (.tail _ (.head _))))) | exact .tail _ (.tail _ (List.mem_append_right _ (.tail _ (.tail _ (.tail _ (.head _))))))) (rowF_at 64 _ t hlt))) ?_; simp only [Act.put, List.setIfInBounds_toArray, List.set_cons_succ, List.set_cons_zero]) | (refine wpLex_old rfl hS _ (fun w2 hS2 => run_load_plain rfl p_u32 rfl ((hI.call hS2).at (by first | exact .head _ | exact .tail _ (.head _) | exact .tail _ (.tail _ (.head _)) | exact .tail _ (.tail _ (.tail _ (.head _))) | exact .tail _ (.tail _ (.tail _ (.tail _ (.head _)))) | exact .tail _ (.tail _ (.tail _ (.tail _ (.tail _ (.head _))))) | exact List.mem_append_right _ (.head _) | exact List.mem_append_right _ (.tail _ (.head _)) | exact List.mem_append_right _ (.tail _ (.tail _ (.head _))) | exact List.mem_append_right _ (.tail _ (.tail _ (.tail _ (.head _)))) | exact .tail _ (List.mem_append_right _ (.head _)) | exact .tail _ (List.mem_append_right _ (.tail _ (.head _))) | exact .tail _ (List.mem_append_right _ (.tail _ (.tail _ (.head _)))) | exact .tail _ (List.mem_append_right _ (.tail _ (.tail _ (.tail _ (.head _))))) | exact .tail _ (.tail _ (List.mem_append_right _ (.head _))) | exact .tail _ (.tail _ (List.mem_append_right _ (.tail _ (.head _)))) | exact .tail _ (.tail _ (List.mem_append_right _ (.tail _ (.tail _ (.head _))))) | exact .tail _ (.tail _ (List.mem_append_right _ (.tail _ (.tail _ (.tail _ (.head _))))))) (by rfl))) ?_; simp only [Act.put, List.setIfInBounds_toArray, List.set_cons_succ, List.set_cons_zero]) | (refine xx_call en_refrotr rfl hS rfl rfl rfl (refrotr_any _ _ _ (by decide) (by decide)) ?_; rintro e w ⟨rfl, hb⟩; replace hS := hS.trans (hb.mono hS.size); refine ⟨_, rfl, hS, ?_⟩; replace hL := hL.call hb; clear hb; simp only [Act.put, List.setIfInBounds_toArray, List.set_cons_succ, List.set_cons_zero]) | (refine wpLex_val rfl _ (fun w2 => by (go_simp; (try simp only [w32_and, w32_xor, w32_ffff, w32_add, w32_addm]); (try rfl))) ?_; simp only [Act.put, List.setIfInBounds_toArray, List.set_cons_succ, List.set_cons_zero]))
          refine wpLex_nil ?_
          obtain ⟨X, hX⟩ : ∃ X, X = r.x (kc t) (wv bs t) := ⟨_, rfl⟩
          rw [show r.h + (rotr r.e 6 ^^^ rotr r.e 11 ^^^ rotr r.e 25) + (r.e &&& r.f ^^^ ~~~r.e &&& r.g) + kc t + wv bs t = X from hX.symm]
          have HX := Lib.hid hX
          clear hX hS hI hG
          go_wp2
          refine wp_region_lex [(.val, _), (.old, _), (.ext, _), (.val, _), (.old, _), (.ext, _), (.val, _), (.val, _), (.old, _), (.ext, _), (.val, _), (.val, _), (.old, _), (.val, _), (.old, _), (.val, _), (.val, _), (.old, _), (.val, _), (.old, _), (.val, _), (.val, _), (.val, _), (.old, _), (.val, _), (.old, _), (.val, _), (.val, _), (.val, _), (.val, _)] rfl mixed (by kernel_rfl) ?_
          replace hL := hL.drew
          have hI := hL
          have hS : Since w.drew w.drew := Below.refl _ _
          repeat (first | (refine wpLex_old rfl hS _ (fun w2 hS2 => run_load_plain rfl p_u32 rfl ((hI.call hS2).at (by first | exact .head _ | exact .tail _ (.head _) | exact .tail _ (.tail _ (.head _)) | exact .tail _ (.tail _ (.tail _ (.head _))) | exact .tail _ (.tail _ (.tail _ (.tail _ (.head _)))) | exact .tail _ (.tail _ (.tail _ (.tail _ (.tail _ (.head _))))) | exact List.mem_append_right _ (.head _) | exact List.mem_append_right _ (.tail _ (.head _)) | exact List.mem_append_right _ (.tail _ (.tail _ (.head _))) | exact List.mem_append_right _ (.tail _ (.tail _ (.tail _ (.head _)))) | exact .tail _ (List.mem_append_right _ (.head _)) | exact .tail _ (List.mem_append_right _ (.tail _ (.head _))) | exact .tail _ (List.mem_append_right _ (.tail _ (.tail _ (.head _)))) | exact .tail _ (List.mem_append_right _ (.tail _ (.tail _ (.tail _ (.head _))))) | exact .tail _ (.tail _ (List.mem_append_right _ (.head _))) | exact .tail _ (.tail _ (List.mem_append_right _ (.tail _ (.head _)))) | exact .tail _ (.tail _ (List.mem_append_right _ (.tail _ (.tail _ (.head _))))) | exact .tail _ (.tail _ (List.mem_append_right _ (.tail _ (.tail _ (.tail _ (.head _))))))) (by rfl))) ?_; simp only [Act.put, List.setIfInBounds_toArray, List.set_cons_succ, List.set_cons_zero]) | (refine xx_call en_refrotr rfl hS rfl rfl rfl (refrotr_any _ _ _ (by decide) (by decide)) ?_; rintro e w ⟨rfl, hb⟩; replace hS := hS.trans (hb.mono hS.size); refine ⟨_, rfl, hS, ?_⟩; replace hL := hL.call hb; clear hb; simp only [Act.put, List.setIfInBounds_toArray, List.set_cons_succ, List.set_cons_zero]) | (refine wpLex_val rfl _ (fun w2 => by (go_simp; (try simp only [w32_and, w32_xor, w32_add, w32_addm]); (try rfl))) ?_; simp only [Act.put, List.setIfInBounds_toArray, List.set_cons_succ, List.set_cons_zero]))
          refine wpLex_nil ?_
          obtain ⟨Y, hY⟩ : ∃ Y, Y = r.y := ⟨_, rfl⟩
          rw [show (rotr r.a 2 ^^^ rotr r.a 13 ^^^ rotr r.a 22) + (r.a &&& r.b ^^^ r.a &&& r.c ^^^ r.b &&& r.c) = Y from hY.symm]
          have HY := Lib.hid hY
          clear hY hS hI
          go_wp2_with (first | (refine wpl_run rfl (run_load_plain rfl p_u32 rfl (hL.at (by first | exact .head _ | exact .tail _ (.head _) | exact .tail _ (.tail _ (.head _)) | exact .tail _ (.tail _ (.tail _ (.head _))) | exact .tail _ (.tail _ (.tail _ (.tail _ (.head _)))) | exact .tail _ (.tail _ (.tail _ (.tail _ (.tail _ (.head _))))) | exact List.mem_append_right _ (.head _) | exact List.mem_append_right _ (.tail _ (.head _)) | exact List.mem_append_right _ (.tail _ (.tail _ (.head _))) | exact List.mem_append_right _ (.tail _ (.tail _ (.tail _ (.head _)))) | exact .tail _ (List.mem_append_right _ (.head _)) | exact .tail _ (List.mem_append_right _ (.tail _ (.head _))) | exact .tail _ (List.mem_append_right _ (.tail _ (.tail _ (.head _)))) | exact .tail _ (List.mem_append_right _ (.tail _ (.tail _ (.tail _ (.head _))))) | exact .tail _ (.tail _ (List.mem_append_right _ (.head _))) | exact .tail _ (.tail _ (List.mem_append_right _ (.tail _ (.head _)))) | exact .tail _ (.tail _ (List.mem_append_right _ (.tail _ (.tail _ (.head _))))) | exact .tail _ (.tail _ (List.mem_append_right _ (.tail _ (.tail _ (.tail _ (.head _))))))) (by rfl))) ?_; simp only [Act.put, List.setIfInBounds_toArray, List.set_cons_succ, List.set_cons_zero]) | (refine wpl_strow hL rfl _ _ _ rfl _ rfl _ rfl _ s_8 _ rfl _ _ _ (by first | exact .here | exact .there .here | exact .there (.there .here) | exact .there (.there (.there .here)) | exact .there (.there (.there (.there .here))) | exact .pre (.here) | exact .pre (.there .here) | exact .pre (.there (.there .here))) (by repeat (first | exact all1_nil | refine all1_cons rfl ?_)) (by rfl) (by rfl) ?_; clear hL; intro w hL; simp only [Act.put, List.setIfInBounds_toArray, List.set_cons_succ, List.set_cons_zero]))
          rw [w32_addm r.d X, w32_addm X Y] at hL
          go_roundw
          case rel =>
            refine ⟨t + 1, r.rnd (kc t) (wv bs t), by omega, by rfl, Lib.hid (by rw [hr.out]; rfl), ?_⟩
            have e1 := HX.out
            have e2 := HY.out
            subst e1; subst e2
            exact hL
          case measure => simp [intOf]; omega
        · obtain rfl : t = 64 := by omega
          go_wp2
          rw [v8_eq, v8_eq] at hL
          go_loopw [11] (fun i wr => ∃ (q : Nat) (f : Nat → BitVec 32), q ≤ 8 ∧ i = .int .i64 q ∧ Hid (∀ j, f j = if j < q then s.at j + r.at j else s.at j) ∧ Sees w0 wr [⟨bv, 72, rowF 8 fun j => W32 (r.at j)⟩, ⟨bw, 93, rowF 64 fun j => W32 (wv bs j)⟩, ⟨g, 5, bytesV m ++ rest⟩, ⟨b8, 72, rowF 8 fun j => W32 (f j)⟩, ⟨br, 80, rowF 32 fun _ => .int .u8 0⟩]) (fun i _ => 8 - (intOf i).toNat)
          case atStart => exact ⟨0, s.at, by omega, rfl, Lib.hid (fun j => by rw [if_neg (by omega)]), hL⟩
          case round =>
            clear hL
            obtain ⟨p, f, hp, rfl, hf, hL⟩ := hrel
            by_cases hp8 : p < 8
            · have g0 : f p = s.at p := by rw [hf.out p, if_neg (by omega)]
              have G0 := Lib.hid g0
              clear g0
              go_wp2
              refine wp_region_lex [(.val, _), (.val, _), (.val, _), (.calm, _), (.val, _), (.val, _), (.calm, _), (.val, _), (.val, _), (.eff, _)] rfl mixed (by kernel_rfl) ?_
              replace hL := hL.drew
              repeat (first | (refine wpLex_calm rfl _ (run_load_plain rfl p_u32 rfl (hL.at (by first | exact .head _ | exact .tail _ (.head _) | exact .tail _ (.tail _ (.head _)) | exact .tail _ (.tail _ (.tail _ (.head _))) | exact .tail _ (.tail _ (.tail _ (.tail _ (.head _)))) | exact .tail _ (.tail _ (.tail _ (.tail _ (.tail _ (.head _))))) | exact List.mem_append_right _ (.head _) | exact List.mem_append_right _ (.tail _ (.head _)) | exact List.mem_append_right _ (.tail _ (.tail _ (.head _))) | exact List.mem_append_right _ (.tail _ (.tail _ (.tail _ (.head _)))) | exact .tail _ (List.mem_append_right _ (.head _)) | exact .tail _ (List.mem_append_right _ (.tail _ (.head _))) | exact .tail _ (List.mem_append_right _ (.tail _ (.tail _ (.head _)))) | exact .tail _ (List.mem_append_right _ (.tail _ (.tail _ (.tail _ (.head _))))) | exact .tail _ (.tail _ (List.mem_append_right _ (.head _))) | exact .tail _ (.tail _ (List.mem_append_right _ (.tail _ (.head _)))) | exact .tail _ (.tail _ (List.mem_append_right _ (.tail _ (.tail _ (.head _))))) | exact .tail _ (.tail _ (List.mem_append_right _ (.tail _ (.tail _ (.tail _ (.head _))))))) (rowF_at _ _ _ (by omega)))) ?_; simp only [Act.put, List.setIfInBounds_toArray, List.set_cons_succ, List.set_cons_zero]) | (refine x_set1 hL rfl _ _ _ rfl _ _ rfl _ rfl s_u32 rfl rfl _ _ _ _ (by first | exact .here | exact .there .here | exact .there (.there .here) | exact .there (.there (.there .here)) | exact .there (.there (.there (.there .here))) | exact .pre (.here) | exact .pre (.there .here) | exact .pre (.there (.there .here))) (by rw [rowF_len]; omega) (rowF_set 8 _ (fun j => W32 (if j = p then s.at p + r.at p else f j)) p _ (by omega) (by simp only [if_true]; exact congrArg (fun z => W32 (z + r.at p)) G0.out.symm) (fun j _ hne => by simp only [if_neg hne])) ?_; clear hL; intro w hL; simp only [Act.put, List.setIfInBounds_toArray, List.set_cons_succ, List.set_cons_zero]) | (refine wpLex_val rfl _ (fun w2 => by (go_simp; (try simp only [w32_add, w32_addm]); (try rfl))) ?_; simp only [Act.put, List.setIfInBounds_toArray, List.set_cons_succ, List.set_cons_zero]))
              refine wpLex_nil ?_
              go_wp2
              go_roundw
              case rel =>
                refine ⟨p + 1, fun j => if j = p then s.at p + r.at p else f j, by omega, by rfl, Lib.hid (fun j => ?_), hL⟩
                by_cases h : j = p
                · simp only [if_pos h]; rw [if_pos (by omega), h]
                · simp only [if_neg h]; rw [hf.out j]
                  by_cases h2 : j < p
                  · rw [if_pos h2, if_pos (by omega)]
                  · rw [if_neg h2, if_neg (by omega)]
              case measure => simp [intOf]; omega
            · obtain rfl : p = 8 := by omega
              go_wp2
              go_roundw
              case rel =>
                refine ⟨q + 1, a + 64, Lib.hid (by rw [ha.out]; omega), by omega, by rfl, ?_⟩
                have e1 : (chunks s0 m (q + 1)).v8 = rowF 8 fun j => W32 (f j) := by
                  show (compr (chunks s0 m q) ((m.drop (64 * q)).take 64)).v8 = _
                  rw [v8_eq, ← ha.out, ← HB.out, ← HSt.out]
                  exact rowF_congr 8 _ _ (fun j hj => by
                    simp only [hf.out j]
                    rw [if_pos hj]
                    show W32 ((s.add (rounds bs s 64)).at j) = _
                    rw [add_at _ _ _ hj, hr.out])
                rw [e1]
                exact hL.forget (.cons _ (.cons _ (List.Sublist.refl _)))
              case measure => simp [intOf]; omega
    · obtain rfl : a = N := by omega
      have hso : Hid (outV (chunks s0 (l ++ padL l.length) ((l ++ padL l.length).length / 64)) = outV s) := Lib.hid (by
        rw [← HM.out, ← HN.out, HSt.out]
        congr 2
        have := ha.out; omega)
      clear hlt haN hNc2 hNc
      go_wp2_with (first | (refine wpl_alloc hL rfl _ rfl _ z_32 ?_; clear hL; intro bo w hL; simp only [Act.put, List.setIfInBounds_toArray, List.set_cons_succ, List.set_cons_zero]))
      go_loopw [13] (fun i wr => ∃ (q : Nat) (f : Nat → Int), q ≤ 32 ∧ i = .int .i64 q ∧ Hid (∀ j, f j = if j < q then outB s j else 0) ∧
        Sees w0 wr [⟨bo, 80, rowF 32 fun j => .int .u8 (f j)⟩, ⟨g, 5, bytesV m ++ rest⟩, ⟨b8, 72, s.v8⟩, ⟨br, 80, rowF 32 fun _ => .int .u8 0⟩]) (fun i _ => 32 - (intOf i).toNat)
      case atStart => exact ⟨0, fun _ => 0, by decide, rfl, Lib.hid (fun j => by simp), hL⟩
      case round =>
        clear hL
        obtain ⟨q, f, hq32, rfl, hf, hL⟩ := hrel
        by_cases hq' : q < 32
        · obtain ⟨D, hD0, hD1, HD⟩ : ∃ D : Nat, 0 ≤ (D : Int) ∧ (D : Int) < 8 ∧ Hid (D = q / 4) := ⟨q / 4, by omega, by omega, Lib.hid rfl⟩
          obtain ⟨E, hE0, hE1, HE⟩ : ∃ E : Nat, 0 ≤ (E : Int) ∧ (E : Int) < 4 ∧ Hid (E = q % 4) := ⟨q % 4, by omega, by omega, Lib.hid rfl⟩
          have d1 : (q : Int).tdiv 4 = (D : Int) := by rw [Int.tdiv_eq_ediv_of_nonneg (by omega), HD.out]; omega
          have d2 : (q : Int) / 4 = (D : Int) := by rw [HD.out]; omega
          have e1 : (q : Int).tmod 4 = (E : Int) := by rw [Int.tmod_eq_emod_of_nonneg (by omega), HE.out]; omega
          have e2 : (q : Int) % 4 = (E : Int) := by rw [HE.out]; omega
          obtain ⟨S, hS0, hS1, HS⟩ : ∃ S : Int, 0 ≤ S ∧ S ≤ 24 ∧ Hid (S = 24 - 8 * (E : Int)) := ⟨24 - 8 * (E : Int), by omega, by omega, Lib.hid rfl⟩
          have eS : (24 : Int) - 8 * (E : Int) = S := HS.out.symm
          have hD8 : D < 8 := by omega
          have hval : Hid (Value.int IntKind.u8 (outB s q) = Value.int IntKind.u8 (w32 (s.at D) / 2 ^ S.toNat % 256)) := Lib.hid (by
            unfold outB
            rw [← HD.out, ← HE.out, show S.toNat = 24 - 8 * E from by rw [HS.out]; omega])
          rw [v8_eq] at hL
          go_wp2_with (first | (refine wpl_run rfl (run_load_plain rfl p_u32 rfl (hL.at (by first | exact .head _ | exact .tail _ (.head _) | exact .tail _ (.tail _ (.head _)) | exact .tail _ (.tail _ (.tail _ (.head _))) | exact .tail _ (.tail _ (.tail _ (.tail _ (.head _)))) | exact .tail _ (.tail _ (.tail _ (.tail _ (.tail _ (.head _))))) | exact List.mem_append_right _ (.head _) | exact List.mem_append_right _ (.tail _ (.head _)) | exact List.mem_append_right _ (.tail _ (.tail _ (.head _))) | exact List.mem_append_right _ (.tail _ (.tail _ (.tail _ (.head _)))) | exact .tail _ (List.mem_append_right _ (.head _)) | exact .tail _ (List.mem_append_right _ (.tail _ (.head _))) | exact .tail _ (List.mem_append_right _ (.tail _ (.tail _ (.head _)))) | exact .tail _ (List.mem_append_right _ (.tail _ (.tail _ (.tail _ (.head _))))) | exact .tail _ (.tail _ (List.mem_append_right _ (.head _))) | exact .tail _ (.tail _ (List.mem_append_right _ (.tail _ (.head _)))) | exact .tail _ (.tail _ (List.mem_append_right _ (.tail _ (.tail _ (.head _))))) | exact .tail _ (.tail _ (List.mem_append_right _ (.tail _ (.tail _ (.tail _ (.head _))))))) (rowF_at 8 _ _ hD8))) ?_; simp only [Act.put, List.setIfInBounds_toArray, List.set_cons_succ, List.set_cons_zero]) | (refine wpl_set1 hL rfl _ _ _ rfl _ _ rfl _ rfl s_u8 rfl rfl _ _ _ _ (by first | exact .here | exact .there .here | exact .there (.there .here) | exact .there (.there (.there .here)) | exact .there (.there (.there (.there .here))) | exact .pre (.here) | exact .pre (.there .here) | exact .pre (.there (.there .here))) (by rw [rowF_len]; exact hq') (rowF_set 32 _ (fun j => .int .u8 (if j = q then outB s q else f j)) q _ hq' (by simp only [if_true]; exact hval.out) (fun j _ hne => by simp only [if_neg hne])) ?_; clear hL; intro w hL; simp only [Act.put, List.setIfInBounds_toArray, List.set_cons_succ, List.set_cons_zero]))
          rw [← v8_eq] at hL
          refine ⟨⟨q + 1, fun j => if j = q then outB s q else f j, by omega, rfl, Lib.hid (fun j => ?_), hL⟩, ?_⟩
          · by_cases h : j = q
            · simp only [if_pos h]; rw [if_pos (by omega), h]
            · simp only [if_neg h]; rw [hf.out j]
              by_cases h2 : j < q
              · rw [if_pos h2, if_pos (by omega)]
              · rw [if_neg h2, if_neg (by omega)]
          · simp [intOf]; omega
        · obtain rfl : q = 32 := by omega
          go_wp2_with (first | (refine wpl_run rfl (run_load_row hL rfl a_32 rfl (by first | exact .head _ | exact .tail _ (.head _) | exact .tail _ (.tail _ (.head _)) | exact .tail _ (.tail _ (.tail _ (.head _))) | exact .tail _ (.tail _ (.tail _ (.tail _ (.head _)))) | exact .tail _ (.tail _ (.tail _ (.tail _ (.tail _ (.head _))))) | exact List.mem_append_right _ (.head _) | exact List.mem_append_right _ (.tail _ (.head _)) | exact List.mem_append_right _ (.tail _ (.tail _ (.head _))) | exact List.mem_append_right _ (.tail _ (.tail _ (.tail _ (.head _)))) | exact .tail _ (List.mem_append_right _ (.head _)) | exact .tail _ (List.mem_append_right _ (.tail _ (.head _))) | exact .tail _ (List.mem_append_right _ (.tail _ (.tail _ (.head _)))) | exact .tail _ (List.mem_append_right _ (.tail _ (.tail _ (.tail _ (.head _))))) | exact .tail _ (.tail _ (List.mem_append_right _ (.head _))) | exact .tail _ (.tail _ (List.mem_append_right _ (.tail _ (.head _)))) | exact .tail _ (.tail _ (List.mem_append_right _ (.tail _ (.tail _ (.head _))))) | exact .tail _ (.tail _ (List.mem_append_right _ (.tail _ (.tail _ (.tail _ (.head _))))))) (by rfl)) ?_; simp only [Act.put, List.setIfInBounds_toArray, List.set_cons_succ, List.set_cons_zero]) | (refine wpl_strow hL rfl _ _ _ rfl _ rfl _ rfl _ s_32 _ rfl _ _ _ (by first | exact .here | exact .there .here | exact .there (.there .here) | exact .there (.there (.there .here)) | exact .there (.there (.there (.there .here))) | exact .pre (.here) | exact .pre (.there .here) | exact .pre (.there (.there .here))) (rowF_one _ _ fun _ => rfl) (by rfl) (by rfl) ?_; clear hL; intro w hL; simp only [Act.put, List.setIfInBounds_toArray, List.set_cons_succ, List.set_cons_zero]))
          refine bodyPost_cell rfl a_32 rfl rfl hL (by first | exact .head _ | exact .tail _ (.head _) | exact .tail _ (.tail _ (.head _)) | exact .tail _ (.tail _ (.tail _ (.head _))) | exact .tail _ (.tail _ (.tail _ (.tail _ (.head _)))) | exact .tail _ (.tail _ (.tail _ (.tail _ (.tail _ (.head _))))) | exact List.mem_append_right _ (.head _) | exact List.mem_append_right _ (.tail _ (.head _)) | exact List.mem_append_right _ (.tail _ (.tail _ (.head _))) | exact List.mem_append_right _ (.tail _ (.tail _ (.tail _ (.head _)))) | exact .tail _ (List.mem_append_right _ (.head _)) | exact .tail _ (List.mem_append_right _ (.tail _ (.head _))) | exact .tail _ (List.mem_append_right _ (.tail _ (.tail _ (.head _)))) | exact .tail _ (List.mem_append_right _ (.tail _ (.tail _ (.tail _ (.head _))))) | exact .tail _ (.tail _ (List.mem_append_right _ (.head _))) | exact .tail _ (.tail _ (List.mem_append_right _ (.tail _ (.head _)))) | exact .tail _ (.tail _ (List.mem_append_right _ (.tail _ (.tail _ (.head _))))) | exact .tail _ (.tail _ (List.mem_append_right _ (.tail _ (.tail _ (.tail _ (.head _))))))) (rowF_len _ _) ⟨?_, hL.below⟩
          rw [hso.out]
          unfold outV
          rw [rowF_congr 32 (fun j => .int .u8 (f j)) (fun j => .int .u8 (outB s j)) (fun j hj => by simp only [hf.out j, if_pos hj])]
theorem en_refsum : enterable Tryd.prog 84 = true := by kernel_rfl
end Go.Proofs.YticponffemffnaaDoor
end
section
/- The program's hash is the specification's; the specification's digest. -/
set_option linter.unusedVariables false
set_option linter.unusedSimpArgs false
namespace Go.Lx
open Go Go.RowKit Go.Proofs.YticponffemffnaaDoorW.PrintWords
theorem IsSl.row_of {v : Value} {e : TypeId} {size n : Nat} {xs : List Value} {Lv : List Blk} (h : IsSl v e size n xs Lv) (hn : 0 < n) : ∃ b cap rest, v = .slice (some ⟨b, 0, none⟩) n cap ∧ Lv = [⟨b, e, xs ++ rest⟩] := by
  cases h with
  | nil _ h0 _ _ => omega
  | row b cap rest hv hx hc hn hm hl => exact ⟨b, cap, rest, hv, hl⟩
theorem app_left {α : Type} {l r : List α} {j : Nat} {v : α} (h : l[j]? = some v) : (l ++ r)[j]? = some v := by
  rw [List.getElem?_append_left]
  · exact h
  · rcases Nat.lt_or_ge j l.length with h1 | h1
    · exact h1
    · rw [List.getElem?_eq_none h1] at h; cases h
theorem bytesV_of (l : List UInt8) : bytesV l = (ofBytes l).map (Value.int .u8) := by unfold ofBytes bytesV; rw [List.map_map]; rfl
/-- a slice of bytes of the call's own is read by the print's words -/
theorem sl_C {w0 w : World} {L Lv : List Blk} {v : Value} {e n : Nat} {l : List UInt8} (h : IsSl v e 1 n (bytesV l) Lv) (hL : Sees w0 w L) (hs : ∀ x ∈ Lv, x ∈ L) :
    ∃ A c, v = .slice A l.length c ∧ l.length ≤ c ∧ (Kd.int .u8).C w A (ofBytes l).length (ofBytes l) := by
  rw [bytesV_of] at h
  obtain ⟨A, c, h1, h2, h3⟩ := Kd.R_reads (R_of_sl (h1 := fun _ => rfl) h hL hs)
  rw [ofBytes_length] at h1 h2
  exact ⟨A, c, h1, h2, h3⟩
end Go.Lx
namespace Go.Proofs.YticponffemffnaaDoor
open Go Go.RowKit Go.Lx Go.Proofs.YticponffemffnaaDoorW.PrintWords
attribute [local irreducible] Calls

theorem Sm.add_part (s : Sm) (bs : List UInt8) (hs : s.n % 64 = 0) (hb : s.blk.length = 64) (hl : bs.length = 64) : ∀ k, k ≤ 63 → s.add (bs.take k) = ⟨s.st, bs.take k ++ s.blk.drop k, s.n + k⟩
  | 0, _ => by simp [Sm.add]
  | k + 1, hk => by
    have ih := Sm.add_part s bs hs hb hl k (by omega)
    rw [List.take_succ_eq_append_getElem (by omega), Sm.add_append, ih]
    show Sm.add1 _ _ = _
    unfold Sm.add1
    have h1 : (s.n + k) % 64 = k := by omega
    simp only [h1]
    rw [if_neg (by omega)]
    have h2 : (bs.take k ++ s.blk.drop k).set k (bs[k]'(by omega)) = bs.take k ++ [bs[k]'(by omega)] ++ s.blk.drop (k + 1) := by
      have h3 : (bs.take k).length = k := by rw [List.length_take]; omega
      rw [List.set_append_right k _ (by omega), h3, Nat.sub_self, List.drop_eq_getElem_cons (by omega), List.set_cons_zero, List.append_assoc]
      rfl
    rw [h2]
    rfl
theorem Sm.add_block (s : Sm) (bs : List UInt8) (hs : s.n % 64 = 0) (hb : s.blk.length = 64) (hl : bs.length = 64) : s.add bs = ⟨compr s.st bs, bs, s.n + 64⟩ := by
  have e : bs = bs.take 63 ++ [bs[63]'(by omega)] := by
    rw [← List.take_succ_eq_append_getElem (by omega), List.take_of_length_le (by omega)]
  conv => lhs; rw [e, Sm.add_append, Sm.add_part s bs hs hb hl 63 (by omega)]
  show Sm.add1 _ _ = _
  unfold Sm.add1
  have h1 : (s.n + 63) % 64 = 63 := by omega
  simp only [h1]
  rw [if_pos trivial]
  have h2 : (bs.take 63 ++ s.blk.drop 63).set 63 (bs[63]'(by omega)) = bs := by
    have h3 : (bs.take 63).length = 63 := by rw [List.length_take]; omega
    rw [List.set_append_right 63 _ (by omega), h3, Nat.sub_self, List.drop_eq_getElem_cons (by omega), List.set_cons_zero, List.drop_of_length_le (by omega)]
    exact e.symm
  rw [h2]
theorem chunks_add (m : List UInt8) : ∀ q, 64 * q ≤ m.length → (sm0.add (m.take (64 * q))).st = chunks s0 m q ∧ (sm0.add (m.take (64 * q))).n = 64 * q
  | 0, _ => by simp [Sm.add]; exact ⟨rfl, rfl⟩
  | q + 1, h => by
    obtain ⟨h1, h2⟩ := chunks_add m q (by omega)
    have e : m.take (64 * (q + 1)) = m.take (64 * q) ++ (m.drop (64 * q)).take 64 := by
      rw [show 64 * (q + 1) = 64 * q + 64 from by omega, List.take_add]
    have hb := Sm.add_block (sm0.add (m.take (64 * q))) ((m.drop (64 * q)).take 64) (by rw [h2]; omega) (sm0_blk _) (by rw [List.length_take, List.length_drop]; omega)
    rw [e, Sm.add_append, hb]
    refine ⟨by rw [h1]; rfl, ?_⟩
    show (sm0.add (m.take (64 * q))).n + 64 = _
    rw [h2]; omega
/-- the specification's hash is the program's -/
theorem ref_sha (l : List UInt8) : outV (chunks s0 (l ++ padL l.length) ((l ++ padL l.length).length / 64)) = shaV l := by
  have hz := padZ_spec l.length
  have hpl : (padL l.length).length = padZ l.length + 9 := by unfold padL be8; simp
  have hlen : (l ++ padL l.length).length = 64 * ((l ++ padL l.length).length / 64) := by rw [List.length_append, hpl]; omega
  have h := (chunks_add (l ++ padL l.length) _ (Nat.le_of_eq hlen.symm)).1
  rw [← hlen, List.take_length] at h
  unfold shaV shaOut
  rw [sm0_n, ← Sm.add_append, h]
theorem refsha_any (v : Value) (A : Option Addr) (c : Nat) (l : List UInt8) (w0 : World) (hv : v = .slice A l.length c) (hR : (Kd.int .u8).C w0 A (ofBytes l).length (ofBytes l)) (hc : l.length ≤ c) (hn : l.length ≤ 1000000) (hT : TabR w0) :
    Calls Tryd.prog 84 #[v] w0 fun e w' => e = .returned (.agg (shaV l).toArray) ∧ Below w0.heap.size w0 w' := by
  have h := refsum_any v A c l w0 hv hR hc hn hT
  rw [ref_sha] at h
  exact h

theorem en_short : enterable Tryd.prog 80 = true := by kernel_rfl
set_option maxRecDepth 100000 in
set_option maxHeartbeats 2000000 in
theorem refshort_any (v : Value) (A : Option Addr) (c : Nat) (l : List UInt8) (w0 : World) (hv : v = .slice A l.length c) (hR : (Kd.int .u8).C w0 A (ofBytes l).length (ofBytes l)) (hc : l.length ≤ c) (hn : l.length ≤ 1000000) (hT : TabR w0) :
    Calls Tryd.prog 80 #[v] w0 fun e w' => e = .returned (.agg (digV l).toArray) ∧ Below w0.heap.size w0 w' := by
  subst hv
  have hL := Sees.refl w0
  obtain ⟨st, hst⟩ : ∃ st, st = ((sm0.add l).add (padL l.length)).st := ⟨_, rfl⟩
  have hsha : shaV l = outV st := by unfold shaV shaOut; rw [sm0_n, hst]
  have hdig : Hid (digV l = rowF 16 fun i => .int .u8 (outB st i)) := Lib.hid (by unfold digV; rw [hst])
  clear hst
  have hcall := fun w (hL : Sees w0 w []) => refsha_any _ A c l w rfl (Kd.C_below hR hL.below) hc hn (hT.since hL)
  rw [hsha] at hcall
  clear hsha
  go_enter Tryd.func80, Tryd.ntmps80
  go_wp2_with (first | (refine wpl_alloc hL rfl _ rfl _ z_16 ?_; clear hL; intro b w hL; simp only [Act.put, List.setIfInBounds_toArray, List.set_cons_succ, List.set_cons_zero]) | (go_at_call 84; refine (hcall _ (hL.forget (List.nil_sublist _))).mono ?_; rintro e w ⟨rfl, hb⟩; replace hL := hL.call hb; clear hb) | (refine wpl_alloc hL rfl _ rfl _ z_32 ?_; clear hL; intro bh w hL; simp only [Act.put, List.setIfInBounds_toArray, List.set_cons_succ, List.set_cons_zero]) | (refine wpl_strow hL rfl _ _ _ rfl _ rfl _ rfl _ s_32 _ rfl _ _ _ (by first | exact .here | exact .there .here | exact .there (.there .here) | exact .there (.there (.there .here)) | exact .there (.there (.there (.there .here))) | exact .pre (.here) | exact .pre (.there .here) | exact .pre (.there (.there .here))) (rowF_one _ _ fun _ => rfl) (by exact rowF_len _ _) (by exact rowF_len _ _) ?_; clear hL; intro w hL; simp only [Act.put, List.setIfInBounds_toArray, List.set_cons_succ, List.set_cons_zero]) | (refine wpl_run rfl (run_build_op (t := 55) rfl (cells := (rowF 16 fun _ => .int .u8 0).toArray) (by kernel_rfl)) ?_; simp only [Act.put, List.setIfInBounds_toArray, List.set_cons_succ, List.set_cons_zero]) | (refine wpl_strow hL rfl _ _ _ rfl _ rfl _ rfl _ s_16 _ rfl _ _ _ (by first | exact .here | exact .there .here | exact .there (.there .here) | exact .there (.there (.there .here)) | exact .there (.there (.there (.there .here))) | exact .pre (.here) | exact .pre (.there .here) | exact .pre (.there (.there .here))) (rowF_one _ _ fun _ => rfl) (by exact rowF_len _ _) (by exact rowF_len _ _) ?_; clear hL; intro w hL; simp only [Act.put, List.setIfInBounds_toArray, List.set_cons_succ, List.set_cons_zero]))
  obtain ⟨bo, rfl⟩ : ∃ bo, bo = b := ⟨_, rfl⟩
  obtain ⟨br, rfl⟩ : ∃ br, br = b := ⟨_, rfl⟩
  unfold outV at hL
  go_loopw [5] (fun i wr => ∃ (q : Nat) (f : Nat → Int), q ≤ 16 ∧ i = .int .i64 q ∧ Hid (∀ j, f j = if j < q then outB st j else 0) ∧
    Sees w0 wr [⟨bo, 55, rowF 16 fun j => .int .u8 (f j)⟩, ⟨bh, 80, rowF 32 fun i => .int .u8 (outB st i)⟩, ⟨br, 55, rowF 16 fun _ => .int .u8 0⟩]) (fun i _ => 16 - (intOf i).toNat)
  case atStart => exact ⟨0, fun _ => 0, by decide, rfl, Lib.hid (fun j => by simp), hL⟩
  case round =>
    clear hL
    obtain ⟨q, f, hq16, rfl, hf, hL⟩ := hrel
    by_cases hq : q < 16
    · have hq32 : q < 32 := by omega
      have hq32i : (q : Int) < 32 := by omega
      go_wp2_with (first | (refine wpl_run rfl (run_load_plain rfl p_u8 rfl (hL.at (by first | exact .head _ | exact .tail _ (.head _) | exact .tail _ (.tail _ (.head _)) | exact .tail _ (.tail _ (.tail _ (.head _))) | exact .tail _ (.tail _ (.tail _ (.tail _ (.head _)))) | exact .tail _ (.tail _ (.tail _ (.tail _ (.tail _ (.head _))))) | exact List.mem_append_right _ (.head _) | exact List.mem_append_right _ (.tail _ (.head _)) | exact List.mem_append_right _ (.tail _ (.tail _ (.head _))) | exact List.mem_append_right _ (.tail _ (.tail _ (.tail _ (.head _)))) | exact .tail _ (List.mem_append_right _ (.head _)) | exact .tail _ (List.mem_append_right _ (.tail _ (.head _))) | exact .tail _ (List.mem_append_right _ (.tail _ (.tail _ (.head _)))) | exact .tail _ (List.mem_append_right _ (.tail _ (.tail _ (.tail _ (.head _))))) | exact .tail _ (.tail _ (List.mem_append_right _ (.head _))) | exact .tail _ (.tail _ (List.mem_append_right _ (.tail _ (.head _)))) | exact .tail _ (.tail _ (List.mem_append_right _ (.tail _ (.tail _ (.head _))))) | exact .tail _ (.tail _ (List.mem_append_right _ (.tail _ (.tail _ (.tail _ (.head _))))))) (rowF_at 32 _ q hq32))) ?_; simp only [Act.put, List.setIfInBounds_toArray, List.set_cons_succ, List.set_cons_zero]) | (refine wpl_set1 hL rfl _ _ _ rfl _ _ rfl _ rfl s_u8 rfl rfl _ _ _ _ (by first | exact .here | exact .there .here | exact .there (.there .here) | exact .there (.there (.there .here)) | exact .there (.there (.there (.there .here))) | exact .pre (.here) | exact .pre (.there .here) | exact .pre (.there (.there .here))) (by rw [rowF_len]; exact hq) (rowF_set 16 _ (fun j => .int .u8 (if j = q then outB st q else f j)) q _ hq (by simp only [if_true]; rfl) (fun j _ hne => by simp only [if_neg hne])) ?_; clear hL; intro w hL; simp only [Act.put, List.setIfInBounds_toArray, List.set_cons_succ, List.set_cons_zero]))
      refine ⟨⟨q + 1, fun j => if j = q then outB st q else f j, by omega, rfl, Lib.hid (fun j => ?_), hL⟩, ?_⟩
      · by_cases h : j = q
        · simp only [if_pos h]; rw [if_pos (by omega), h]
        · simp only [if_neg h]; rw [hf.out j]
          by_cases h2 : j < q
          · rw [if_pos h2, if_pos (by omega)]
          · rw [if_neg h2, if_neg (by omega)]
      · simp [intOf]; omega
    · obtain rfl : q = 16 := by omega
      go_wp2_with (first | (refine wpl_run rfl (run_load_row hL rfl a_16 rfl (by first | exact .head _ | exact .tail _ (.head _) | exact .tail _ (.tail _ (.head _)) | exact .tail _ (.tail _ (.tail _ (.head _))) | exact .tail _ (.tail _ (.tail _ (.tail _ (.head _)))) | exact .tail _ (.tail _ (.tail _ (.tail _ (.tail _ (.head _))))) | exact List.mem_append_right _ (.head _) | exact List.mem_append_right _ (.tail _ (.head _)) | exact List.mem_append_right _ (.tail _ (.tail _ (.head _))) | exact List.mem_append_right _ (.tail _ (.tail _ (.tail _ (.head _)))) | exact .tail _ (List.mem_append_right _ (.head _)) | exact .tail _ (List.mem_append_right _ (.tail _ (.head _))) | exact .tail _ (List.mem_append_right _ (.tail _ (.tail _ (.head _)))) | exact .tail _ (List.mem_append_right _ (.tail _ (.tail _ (.tail _ (.head _))))) | exact .tail _ (.tail _ (List.mem_append_right _ (.head _))) | exact .tail _ (.tail _ (List.mem_append_right _ (.tail _ (.head _)))) | exact .tail _ (.tail _ (List.mem_append_right _ (.tail _ (.tail _ (.head _))))) | exact .tail _ (.tail _ (List.mem_append_right _ (.tail _ (.tail _ (.tail _ (.head _))))))) (by rfl)) ?_; simp only [Act.put, List.setIfInBounds_toArray, List.set_cons_succ, List.set_cons_zero]) | (refine wpl_strow hL rfl _ _ _ rfl _ rfl _ rfl _ s_16 _ rfl _ _ _ (by first | exact .here | exact .there .here | exact .there (.there .here) | exact .there (.there (.there .here)) | exact .there (.there (.there (.there .here))) | exact .pre (.here) | exact .pre (.there .here) | exact .pre (.there (.there .here))) (rowF_one _ _ fun _ => rfl) (by rfl) (by rfl) ?_; clear hL; intro w hL; simp only [Act.put, List.setIfInBounds_toArray, List.set_cons_succ, List.set_cons_zero]))
      refine bodyPost_cell rfl a_16 rfl rfl hL (by first | exact .head _ | exact .tail _ (.head _) | exact .tail _ (.tail _ (.head _)) | exact .tail _ (.tail _ (.tail _ (.head _))) | exact .tail _ (.tail _ (.tail _ (.tail _ (.head _)))) | exact .tail _ (.tail _ (.tail _ (.tail _ (.tail _ (.head _))))) | exact List.mem_append_right _ (.head _) | exact List.mem_append_right _ (.tail _ (.head _)) | exact List.mem_append_right _ (.tail _ (.tail _ (.head _))) | exact List.mem_append_right _ (.tail _ (.tail _ (.tail _ (.head _)))) | exact .tail _ (List.mem_append_right _ (.head _)) | exact .tail _ (List.mem_append_right _ (.tail _ (.head _))) | exact .tail _ (List.mem_append_right _ (.tail _ (.tail _ (.head _)))) | exact .tail _ (List.mem_append_right _ (.tail _ (.tail _ (.tail _ (.head _))))) | exact .tail _ (.tail _ (List.mem_append_right _ (.head _))) | exact .tail _ (.tail _ (List.mem_append_right _ (.tail _ (.head _)))) | exact .tail _ (.tail _ (List.mem_append_right _ (.tail _ (.tail _ (.head _))))) | exact .tail _ (.tail _ (List.mem_append_right _ (.tail _ (.tail _ (.tail _ (.head _))))))) (rowF_len _ _) ⟨?_, hL.below⟩
      rw [hdig.out, rowF_congr 16 (fun j => .int .u8 (f j)) (fun j => .int .u8 (outB st j)) (fun j hj => by simp only [hf.out j, if_pos hj])]

set_option maxRecDepth 100000 in
set_option maxHeartbeats 1000000 in
theorem refint_any (n : Int) (w0 : World) (h0 : 0 ≤ n) (h1 : n ≤ 1000000000000) :
    Calls Tryd.prog 82 #[.int .i64 n] w0 fun e w' => ∃ v Lv, e = .returned v ∧ Sees w0 w' Lv ∧ IsSl v 5 1 (intB n).length (bytesV (intB n)) Lv := by
  have hL := Sees.refl w0
  obtain ⟨m, rfl⟩ := Int.eq_ofNat_of_zero_le h0
  go_enter Tryd.func82, Tryd.ntmps82
  go_wp2
  go_loopw [3, 4] (fun u v wr => ∃ (z n : Nat) (acc : List UInt8) (a : Option Addr) (cap : Nat) (Lv : List Blk), u = .int .u64 z ∧ v = .slice a n cap ∧ (z : Int) ≤ 2000000000000 ∧ IsSl v 5 1 n (bytesV acc) Lv ∧ n ≤ 2000000000001 ∧ Hid (acc ++ varB z = intB m) ∧ Sees w0 wr (Lv ++ [])) (fun u _ _ => (intOf u).toNat)
  case atStart => exact ⟨2 * m, 0, [], _, _, [], congrArg (Value.int IntKind.u64) (by omega), rfl, by omega, .nil rfl rfl rfl rfl, by decide, Lib.hid (by rw [intB, zig_nat]; rfl), hL⟩
  case round =>
    clear hL
    obtain ⟨z, n, acc, a, cap, Lv, rfl, rfl, hz, hV, hn, hacc, hL⟩ := hrel
    have hal : acc.length = n := by have := hV.len; simpa [bytesV] using this
    have hn2 : n ≤ 2000000000000 := by
      have h1 := congrArg List.length hacc.out
      have h2 := varB_len (zig m)
      rw [zig_nat] at h2
      have h3 : 1 ≤ (varB z).length := by rw [varB]; split <;> simp
      rw [List.length_append, intB, zig_nat] at h1
      omega
    by_cases h127 : z < 128
    · have f1 : decide ((z : Int) ≥ 128) = false := by simp; omega
      have f2 : decide ((128 : Int) ≤ (z : Int)) = false := by simp; omega
      have f3 : (z : Int) % 256 = (z : Int) := by omega
      go_wp2_with (first | (refine wpl_slice hL rfl _ _ _ rfl _ 1 u_bytes s_u8 [.int .u8 0] z_u8 (by decide) _ (EvalAll.one rfl) rfl ?_; clear hL; intro b w hL; simp only [Act.put, List.setIfInBounds_toArray, List.set_cons_succ, List.set_cons_zero]) | (refine wpl_app1 hL rfl hV _ _ _ rfl rfl rfl u_bytes i_u8 rfl (Nat.le_trans (Nat.succ_le_succ hn2) (by decide)) (by omega) ?_; clear hL hV; intro v w Lv hL hV; simp only [Act.put, List.setIfInBounds_toArray, List.set_cons_succ, List.set_cons_zero]))
      go_ret
      have e1 : acc ++ [UInt8.ofNat z] = intB (m : Int) := by rw [← hacc.out, varB_lt z h127]
      have e2 : bytesV [UInt8.ofNat z] = [.int .u8 (z : Int)] := by
        show [Value.int IntKind.u8 ((UInt8.ofNat z).toNat : Int)] = _
        rw [show ((UInt8.ofNat z).toNat : Int) = (z : Int) from by simp only [UInt8.toNat_ofNat']; omega]
      first | refine ⟨v, rfl, Lv, by simpa using hL, ?_⟩ | refine ⟨v, Lv, rfl, by simpa using hL, ?_⟩
      rw [← e1, bytesV_append, e2, List.length_append, hal]
      exact hV
    · have f2 : decide ((128 : Int) ≤ (z : Int)) = true := by simp; omega
      obtain ⟨R, hR0, hR1, HR⟩ : ∃ R : Nat, 0 ≤ (R : Int) ∧ (R : Int) < 128 ∧ Hid (R = z % 128) := ⟨z % 128, by omega, by omega, Lib.hid rfl⟩
      have r1 : (z : Int).tmod 128 = (R : Int) := by rw [Int.tmod_eq_emod_of_nonneg (by omega), HR.out]; omega
      have r2 : (z : Int) % 128 = (R : Int) := by rw [HR.out]; omega
      obtain ⟨Z, hZ0, hZ1, HZ⟩ : ∃ Z : Nat, 0 ≤ (Z : Int) ∧ (Z : Int) ≤ 2000000000000 ∧ Hid (Z = z / 128) := ⟨z / 128, by omega, by omega, Lib.hid rfl⟩
      have d1 : (z : Int).tdiv 128 = (Z : Int) := by rw [Int.tdiv_eq_ediv_of_nonneg (by omega), HZ.out]; omega
      have d2 : (z : Int) / 128 = (Z : Int) := by rw [HZ.out]; omega
      have e2 : Hid (bytesV [UInt8.ofNat (z % 128 + 128)] = [.int .u8 ((R : Int) + 128)]) := Lib.hid (by
        show [Value.int IntKind.u8 ((UInt8.ofNat (z % 128 + 128)).toNat : Int)] = _
        rw [show ((UInt8.ofNat (z % 128 + 128)).toNat : Int) = (R : Int) + 128 from by simp only [UInt8.toNat_ofNat']; rw [HR.out]; omega])
      go_wp2_with (first | (refine wpl_slice hL rfl _ _ _ rfl _ 1 u_bytes s_u8 [.int .u8 0] z_u8 (by decide) _ (EvalAll.one rfl) rfl ?_; clear hL; intro b w hL; simp only [Act.put, List.setIfInBounds_toArray, List.set_cons_succ, List.set_cons_zero]) | (refine wpl_app1 hL rfl hV _ _ _ rfl rfl rfl u_bytes i_u8 rfl (Nat.le_trans (Nat.succ_le_succ hn2) (by decide)) (by omega) ?_; clear hL hV; intro v w Lv hL hV; simp only [Act.put, List.setIfInBounds_toArray, List.set_cons_succ, List.set_cons_zero]))
      obtain ⟨a', cap', rfl⟩ := hV.shape
      refine ⟨⟨z / 128, n + 1, acc ++ [UInt8.ofNat (z % 128 + 128)], a', cap', Lv, by rw [← HZ.out], rfl, by omega, ?_, by omega, Lib.hid ?_, hL⟩, ?_⟩
      · rw [bytesV_append, e2.out]; exact hV
      · rw [← hacc.out, varB_ge z h127]; simp
      · simp [intOf]; have := HZ.out; omega
set_option maxHeartbeats 1000000 in
theorem refbytes_any (t : ByteArray) (w0 : World) (h1 : t.size ≤ 100000000000) :
    Calls Tryd.prog 85 #[.string t] w0 fun e w' => ∃ v Lv, e = .returned v ∧ Sees w0 w' Lv ∧ IsSl v 5 1 (encB t.data.toList).length (bytesV (encB t.data.toList)) Lv := by
  have hL := Sees.refl w0
  have hil := intB_len t.size
  have i1 : (t.size : Int) ≤ 1000000000000 := by omega
  have b1 : (intB (t.size : Int)).length + t.size ≤ maxLen := by unfold maxLen; omega
  have b2 : ((intB (t.size : Int)).length + t.size) * 1 ≤ 140737488355328 := by omega
  go_enter Tryd.func85, Tryd.ntmps85
  go_wp2_with (first | (go_at_call 82; refine (refint_any _ _ (by omega) i1).mono ?_; rintro e w ⟨v, Lv, rfl, hM, hV⟩; replace hL := hL.join hM; clear hM) | (refine wpl_append_str hL rfl hV _ _ _ _ rfl rfl [.int .u8 0] 1 u_bytes u_string i_u8 rfl t rfl b1 b2 ?_; clear hL hV; intro v w Lv hL hV; simp only [Act.put, List.setIfInBounds_toArray, List.set_cons_succ, List.set_cons_zero]))
  go_ret
  first | refine ⟨v, rfl, Lv, by simpa using hL, ?_⟩ | refine ⟨v, Lv, rfl, by simpa using hL, ?_⟩
  have e : t.data.toList.length = t.size := by simp
  unfold encB
  rw [bytesV_append, List.length_append, e]
  exact hV

theorem encB_pos (t : ByteArray) : 0 < (encB t.data.toList).length := by
  unfold encB intB
  rw [List.length_append, zig_nat]
  have : 1 ≤ (varB (2 * t.data.toList.length)).length := by rw [varB]; split <;> simp
  omega
set_option maxRecDepth 100000 in
set_option maxHeartbeats 2000000 in
theorem refinput_any (tag : Int) (v : Value) (l : List ByteArray) (w0 : World) (hR : Rd w0 v l.length 1 (strV l)) (hl : l.length ≤ 1000) (hs : ∀ t ∈ l, t.size ≤ 1000000) :
    Calls Tryd.prog 81 #[.int .i64 tag, v] w0 fun e w' => ∃ v Lv, e = .returned v ∧ Sees w0 w' Lv ∧ IsSl v 5 1 (inB tag l).length (bytesV (inB tag l)) Lv := by
  obtain ⟨⟨a, cap, rfl, hcells⟩, -⟩ := hR
  have hL := Sees.refl w0
  obtain ⟨c, hc⟩ : ∃ c, c = tagB tag := ⟨_, rfl⟩
  have hc1 : tag % 256 = (c.toNat : Int) := by rw [hc]; exact tagB_eq tag
  have hc2 : IntKind.u8.wrap tag = (c.toNat : Int) := by rw [wrap_u8, hc1]
  have HC := Lib.hid hc
  clear hc
  go_enter Tryd.func81, Tryd.ntmps81
  go_wp2_with (first | (refine wpl_slice hL rfl _ _ _ rfl _ 1 u_bytes s_u8 [.int .u8 0] z_u8 (by decide) _ (EvalAll.one rfl) rfl ?_; clear hL; intro b0 w hL; simp only [Act.put, List.setIfInBounds_toArray, List.set_cons_succ, List.set_cons_zero]))
  go_loopw [5, 6] (fun s i wr => ∃ (k n : Nat) (a' : Option Addr) (cap' : Nat) (Lv : List Blk), k ≤ l.length ∧ i = .int .i64 k ∧ s = .slice a' n cap' ∧ (n : Int) ≤ 1 + k * 3000001 ∧ IsSl s 5 1 n (bytesV (c :: (l.take k).flatMap fun t => encB t.data.toList)) Lv ∧ Sees w0 wr (Lv ++ [])) (fun _ i _ => l.length - (intOf i).toNat)
  case atStart => exact ⟨0, 1, _, _, [⟨b0, 5, [.int .u8 (c.toNat : Int)]⟩], Nat.zero_le _, rfl, rfl, by decide, .row b0 1 [] rfl rfl rfl (Nat.le_refl _) (by decide) rfl, hL⟩
  case round =>
    clear hL
    obtain ⟨k, n, a', cap', Lv, hk, rfl, rfl, hn, hV, hL⟩ := hrel
    by_cases hlt : k < l.length
    · obtain ⟨ad, rfl, hcc⟩ := hcells (by intro h; have := congrArg List.length h; simp [strV] at this; subst this; simp at hlt)
      have hc1 := hcc k _ (strV_at l k hlt)
      generalize hx : l[k] = x at hc1
      have hxs : x.size ≤ 1000000 := by rw [← hx]; exact hs _ (List.getElem_mem _)
      have hen := enc_len x
      obtain ⟨E, hE⟩ : ∃ E, E = encB x.data.toList := ⟨_, rfl⟩
      have hEp := encB_pos x
      rw [← hE] at hen hEp
      obtain ⟨M, hM1, HM⟩ : ∃ M : Nat, (M : Int) ≤ 3000001 ∧ Hid (M = E.length) := ⟨E.length, by omega, Lib.hid rfl⟩
      have hMp : 0 < M := by rw [HM.out]; exact hEp
      have hk2 : (k : Int) ≤ 1000 := by omega
      have b1 : n + M ≤ maxLen := by unfold maxLen; omega
      have b2 : (n + M) * 1 ≤ 140737488355328 := by omega
      have HX := Lib.hid hx
      have HE := Lib.hid hE
      clear hx hE hen hEp
      have hcall : ∀ w, Calls Tryd.prog 85 #[.string x] w fun e w' => ∃ (bb cc : Nat) (rr : List Value), e = .returned (.slice (some ⟨bb, 0, none⟩) M cc) ∧ Sees w w' [⟨bb, 5, bytesV E ++ rr⟩] := fun w => (refbytes_any x w (by omega)).mono fun e w' h => by
        obtain ⟨v, Lv, h1, h2, h3⟩ := h
        rw [← HE.out, ← HM.out] at h3
        obtain ⟨bb, cc, rr, e1, e2⟩ := h3.row_of hMp
        subst e2
        exact ⟨bb, cc, rr, by rw [h1, e1], h2⟩
      go_wp2_with (first | (refine wpl_run rfl (run_load_plain rfl p_str rfl (hL.old hc1)) ?_; simp only [Act.put, List.setIfInBounds_toArray, List.set_cons_succ, List.set_cons_zero]) | (go_at_call 85; refine (hcall _).mono ?_; rintro e w ⟨bb, cc, rr, rfl, hMM⟩; replace hL := hL.join hMM; clear hMM) | (refine wpl_append (P0 := [_]) hL rfl hV _ _ _ rfl rfl [.int .u8 0] 1 u_bytes i_u8 rfl ⟨bb, 0, none⟩ M cc (bytesV E) rfl (by rw [bytesV_length, HM.out, Nat.mul_one]) (fun j y hy => hL.row (.head _) j y (app_left hy)) (bytesV_one _) b1 b2 ?_; clear hL hV; intro v w Lv hL hV; simp only [Act.put, List.setIfInBounds_toArray, List.set_cons_succ, List.set_cons_zero]))
      obtain ⟨a2, cap2, rfl⟩ := hV.shape
      refine ⟨⟨k + 1, n + M, a2, cap2, Lv, by omega, rfl, rfl, ?_, ?_, hL.forget (List.sublist_cons_self _ _)⟩, ?_⟩
      · have : ((k + 1 : Nat) : Int) = (k : Int) + 1 := by omega
        rw [this]; omega
      · rw [List.take_succ_eq_append_getElem hlt, List.flatMap_append, ← List.cons_append, bytesV_append, HX.out]
        simp only [List.flatMap_cons, List.flatMap_nil, List.append_nil]
        rw [← HE.out]
        exact hV
      · simp [intOf]; omega
    · obtain rfl : k = l.length := by omega
      go_wp2
      go_ret
      have e1 : inB tag l = c :: (l.take l.length).flatMap fun t => encB t.data.toList := by rw [List.take_length, HC.out]; rfl
      have hn1 : n = (inB tag l).length := by
        have := hV.len
        rw [← e1, bytesV_length] at this
        omega
      rw [← e1, hn1] at hV
      rw [hn1]
      first | exact ⟨_, rfl, Lv, by simpa using hL, hV⟩ | exact ⟨_, Lv, rfl, by simpa using hL, hV⟩
set_option maxRecDepth 100000 in
set_option maxHeartbeats 1000000 in
theorem refof_any (tag : Int) (v : Value) (l : List ByteArray) (w0 : World) (hR : Rd w0 v l.length 1 (strV l)) (hl : l.length ≤ 1000) (hs : ∀ t ∈ l, t.size ≤ 1000000) (hb : (inB tag l).length ≤ 1000000) (hT : TabR w0) :
    Calls Tryd.prog 75 #[.int .i64 tag, v] w0 fun e w' => e = .returned (.agg (digV (inB tag l)).toArray) ∧ Below w0.heap.size w0 w' := by
  have hL := Sees.refl w0
  obtain ⟨I, hI⟩ : ∃ I, I = inB tag l := ⟨_, rfl⟩
  have hin := fun w (hL : Sees w0 w []) => refinput_any tag v l w (hR.sees hL) hl hs
  rw [← hI] at hin hb ⊢
  clear hI hR
  have hd1 := rowF_one 16 (fun i => Value.int .u8 (outB ((sm0.add I).add (padL I.length)).st i)) fun _ => rfl
  have hd2 : (digV I).length = 16 := rowF_len _ _
  obtain ⟨D, hD⟩ : ∃ D, D = digV I := ⟨_, rfl⟩
  have hsh := fun (v : Value) A c w (h1 : v = .slice A I.length c) h2 h3 hT => refshort_any v A c I w h1 h2 h3 hb hT
  rw [← hD] at hd2 ⊢
  have hd1 : ∀ u ∈ D, u.one1 = true := by rw [hD]; exact hd1
  simp only [← hD] at hsh
  clear hD
  go_enter Tryd.func75, Tryd.ntmps75
  go_wp2_with (first | (refine wpl_alloc hL rfl _ rfl _ z_16 ?_; clear hL; intro b w hL; simp only [Act.put, List.setIfInBounds_toArray, List.set_cons_succ, List.set_cons_zero]) | (go_at_call 81; refine (hin _ (hL.forget (List.nil_sublist _))).mono ?_; rintro e w ⟨v2, Lv, rfl, hM, hV⟩; obtain ⟨A, c, rfl, hc1, hC⟩ := sl_C hV hM (fun x hx => hx); replace hL := hL.call hM.below; clear hM hV) | (go_at_call 80; refine (hsh _ A c _ rfl hC hc1 (hT.since hL)).mono ?_; rintro e w ⟨rfl, hb⟩; replace hL := hL.call hb; clear hb hC) | (refine wpl_strow hL rfl _ _ _ rfl _ rfl _ rfl _ s_16 _ rfl _ _ _ (by first | exact .here | exact .there .here | exact .there (.there .here) | exact .there (.there (.there .here)) | exact .there (.there (.there (.there .here))) | exact .pre (.here) | exact .pre (.there .here) | exact .pre (.there (.there .here))) hd1 hd2 (by exact rowF_len _ _) ?_; clear hL; intro w hL; simp only [Act.put, List.setIfInBounds_toArray, List.set_cons_succ, List.set_cons_zero]))
  refine bodyPost_cell rfl a_16 rfl rfl hL (by first | exact .head _ | exact .tail _ (.head _) | exact .tail _ (.tail _ (.head _)) | exact .tail _ (.tail _ (.tail _ (.head _))) | exact .tail _ (.tail _ (.tail _ (.tail _ (.head _)))) | exact .tail _ (.tail _ (.tail _ (.tail _ (.tail _ (.head _))))) | exact List.mem_append_right _ (.head _) | exact List.mem_append_right _ (.tail _ (.head _)) | exact List.mem_append_right _ (.tail _ (.tail _ (.head _))) | exact List.mem_append_right _ (.tail _ (.tail _ (.tail _ (.head _)))) | exact .tail _ (List.mem_append_right _ (.head _)) | exact .tail _ (List.mem_append_right _ (.tail _ (.head _))) | exact .tail _ (List.mem_append_right _ (.tail _ (.tail _ (.head _)))) | exact .tail _ (List.mem_append_right _ (.tail _ (.tail _ (.tail _ (.head _))))) | exact .tail _ (.tail _ (List.mem_append_right _ (.head _))) | exact .tail _ (.tail _ (List.mem_append_right _ (.tail _ (.head _)))) | exact .tail _ (.tail _ (List.mem_append_right _ (.tail _ (.tail _ (.head _))))) | exact .tail _ (.tail _ (List.mem_append_right _ (.tail _ (.tail _ (.tail _ (.head _))))))) hd2 ⟨rfl, hL.below⟩
end Go.Proofs.YticponffemffnaaDoor
end
section
/- The specification's encoding of every number. -/
set_option linter.unusedVariables false
set_option linter.unusedSimpArgs false
namespace Go.Proofs.YticponffemffnaaDoor
open Go Go.RowKit Go.Lx Go.Proofs.YticponffemffnaaDoorW.PrintWords
attribute [local irreducible] Calls
def RefSpec (n : Int) : Prop := ∀ w0 : World, Calls Tryd.prog 82 #[.int .i64 n] w0 fun e w' => ∃ v Lv, e = .returned v ∧ Sees w0 w' Lv ∧ IsSl v 5 1 (intB n).length (bytesV (intB n)) Lv
set_option maxHeartbeats 2000000 in
theorem refint64_any (n : Int) (h : isI64 n) : RefSpec n := by
  intro w0
  have hL := Sees.refl w0
  have HS := Lib.hid (intB_short n h)
  have HZ := Lib.hid (zig_lt n h)
  by_cases h0 : n < 0
  · have HB : Hid (IntKind.u64.wrap (IntKind.u64.wrap (IntKind.u64.wrap (wrap64 (-1 - n)) * 2) + 1) = ((zig n : Nat) : Int)) := Lib.hid (by
      obtain ⟨h1, h2⟩ := h
      simp only [wrap_u64, wrap64]
      unfold zig
      rw [if_neg (by omega)]
      omega)
    clear h
    go_enter Tryd.func82, Tryd.ntmps82
    go_wp2
    rw [HB.out]
    go_loopw [3, 4] (fun u v wr => ∃ (z n_1 : Nat) (acc : List UInt8) (a : Option Addr) (cap : Nat) (Lv : List Blk), u = .int .u64 z ∧ v = .slice a n_1 cap ∧ Hid (z < 18446744073709551616) ∧ IsSl v 5 1 n_1 (bytesV acc) Lv ∧ Hid (acc ++ varB z = intB n) ∧ Sees w0 wr (Lv ++ [])) (fun u _ _ => (intOf u).toNat)
    case atStart => exact ⟨zig n, 0, [], _, _, [], rfl, rfl, HZ, .nil rfl rfl rfl rfl, Lib.hid rfl, hL⟩
    case round =>
      clear hL
      obtain ⟨z, m, acc, a, cap, Lv, rfl, rfl, hz, hV, hacc, hL⟩ := hrel
      have hal : acc.length = m := by have := hV.len; simpa [bytesV] using this
      have hm : m ≤ 10 := by
        have h1 := congrArg List.length hacc.out
        have h2 := HS.out
        rw [List.length_append] at h1
        omega
      have b1 : m + 1 ≤ maxLen := by unfold maxLen; omega
      have HAL := Lib.hid hal
      clear hal
      by_cases h127 : z < 128
      · have f1 : decide ((z : Int) ≥ 128) = false := by simp; omega
        have f2 : decide ((128 : Int) ≤ (z : Int)) = false := by simp; omega
        have f3 : (z : Int) % 256 = (z : Int) := by omega
        go_wp2_with (first | (refine wpl_slice hL rfl _ _ _ rfl _ 1 u_bytes s_u8 [.int .u8 0] z_u8 (by decide) _ (EvalAll.one rfl) rfl ?_; clear hL; intro b w hL; simp only [Act.put, List.setIfInBounds_toArray, List.set_cons_succ, List.set_cons_zero]) | (refine wpl_app1 hL rfl hV _ _ _ rfl rfl rfl u_bytes i_u8 rfl b1 (by omega) ?_; clear hL hV; intro v w Lv hL hV; simp only [Act.put, List.setIfInBounds_toArray, List.set_cons_succ, List.set_cons_zero]))
        go_ret
        have e1 : acc ++ [UInt8.ofNat z] = intB n := by rw [← hacc.out, varB_lt z h127]
        have e2 : bytesV [UInt8.ofNat z] = [.int .u8 (z : Int)] := by
          show [Value.int IntKind.u8 ((UInt8.ofNat z).toNat : Int)] = _
          rw [show ((UInt8.ofNat z).toNat : Int) = (z : Int) from by simp only [UInt8.toNat_ofNat']; omega]
        refine ⟨v, Lv, rfl, by simpa using hL, ?_⟩
        rw [← e1, bytesV_append, e2, List.length_append, HAL.out]
        exact hV
      · have f2 : decide ((128 : Int) ≤ (z : Int)) = true := by simp; omega
        obtain ⟨R, hR0, hR1, HR⟩ : ∃ R : Nat, 0 ≤ (R : Int) ∧ (R : Int) < 128 ∧ Hid (R = z % 128) := ⟨z % 128, by omega, by omega, Lib.hid rfl⟩
        have r1 : (z : Int).tmod 128 = (R : Int) := by rw [Int.tmod_eq_emod_of_nonneg (by omega), HR.out]; omega
        have r2 : (z : Int) % 128 = (R : Int) := by rw [HR.out]; omega
        obtain ⟨Z, HZ2⟩ : ∃ Z : Nat, Hid (Z = z / 128) := ⟨z / 128, Lib.hid rfl⟩
        have d1 : (z : Int).tdiv 128 = (Z : Int) := by rw [Int.tdiv_eq_ediv_of_nonneg (by omega), HZ2.out]; omega
        have d2 : (z : Int) / 128 = (Z : Int) := by rw [HZ2.out]; omega
        have d3 : IntKind.u64.wrap (Z : Int) = (Z : Int) := by rw [wrap_u64, HZ2.out]; have := hz.out; omega
        have e2 : Hid (bytesV [UInt8.ofNat (z % 128 + 128)] = [.int .u8 ((R : Int) + 128)]) := Lib.hid (by
          show [Value.int IntKind.u8 ((UInt8.ofNat (z % 128 + 128)).toNat : Int)] = _
          rw [show ((UInt8.ofNat (z % 128 + 128)).toNat : Int) = (R : Int) + 128 from by simp only [UInt8.toNat_ofNat']; rw [HR.out]; omega])
        go_wp2_with (first | (refine wpl_slice hL rfl _ _ _ rfl _ 1 u_bytes s_u8 [.int .u8 0] z_u8 (by decide) _ (EvalAll.one rfl) rfl ?_; clear hL; intro b w hL; simp only [Act.put, List.setIfInBounds_toArray, List.set_cons_succ, List.set_cons_zero]) | (refine wpl_app1 hL rfl hV _ _ _ rfl rfl rfl u_bytes i_u8 rfl b1 (by omega) ?_; clear hL hV; intro v w Lv hL hV; simp only [Act.put, List.setIfInBounds_toArray, List.set_cons_succ, List.set_cons_zero]))
        obtain ⟨a', cap', rfl⟩ := hV.shape
        refine ⟨⟨z / 128, m + 1, acc ++ [UInt8.ofNat (z % 128 + 128)], a', cap', Lv, by rw [← HZ2.out], rfl, Lib.hid (by have := hz.out; omega), ?_, Lib.hid ?_, hL⟩, ?_⟩
        · rw [bytesV_append, e2.out]; exact hV
        · rw [← hacc.out, varB_ge z h127]; simp
        · simp [intOf]; have := HZ2.out; omega
  · have HB : Hid (IntKind.u64.wrap (IntKind.u64.wrap n * 2) = ((zig n : Nat) : Int)) := Lib.hid (by
      obtain ⟨h1, h2⟩ := h
      simp only [wrap_u64]
      unfold zig
      rw [if_pos (by omega)]
      omega)
    clear h
    go_enter Tryd.func82, Tryd.ntmps82
    go_wp2
    rw [HB.out]
    go_loopw [3, 4] (fun u v wr => ∃ (z n_1 : Nat) (acc : List UInt8) (a : Option Addr) (cap : Nat) (Lv : List Blk), u = .int .u64 z ∧ v = .slice a n_1 cap ∧ Hid (z < 18446744073709551616) ∧ IsSl v 5 1 n_1 (bytesV acc) Lv ∧ Hid (acc ++ varB z = intB n) ∧ Sees w0 wr (Lv ++ [])) (fun u _ _ => (intOf u).toNat)
    case atStart => exact ⟨zig n, 0, [], _, _, [], rfl, rfl, HZ, .nil rfl rfl rfl rfl, Lib.hid rfl, hL⟩
    case round =>
      clear hL
      obtain ⟨z, m, acc, a, cap, Lv, rfl, rfl, hz, hV, hacc, hL⟩ := hrel
      have hal : acc.length = m := by have := hV.len; simpa [bytesV] using this
      have hm : m ≤ 10 := by
        have h1 := congrArg List.length hacc.out
        have h2 := HS.out
        rw [List.length_append] at h1
        omega
      have b1 : m + 1 ≤ maxLen := by unfold maxLen; omega
      have HAL := Lib.hid hal
      clear hal
      by_cases h127 : z < 128
      · have f1 : decide ((z : Int) ≥ 128) = false := by simp; omega
        have f2 : decide ((128 : Int) ≤ (z : Int)) = false := by simp; omega
        have f3 : (z : Int) % 256 = (z : Int) := by omega
        go_wp2_with (first | (refine wpl_slice hL rfl _ _ _ rfl _ 1 u_bytes s_u8 [.int .u8 0] z_u8 (by decide) _ (EvalAll.one rfl) rfl ?_; clear hL; intro b w hL; simp only [Act.put, List.setIfInBounds_toArray, List.set_cons_succ, List.set_cons_zero]) | (refine wpl_app1 hL rfl hV _ _ _ rfl rfl rfl u_bytes i_u8 rfl b1 (by omega) ?_; clear hL hV; intro v w Lv hL hV; simp only [Act.put, List.setIfInBounds_toArray, List.set_cons_succ, List.set_cons_zero]))
        go_ret
        have e1 : acc ++ [UInt8.ofNat z] = intB n := by rw [← hacc.out, varB_lt z h127]
        have e2 : bytesV [UInt8.ofNat z] = [.int .u8 (z : Int)] := by
          show [Value.int IntKind.u8 ((UInt8.ofNat z).toNat : Int)] = _
          rw [show ((UInt8.ofNat z).toNat : Int) = (z : Int) from by simp only [UInt8.toNat_ofNat']; omega]
        refine ⟨v, Lv, rfl, by simpa using hL, ?_⟩
        rw [← e1, bytesV_append, e2, List.length_append, HAL.out]
        exact hV
      · have f2 : decide ((128 : Int) ≤ (z : Int)) = true := by simp; omega
        obtain ⟨R, hR0, hR1, HR⟩ : ∃ R : Nat, 0 ≤ (R : Int) ∧ (R : Int) < 128 ∧ Hid (R = z % 128) := ⟨z % 128, by omega, by omega, Lib.hid rfl⟩
        have r1 : (z : Int).tmod 128 = (R : Int) := by rw [Int.tmod_eq_emod_of_nonneg (by omega), HR.out]; omega
        have r2 : (z : Int) % 128 = (R : Int) := by rw [HR.out]; omega
        obtain ⟨Z, HZ2⟩ : ∃ Z : Nat, Hid (Z = z / 128) := ⟨z / 128, Lib.hid rfl⟩
        have d1 : (z : Int).tdiv 128 = (Z : Int) := by rw [Int.tdiv_eq_ediv_of_nonneg (by omega), HZ2.out]; omega
        have d2 : (z : Int) / 128 = (Z : Int) := by rw [HZ2.out]; omega
        have d3 : IntKind.u64.wrap (Z : Int) = (Z : Int) := by rw [wrap_u64, HZ2.out]; have := hz.out; omega
        have e2 : Hid (bytesV [UInt8.ofNat (z % 128 + 128)] = [.int .u8 ((R : Int) + 128)]) := Lib.hid (by
          show [Value.int IntKind.u8 ((UInt8.ofNat (z % 128 + 128)).toNat : Int)] = _
          rw [show ((UInt8.ofNat (z % 128 + 128)).toNat : Int) = (R : Int) + 128 from by simp only [UInt8.toNat_ofNat']; rw [HR.out]; omega])
        go_wp2_with (first | (refine wpl_slice hL rfl _ _ _ rfl _ 1 u_bytes s_u8 [.int .u8 0] z_u8 (by decide) _ (EvalAll.one rfl) rfl ?_; clear hL; intro b w hL; simp only [Act.put, List.setIfInBounds_toArray, List.set_cons_succ, List.set_cons_zero]) | (refine wpl_app1 hL rfl hV _ _ _ rfl rfl rfl u_bytes i_u8 rfl b1 (by omega) ?_; clear hL hV; intro v w Lv hL hV; simp only [Act.put, List.setIfInBounds_toArray, List.set_cons_succ, List.set_cons_zero]))
        obtain ⟨a', cap', rfl⟩ := hV.shape
        refine ⟨⟨z / 128, m + 1, acc ++ [UInt8.ofNat (z % 128 + 128)], a', cap', Lv, by rw [← HZ2.out], rfl, Lib.hid (by have := hz.out; omega), ?_, Lib.hid ?_, hL⟩, ?_⟩
        · rw [bytesV_append, e2.out]; exact hV
        · rw [← hacc.out, varB_ge z h127]; simp
        · simp [intOf]; have := HZ2.out; omega
end Go.Proofs.YticponffemffnaaDoor
end
section
/- The specification's lines. -/
set_option linter.unusedVariables false
set_option linter.unusedSimpArgs false
namespace Go.Proofs.YticponffemffnaaDoor
open Go Go.RowKit Go.Lx Go.Proofs.YticponffemffnaaDoorW.PrintWords
attribute [local irreducible] Calls
set_option maxHeartbeats 2000000 in
theorem refints_any (v : Value) (l : List Int) (w0 : World) (hR : Rd w0 v l.length 1 (numV l)) (hl : l.length ≤ 1000000) (h64 : ∀ x ∈ l, isI64 x) :
    Calls Tryd.prog 76 #[v] w0 fun e w' => ∃ u Lv, e = .returned u ∧ Sees w0 w' Lv ∧ IsSl u 5 1 (intsB l).length (bytesV (intsB l)) Lv := by
  have hL := Sees.refl w0
  obtain ⟨⟨a, cap, rfl, hcells⟩, -⟩ := hR
  have hl0 := refint64_any (l.length : Int) ⟨by omega, by omega⟩
  go_enter Tryd.func76, Tryd.ntmps76
  go_wp2_with (go_at_call 82; refine (hl0 _).mono ?_; rintro e w ⟨u, Lv, rfl, hM, hV⟩; replace hL := hL.join hM; clear hM)
  rw [List.append_nil] at hL
  go_loopw [3, 4] (fun v i wr => ∃ (k : Nat) (Lv : List Blk), k ≤ l.length ∧ i = .int .i64 k ∧ Sees w0 wr Lv ∧ IsSl v 5 1 (intB l.length ++ (l.take k).flatMap intB).length (bytesV (intB l.length ++ (l.take k).flatMap intB)) Lv) (fun _ i _ => l.length - (intOf i).toNat)
  case atStart => exact ⟨0, Lv, Nat.zero_le _, rfl, hL, by simpa using hV⟩
  case round =>
    clear hL hV
    obtain ⟨k, Lv, hk, rfl, hL, hV⟩ := hrel
    by_cases hlt : k < l.length
    · obtain ⟨ad, rfl, hcc⟩ := hcells (by intro h; have := congrArg List.length h; rw [numV_len] at this; rw [this] at hlt; simp at hlt)
      have hc1 := hcc k _ (numV_at l k hlt)
      have hi := refint64_any _ (h64 _ (List.getElem_mem hlt))
      have hs := intB_short _ (h64 _ (List.getElem_mem hlt))
      have hpos := varB_pos (zig l[k])
      have hnext := Lib.hid (show intB l.length ++ (l.take (k + 1)).flatMap intB = (intB l.length ++ (l.take k).flatMap intB) ++ intB l[k] by rw [flat_succ l k hlt, List.append_assoc])
      have hacc : (intB l.length ++ (l.take k).flatMap intB).length ≤ 10 + k * 10 := by
        rw [List.length_append]
        have h1 := intB_short (l.length : Int) ⟨by omega, by omega⟩
        have h2 := flat_short (l.take k) fun x hx => h64 x (List.mem_of_mem_take hx)
        rw [List.length_take, Nat.min_eq_left hk] at h2
        omega
      change 0 < (intB l[k]).length at hpos
      generalize l[k] = x at hc1 hi hs hnext hpos
      generalize intB l.length ++ (l.take k).flatMap intB = acc at hV hnext hacc
      obtain ⟨au, cu, rfl⟩ := hV.shape
      have b1 : acc.length + (intB x).length ≤ maxLen := by unfold maxLen; omega
      have b2 : (acc.length + (intB x).length) * 1 ≤ 140737488355328 := by omega
      clear hcc hcells
      go_wp2_with (first | (refine wpl_run rfl (run_load_plain rfl p_int rfl (hL.old hc1)) ?_; simp only [Act.put, List.setIfInBounds_toArray, List.set_cons_succ, List.set_cons_zero]) | (go_at_call 82; refine (hi _).mono ?_; rintro e w ⟨u2, Lv2, rfl, hM, hV2⟩; obtain ⟨au2, cu2, rfl⟩ := hV2.shape; obtain ⟨bb, rest, rfl, rfl, -⟩ := hV2.open_ hpos; replace hL := hL.join hM; have hnews := fun j u (hu : (bytesV (intB x))[j]? = some u) => hM.row (.head _) j u (app_left' hu); clear hM) | (refine wpl_append (P0 := [⟨bb, _, _⟩]) (S := []) (by simpa using hL) rfl hV _ _ _ rfl rfl [.int .u8 0] 1 u_bytes i_u8 rfl _ _ _ (bytesV (intB x)) rfl (by rw [bytesV_length, Nat.mul_one]) hnews (bytesV_one _) b1 b2 ?_; clear hL hV; intro v w Lv hL hV; simp only [Act.put, List.setIfInBounds_toArray, List.set_cons_succ, List.set_cons_zero]))
      refine ⟨⟨k + 1, Lv, by omega, rfl, ?_, ?_⟩, by simp [intOf]; omega⟩
      · have := hL.forget (List.sublist_append_right _ _)
        simpa using this
      · rw [hnext.out, bytesV_append, List.length_append]; exact hV
    · obtain rfl : k = l.length := by omega
      rw [List.take_length] at hV
      change IsSl _ _ _ (intsB l).length (bytesV (intsB l)) _ at hV
      obtain ⟨au, cu, rfl⟩ := hV.shape
      go_wp2
      go_ret
      exact ⟨_, _, rfl, hL, hV⟩
theorem inB_half (seed k part : Int) (hs : isI64 seed) (hk : isI64 k) (hp : isI64 part) : (intsB [seed, k, part]).length ≤ 40 := by
  have h1 := flat_short [seed, k, part] (fun x hx => by simp at hx; rcases hx with rfl | rfl | rfl <;> assumption)
  have h2 := intB_short 3 ⟨by omega, by omega⟩
  unfold intsB
  simp at h1 ⊢
  omega
set_option maxRecDepth 100000 in
set_option maxHeartbeats 2000000 in
theorem half_any (seed k part : Int) (w0 : World) (hs : isI64 seed) (hk : isI64 k) (hp : isI64 part) (hT : TabR w0) :
    Calls Tryd.prog 69 #[.int .i64 seed, .int .i64 k, .int .i64 part] w0 fun e w' => e = .returned (.agg (digV (halfX seed k part)).toArray) ∧ Below w0.heap.size w0 w' := by
  have hL := Sees.refl w0
  have hxl := inB_half seed k part hs hk hp
  have hints := fun v w h => refints_any v [seed, k, part] w h (by simp) (fun x hx => by simp at hx; rcases hx with rfl | rfl | rfl <;> assumption)
  have hof := fun v w (h : Rd w v 1 1 (strV [⟨(intsB [seed, k, part]).toArray⟩])) (hT : TabR w) => refof_any 7 v [⟨(intsB [seed, k, part]).toArray⟩] w h (by simp) (fun t ht => by
    simp at ht; subst ht; show (intsB _).toArray.size ≤ _; simp; omega) (by
    unfold inB encB
    have := intB_short ((⟨(intsB [seed, k, part]).toArray⟩ : ByteArray).size : Int) ⟨by omega, by show ((intsB [seed, k, part]).toArray.size : Int) ≤ _; simp; omega⟩
    simp
    omega) hT
  change ∀ v w, _ → _ → Calls _ _ _ _ fun e w' => e = .returned (.agg (digV (halfX seed k part)).toArray) ∧ _ at hof
  have hY1 : ∀ u ∈ digV (halfX seed k part), u.one1 = true := rowF_one _ _ fun _ => rfl
  have hYl : (digV (halfX seed k part)).length = 16 := rowF_len _ _
  generalize digV (halfX seed k part) = Y at hof hY1 hYl ⊢
  have HYL := Lib.hid hYl
  clear hYl hxl
  generalize intsB [seed, k, part] = X at hints hof
  go_enter Tryd.func69, Tryd.ntmps69
  go_wp2_with (first | (refine wpl_alloc hL rfl _ rfl _ z_16 ?_; clear hL; intro b w hL; simp only [Act.put, List.setIfInBounds_toArray, List.set_cons_succ, List.set_cons_zero]) | (refine wpl_slice hL rfl _ _ _ rfl _ 1 u_ints s_int [.int .i64 0] z_int (by decide) [.int .i64 seed, .int .i64 k, .int .i64 part] (.cons (cs := [_]) rfl rfl (.cons (cs := [_]) rfl rfl (.cons (cs := [_]) rfl rfl (.nil _)))) rfl ?_; clear hL; intro b w hL; simp only [Act.put, List.setIfInBounds_toArray, List.set_cons_succ, List.set_cons_zero]) | (go_at_call 76; refine (hints _ _ ⟨⟨_, _, rfl, fun _ => ⟨_, rfl, fun j x hx => hL.row (.head _) j x hx⟩⟩, rfl⟩).mono ?_; rintro e w ⟨u, Lu, rfl, hM, hVu⟩; have hRu := hVu.rd hM (fun _ h => h); replace hL := hL.call hM.below; clear hM hVu) | (refine wpl_run rfl (exec_toString u_bytes u_u8 u_string hRu rfl rfl) ?_; simp only [Act.put, List.setIfInBounds_toArray, List.set_cons_succ, List.set_cons_zero]) | (refine wpl_slice hL rfl _ _ _ rfl _ 1 u_strs s_str [.string ⟨#[]⟩] z_str (by decide) [.string ⟨X.toArray⟩] (.cons (cs := [_]) rfl rfl (.nil _)) rfl ?_; clear hL; intro b w hL; simp only [Act.put, List.setIfInBounds_toArray, List.set_cons_succ, List.set_cons_zero]) | (go_at_call 75; refine (hof _ _ ⟨⟨_, _, rfl, fun _ => ⟨_, rfl, fun j x hx => hL.row (.head _) j x hx⟩⟩, rfl⟩ (hT.since hL)).mono ?_; rintro e w ⟨rfl, hb⟩; replace hL := hL.call hb; clear hb) | (refine wpl_strow hL rfl _ _ _ rfl _ rfl _ rfl _ s_16 _ rfl _ _ _ (by first | exact .here | exact .there .here | exact .there (.there .here) | exact .there (.there (.there .here)) | exact .there (.there (.there (.there .here))) | exact .pre (.here) | exact .pre (.there .here) | exact .pre (.there (.there .here))) hY1 HYL.out (by exact rowF_len _ _) ?_; clear hL; intro w hL; simp only [Act.put, List.setIfInBounds_toArray, List.set_cons_succ, List.set_cons_zero]))
  refine bodyPost_cell rfl a_16 rfl rfl hL (by first | exact .head _ | exact .tail _ (.head _) | exact .tail _ (.tail _ (.head _)) | exact .tail _ (.tail _ (.tail _ (.head _))) | exact .tail _ (.tail _ (.tail _ (.tail _ (.head _)))) | exact .tail _ (.tail _ (.tail _ (.tail _ (.tail _ (.head _))))) | exact List.mem_append_right _ (.head _) | exact List.mem_append_right _ (.tail _ (.head _)) | exact List.mem_append_right _ (.tail _ (.tail _ (.head _))) | exact List.mem_append_right _ (.tail _ (.tail _ (.tail _ (.head _)))) | exact .tail _ (List.mem_append_right _ (.head _)) | exact .tail _ (List.mem_append_right _ (.tail _ (.head _))) | exact .tail _ (List.mem_append_right _ (.tail _ (.tail _ (.head _)))) | exact .tail _ (List.mem_append_right _ (.tail _ (.tail _ (.tail _ (.head _))))) | exact .tail _ (.tail _ (List.mem_append_right _ (.head _))) | exact .tail _ (.tail _ (List.mem_append_right _ (.tail _ (.head _)))) | exact .tail _ (.tail _ (List.mem_append_right _ (.tail _ (.tail _ (.head _))))) | exact .tail _ (.tail _ (List.mem_append_right _ (.tail _ (.tail _ (.tail _ (.head _))))))) HYL.out ⟨rfl, hL.below⟩
theorem en_half : enterable Tryd.prog 69 = true := by kernel_rfl
theorem nM_zero (n x : Int) (hn : 0 ≤ n) (hx : -1000000 ≤ x ∧ x ≤ 1000000) : 0 ≤ nM n x ∧ (nM n x = 0 ↔ n = 0 ∧ x = 0) := by
  unfold nM mx
  rw [show wrap64 (-x) = -x from by unfold wrap64; omega]
  split <;> split <;> omega
theorem norm0 : ∀ (l : List Int), (∀ x ∈ l, -1000000 ≤ x ∧ x ≤ 1000000) → ∀ n, 0 ≤ n → (l.foldl nM n = 0 ↔ n = 0 ∧ l.all (· == 0) = true)
  | [], _, n, _ => by simp
  | x :: l, h, n, hn => by
    obtain ⟨h1, h2⟩ := nM_zero n x hn (h x (.head _))
    rw [List.foldl_cons, norm0 l (fun y hy => h y (.tail _ hy)) _ h1, h2]
    simp [and_assoc]
theorem rawI_ok (seed k : Int) (i : Nat) : -1 ≤ rawI seed k i ∧ rawI seed k i ≤ 1 := by
  have := dgt_ok seed k (i / 16 : Nat) (i % 16)
  unfold rawI; omega
theorem fix_all (seed k : Int) (D : Nat) : fixLine (rawLine seed k D) = if (rawLine seed k D).all (· == 0) = true then (rawLine seed k D).set 0 1 else rawLine seed k D := by
  unfold fixLine
  have : normV 3 (rawLine seed k D) = 0 ↔ (rawLine seed k D).all (· == 0) = true := by
    unfold normV
    have e : normF 3 = nM := rfl
    rw [e, norm0 _ (fun x hx => ?_) 0 (Int.le_refl _)]
    · simp
    · obtain ⟨i, _, rfl⟩ := List.mem_map.1 hx
      have := rawI_ok seed k i
      omega
  by_cases h : normV 3 (rawLine seed k D) = 0
  · rw [if_pos h, if_pos (this.1 h)]
  · rw [if_neg h, if_neg (fun h' => h (this.2 h'))]
theorem forget2 {w0 w : World} {a b : Blk} {Lv : List Blk} (h : Sees w0 w (a :: b :: Lv)) : Sees w0 w (a :: (Lv ++ [])) := by
  rw [List.append_nil]; exact h.forget (.cons_cons _ (List.sublist_cons_self _ _))
set_option maxRecDepth 100000 in
set_option maxHeartbeats 4000000 in
theorem refline_any (seed k : Int) (D : Nat) (w0 : World) (hs : isI64 seed) (hk : isI64 k) (hD : 1 ≤ D) (hD2 : D ≤ 32) (hT : TabR w0) :
    Calls Tryd.prog 45 #[.int .i64 seed, .int .i64 k, .int .i64 D] w0 fun e w' => ∃ u Lv, e = .returned u ∧ Sees w0 w' Lv ∧ IsSl u 3 1 D (numV (lineV seed k D)) Lv := by
  have hL := Sees.refl w0
  go_enter Tryd.func45, Tryd.ntmps45
  go_wp2
  go_loopw [7, 8, 9] (fun v z i wr => ∃ (j : Nat) (b : Bool) (Lv : List Blk), j ≤ D ∧ i = .int .i64 j ∧ z = .bool b ∧ Hid (b = ((rawLine seed k D).take j).all (· == 0)) ∧ Sees w0 wr Lv ∧ IsSl v 3 1 j (numV ((rawLine seed k D).take j)) Lv) (fun _ _ i _ => D - (intOf i).toNat)
  case atStart => exact ⟨0, true, [], Nat.zero_le _, rfl, rfl, Lib.hid rfl, hL, .nil rfl rfl rfl rfl⟩
  case round =>
    clear hL
    obtain ⟨j, b, Lv, hj, rfl, rfl, hb, hL, hV⟩ := hrel
    by_cases hlt : j < D
    · have hjr : j < (rawLine seed k D).length := by rw [rawLine_len]; exact hlt
      have hnext := Lib.hid (List.take_succ_eq_append_getElem hjr)
      have hat : (rawLine seed k D)[j] = dgt seed k (j / 16 : Nat) (j % 16) % 3 - 1 := by unfold rawLine rawI; simp
      have hhalf := fun w => half_any seed k ((j / 16 : Nat) : Int) w hs hk ⟨by omega, by omega⟩
      rw [digV_half] at hhalf
      have hok := dgt_ok seed k (j / 16 : Nat) (j % 16)
      have hrow := rowF_at 16 (fun i => Value.int .u8 (dgt seed k ((j / 16 : Nat) : Int) i)) (j % 16) (by omega)
      have hY1 : ∀ u ∈ rowF 16 (fun i => Value.int .u8 (dgt seed k ((j / 16 : Nat) : Int) i)), u.one1 = true := rowF_one _ _ fun _ => rfl
      have hYl := rowF_len 16 (fun i => Value.int .u8 (dgt seed k ((j / 16 : Nat) : Int) i))
      generalize rowF 16 (fun i => Value.int .u8 (dgt seed k ((j / 16 : Nat) : Int) i)) = Y at hhalf hrow hY1 hYl
      generalize dgt seed k ((j / 16 : Nat) : Int) (j % 16) = x at hok hrow hat
      obtain ⟨x0, x1⟩ := hok
      rw [hat] at hnext
      have HYL := Lib.hid hYl
      obtain ⟨q, HQ, q0, q1⟩ : ∃ q : Nat, Hid (q = j % 16) ∧ (0 : Int) ≤ q ∧ (q : Int) < 16 := ⟨j % 16, Lib.hid rfl, by omega, by omega⟩
      obtain ⟨P, HP⟩ : ∃ P : Nat, Hid (P = j / 16) := ⟨j / 16, Lib.hid rfl⟩
      have e1 : (j : Int) % 16 = (q : Int) := by rw [HQ.out]; omega
      have e2 : (j : Int).tmod 16 = (q : Int) := by rw [Int.tmod_eq_emod_of_nonneg (by omega), e1]
      have e3 : (j : Int) / 16 = (P : Int) := by rw [HP.out]; omega
      have e4 : (j : Int).tdiv 16 = (P : Int) := by rw [Int.tdiv_eq_ediv_of_nonneg (by omega), e3]
      rw [← HQ.out] at hrow
      rw [← HP.out] at hhalf
      have b1 : j + 1 ≤ maxLen := by unfold maxLen; omega
      have b2 : (j + 1) * 8 ≤ 140737488355328 := by omega
      clear hat hjr hYl
      cases b with
      | false =>
        go_wp2_with (first | (go_at_call 69; refine (hhalf _ (hT.since hL)).mono ?_; rintro e w ⟨rfl, hb2⟩; replace hL := hL.call hb2; clear hb2) | (refine wpl_alloc hL rfl _ rfl _ z_16 ?_; clear hL; intro b w hL; simp only [Act.put, List.setIfInBounds_toArray, List.set_cons_succ, List.set_cons_zero]) | (refine wpl_strow hL rfl _ _ _ rfl _ rfl _ rfl _ s_16 _ rfl _ _ _ (by first | exact .here | exact .there .here | exact .there (.there .here) | exact .there (.there (.there .here)) | exact .there (.there (.there (.there .here))) | exact .pre (.here) | exact .pre (.there .here) | exact .pre (.there (.there .here))) hY1 HYL.out (by exact rowF_len _ _) ?_; clear hL; intro w hL; simp only [Act.put, List.setIfInBounds_toArray, List.set_cons_succ, List.set_cons_zero]) | (refine wpl_run rfl (run_load_plain rfl p_u8 rfl (hL.at (by first | exact .head _ | exact .tail _ (.head _) | exact .tail _ (.tail _ (.head _)) | exact .tail _ (.tail _ (.tail _ (.head _))) | exact .tail _ (.tail _ (.tail _ (.tail _ (.head _)))) | exact .tail _ (.tail _ (.tail _ (.tail _ (.tail _ (.head _))))) | exact List.mem_append_right _ (.head _) | exact List.mem_append_right _ (.tail _ (.head _)) | exact List.mem_append_right _ (.tail _ (.tail _ (.head _))) | exact List.mem_append_right _ (.tail _ (.tail _ (.tail _ (.head _)))) | exact .tail _ (List.mem_append_right _ (.head _)) | exact .tail _ (List.mem_append_right _ (.tail _ (.head _))) | exact .tail _ (List.mem_append_right _ (.tail _ (.tail _ (.head _)))) | exact .tail _ (List.mem_append_right _ (.tail _ (.tail _ (.tail _ (.head _))))) | exact .tail _ (.tail _ (List.mem_append_right _ (.head _))) | exact .tail _ (.tail _ (List.mem_append_right _ (.tail _ (.head _)))) | exact .tail _ (.tail _ (List.mem_append_right _ (.tail _ (.tail _ (.head _))))) | exact .tail _ (.tail _ (List.mem_append_right _ (.tail _ (.tail _ (.tail _ (.head _))))))) hrow)) ?_; simp only [Act.put, List.setIfInBounds_toArray, List.set_cons_succ, List.set_cons_zero]) | (refine wpl_slice hL rfl _ _ _ rfl _ 1 u_ints s_int [.int .i64 0] z_int (by decide) [.int .i64 (x % 3 - 1)] (.cons (cs := [_]) rfl rfl (.nil _)) rfl ?_; clear hL; intro b w hL; simp only [Act.put, List.setIfInBounds_toArray, List.set_cons_succ, List.set_cons_zero]) | (refine wpl_appK (forget2 hL) rfl hV _ _ _ rfl rfl rfl u_ints i_int rfl rfl (by repeat (first | exact all1_nil | refine all1_cons rfl ?_)) b1 b2 ?_; clear hL hV; intro v w Lv hL hV; simp only [Act.put, List.setIfInBounds_toArray, List.set_cons_succ, List.set_cons_zero]))
        refine ⟨⟨j + 1, false, Lv, by omega, rfl, rfl, Lib.hid ?_, by simpa using hL, by rw [hnext.out]; unfold numV; rw [List.map_append]; exact hV⟩, by simp [intOf]; omega⟩
        rw [hnext.out, List.all_append, ← hb.out]; rfl
      | true =>
        by_cases hz : x % 3 - 1 = 0
        · have hz1 : ((x % 3 - 1 : Int) == 0) = true := beq_iff_eq.2 hz
          have HZ1 := Lib.hid hz1
          clear hz
          go_wp2_with (first | (go_at_call 69; refine (hhalf _ (hT.since hL)).mono ?_; rintro e w ⟨rfl, hb2⟩; replace hL := hL.call hb2; clear hb2) | (refine wpl_alloc hL rfl _ rfl _ z_16 ?_; clear hL; intro b w hL; simp only [Act.put, List.setIfInBounds_toArray, List.set_cons_succ, List.set_cons_zero]) | (refine wpl_strow hL rfl _ _ _ rfl _ rfl _ rfl _ s_16 _ rfl _ _ _ (by first | exact .here | exact .there .here | exact .there (.there .here) | exact .there (.there (.there .here)) | exact .there (.there (.there (.there .here))) | exact .pre (.here) | exact .pre (.there .here) | exact .pre (.there (.there .here))) hY1 HYL.out (by exact rowF_len _ _) ?_; clear hL; intro w hL; simp only [Act.put, List.setIfInBounds_toArray, List.set_cons_succ, List.set_cons_zero]) | (refine wpl_run rfl (run_load_plain rfl p_u8 rfl (hL.at (by first | exact .head _ | exact .tail _ (.head _) | exact .tail _ (.tail _ (.head _)) | exact .tail _ (.tail _ (.tail _ (.head _))) | exact .tail _ (.tail _ (.tail _ (.tail _ (.head _)))) | exact .tail _ (.tail _ (.tail _ (.tail _ (.tail _ (.head _))))) | exact List.mem_append_right _ (.head _) | exact List.mem_append_right _ (.tail _ (.head _)) | exact List.mem_append_right _ (.tail _ (.tail _ (.head _))) | exact List.mem_append_right _ (.tail _ (.tail _ (.tail _ (.head _)))) | exact .tail _ (List.mem_append_right _ (.head _)) | exact .tail _ (List.mem_append_right _ (.tail _ (.head _))) | exact .tail _ (List.mem_append_right _ (.tail _ (.tail _ (.head _)))) | exact .tail _ (List.mem_append_right _ (.tail _ (.tail _ (.tail _ (.head _))))) | exact .tail _ (.tail _ (List.mem_append_right _ (.head _))) | exact .tail _ (.tail _ (List.mem_append_right _ (.tail _ (.head _)))) | exact .tail _ (.tail _ (List.mem_append_right _ (.tail _ (.tail _ (.head _))))) | exact .tail _ (.tail _ (List.mem_append_right _ (.tail _ (.tail _ (.tail _ (.head _))))))) hrow)) ?_; simp only [Act.put, List.setIfInBounds_toArray, List.set_cons_succ, List.set_cons_zero]) | (refine wpl_slice hL rfl _ _ _ rfl _ 1 u_ints s_int [.int .i64 0] z_int (by decide) [.int .i64 (x % 3 - 1)] (.cons (cs := [_]) rfl rfl (.nil _)) rfl ?_; clear hL; intro b w hL; simp only [Act.put, List.setIfInBounds_toArray, List.set_cons_succ, List.set_cons_zero]) | (refine wpl_appK (forget2 hL) rfl hV _ _ _ rfl rfl rfl u_ints i_int rfl rfl (by repeat (first | exact all1_nil | refine all1_cons rfl ?_)) b1 b2 ?_; clear hL hV; intro v w Lv hL hV; simp only [Act.put, List.setIfInBounds_toArray, List.set_cons_succ, List.set_cons_zero]))
          refine ⟨⟨j + 1, true, Lv, by omega, rfl, rfl, Lib.hid ?_, by simpa using hL, by rw [hnext.out]; unfold numV; rw [List.map_append]; exact hV⟩, by simp [intOf]; omega⟩
          rw [hnext.out, List.all_append, ← hb.out]; simp [HZ1.out]
        · have hz1 : ((x % 3 - 1 : Int) == 0) = false := beq_eq_false_iff_ne.2 hz
          have HZ1 := Lib.hid hz1
          clear hz
          go_wp2_with (first | (go_at_call 69; refine (hhalf _ (hT.since hL)).mono ?_; rintro e w ⟨rfl, hb2⟩; replace hL := hL.call hb2; clear hb2) | (refine wpl_alloc hL rfl _ rfl _ z_16 ?_; clear hL; intro b w hL; simp only [Act.put, List.setIfInBounds_toArray, List.set_cons_succ, List.set_cons_zero]) | (refine wpl_strow hL rfl _ _ _ rfl _ rfl _ rfl _ s_16 _ rfl _ _ _ (by first | exact .here | exact .there .here | exact .there (.there .here) | exact .there (.there (.there .here)) | exact .there (.there (.there (.there .here))) | exact .pre (.here) | exact .pre (.there .here) | exact .pre (.there (.there .here))) hY1 HYL.out (by exact rowF_len _ _) ?_; clear hL; intro w hL; simp only [Act.put, List.setIfInBounds_toArray, List.set_cons_succ, List.set_cons_zero]) | (refine wpl_run rfl (run_load_plain rfl p_u8 rfl (hL.at (by first | exact .head _ | exact .tail _ (.head _) | exact .tail _ (.tail _ (.head _)) | exact .tail _ (.tail _ (.tail _ (.head _))) | exact .tail _ (.tail _ (.tail _ (.tail _ (.head _)))) | exact .tail _ (.tail _ (.tail _ (.tail _ (.tail _ (.head _))))) | exact List.mem_append_right _ (.head _) | exact List.mem_append_right _ (.tail _ (.head _)) | exact List.mem_append_right _ (.tail _ (.tail _ (.head _))) | exact List.mem_append_right _ (.tail _ (.tail _ (.tail _ (.head _)))) | exact .tail _ (List.mem_append_right _ (.head _)) | exact .tail _ (List.mem_append_right _ (.tail _ (.head _))) | exact .tail _ (List.mem_append_right _ (.tail _ (.tail _ (.head _)))) | exact .tail _ (List.mem_append_right _ (.tail _ (.tail _ (.tail _ (.head _))))) | exact .tail _ (.tail _ (List.mem_append_right _ (.head _))) | exact .tail _ (.tail _ (List.mem_append_right _ (.tail _ (.head _)))) | exact .tail _ (.tail _ (List.mem_append_right _ (.tail _ (.tail _ (.head _))))) | exact .tail _ (.tail _ (List.mem_append_right _ (.tail _ (.tail _ (.tail _ (.head _))))))) hrow)) ?_; simp only [Act.put, List.setIfInBounds_toArray, List.set_cons_succ, List.set_cons_zero]) | (refine wpl_slice hL rfl _ _ _ rfl _ 1 u_ints s_int [.int .i64 0] z_int (by decide) [.int .i64 (x % 3 - 1)] (.cons (cs := [_]) rfl rfl (.nil _)) rfl ?_; clear hL; intro b w hL; simp only [Act.put, List.setIfInBounds_toArray, List.set_cons_succ, List.set_cons_zero]) | (refine wpl_appK (forget2 hL) rfl hV _ _ _ rfl rfl rfl u_ints i_int rfl rfl (by repeat (first | exact all1_nil | refine all1_cons rfl ?_)) b1 b2 ?_; clear hL hV; intro v w Lv hL hV; simp only [Act.put, List.setIfInBounds_toArray, List.set_cons_succ, List.set_cons_zero]))
          refine ⟨⟨j + 1, false, Lv, by omega, rfl, rfl, Lib.hid ?_, by simpa using hL, by rw [hnext.out]; unfold numV; rw [List.map_append]; exact hV⟩, by simp [intOf]; omega⟩
          rw [hnext.out, List.all_append, ← hb.out]; simp [HZ1.out]
    · obtain rfl : j = D := by omega
      have hfix : lineV seed k j = _ := fix_all seed k j
      have hlen := rawLine_len seed k j
      rw [show (rawLine seed k j).take j = rawLine seed k j from List.take_of_length_le (by omega)] at hb hV
      have hb' := hb.out
      rw [← hb'] at hfix
      generalize rawLine seed k j = raw at hfix hlen hV hb'
      have hjp : (0 : Int) < (j : Int) := by omega
      cases b with
      | false =>
        rw [if_neg (by simp)] at hfix
        have HF := Lib.hid hfix
        clear hfix hlen hb'
        go_wp2
        go_ret
        exact ⟨_, _, rfl, hL, by rw [HF.out]; exact hV⟩
      | true =>
        rw [if_pos rfl] at hfix
        have HF := Lib.hid hfix
        obtain ⟨au, cu, rfl⟩ := hV.shape
        obtain ⟨bb, rest, rfl, rfl, hnew⟩ := hV.open_ (by omega)
        have hn1 := Lib.hid (hnew (numV (raw.set 0 1)) (by rw [numV_len, numV_len, List.length_set]))
        have g3 := Lib.hid (show (numV raw ++ rest).set 0 (.int .i64 1) = numV (raw.set 0 1) ++ rest by rw [List.set_append_left _ _ (by rw [numV_len]; omega), numV_set])
        have g4 : 0 < (numV raw ++ rest).length := by rw [List.length_append, numV_len]; omega
        clear hfix hlen hb' hnew hV
        go_wp2_with (first | (refine wpl_set1 hL rfl _ _ _ rfl _ _ rfl _ rfl s_int rfl rfl _ _ _ _ (by first | exact .here | exact .there .here | exact .there (.there .here) | exact .there (.there (.there .here)) | exact .there (.there (.there (.there .here))) | exact .pre (.here) | exact .pre (.there .here) | exact .pre (.there (.there .here))) g4 g3.out ?_; clear hL; intro w hL; simp only [Act.put, List.setIfInBounds_toArray, List.set_cons_succ, List.set_cons_zero]))
        go_ret
        exact ⟨_, _, rfl, hL, by rw [HF.out]; exact hn1.out⟩
theorem reord2 {w0 w : World} {a b : Blk} {Lv S : List Blk} (h : Sees w0 w (a :: b :: (Lv ++ S))) : Sees w0 w (a :: (Lv ++ (S ++ [b]))) := by
  refine h.perm (List.Perm.cons _ ?_)
  rw [← List.append_assoc]
  exact (List.perm_append_singleton b (Lv ++ S)).symm
set_option maxRecDepth 100000 in
set_option maxHeartbeats 4000000 in
theorem reflines_any (seed : Int) (n D : Nat) (w0 : World) (hs : isI64 seed) (hn : n ≤ 1000) (hD : 1 ≤ D) (hD2 : D ≤ 32) (hT : TabR w0) :
    Calls Tryd.prog 15 #[.int .i64 seed, .int .i64 n, .int .i64 D] w0 fun e w' => ∃ v, e = .returned v ∧ RowsOf w0 w' 24 3 v (linesV seed n D) := by
  have hL := Sees.refl w0
  go_enter Tryd.func15, Tryd.ntmps15
  go_wp2
  go_loopw [7, 8] (fun v i wr => ∃ (k : Nat) (Lv : List Blk) (us : List RowD), k ≤ n ∧ i = .int .i64 k ∧ us.length = k ∧ Sees w0 wr (Lv ++ lbG 3 us (linesV seed k D)) ∧ IsSl v 24 1 k (valsG us) Lv ∧ ∀ (i : Nat) (u : RowD) (r : List Int), us[i]? = some u → (linesV seed k D)[i]? = some r → IsSl u.val 3 1 r.length (numV r) [u.blk 3 r]) (fun _ i _ => n - (intOf i).toNat)
  case atStart => exact ⟨0, [], [], Nat.zero_le _, rfl, rfl, hL, .nil rfl rfl rfl rfl, fun i u r h => by simp at h⟩
  case round =>
    clear hL
    obtain ⟨k, Lv, us, hk, rfl, hus, hL, hV, hrow⟩ := hrel
    have HUS := Lib.hid hus
    have HROW := Lib.hid hrow
    clear hus hrow
    by_cases hlt : k < n
    · generalize hS : lbG 3 us (linesV seed k D) = S at hL
      have HS := Lib.hid hS
      clear hS
      have hline := fun w (hT : TabR w) => refline_any seed k D w hs ⟨by omega, by omega⟩ hD hD2 hT
      have hlen := lineV_len seed k D
      generalize hl : lineV seed k D = l at hline hlen
      have HLL := Lib.hid hl
      have HLEN := Lib.hid hlen
      clear hl hlen
      have b1 : k + 1 ≤ maxLen := by unfold maxLen; omega
      have b2 : (k + 1) * 24 ≤ 140737488355328 := by omega
      have hk1 : k + 1 ≤ n := by omega
      go_wp2_with (first | (go_at_call 45; refine (hline _ (hT.since hL)).mono ?_; rintro e w ⟨u2, Lv2, rfl, hM, hV2⟩; obtain ⟨au2, cu2, rfl⟩ := hV2.shape; obtain ⟨bb, rest, rfl, rfl, -⟩ := hV2.open_ hD; replace hL := hL.join hM; clear hM) | (refine wpl_slice hL rfl _ _ _ rfl _ 1 u_ints' s_ints [.slice none 0 0] z_ints (by decide) [.slice (some ⟨bb, 0, none⟩) D cu2] (.cons (cs := [_]) rfl rfl (.nil _)) rfl ?_; clear hL; intro b w hL; simp only [Act.put, List.setIfInBounds_toArray, List.set_cons_succ, List.set_cons_zero]) | (refine wpl_appK (reord2 (Lv := Lv) (S := S) hL) rfl hV _ _ _ rfl rfl rfl u_ints' i_ints rfl rfl (by repeat (first | exact all1_nil | refine all1_cons rfl ?_)) b1 b2 ?_; clear hL hV; intro v w Lv hL hV; simp only [Act.put, List.setIfInBounds_toArray, List.set_cons_succ, List.set_cons_zero]))
      have hsucc : lbG 3 (us ++ [⟨bb, D, cu2, rest⟩]) (linesV seed ((k + 1 : Nat)) D) = S ++ [⟨bb, 3, numV l ++ rest⟩] := by
        unfold lbG at HS ⊢
        rw [linesV_succ, List.zipWith_append (by rw [HUS.out, linesV_len]), HLL.out, HS.out]
        rfl
      refine ⟨⟨k + 1, Lv, us ++ [⟨bb, D, cu2, rest⟩], hk1, rfl, by simp [HUS.out], ?_, ?_, fun i u r hu hr => ?_⟩, by simp [intOf]; omega⟩
      · rw [hsucc]; exact hL
      · unfold valsG at hV ⊢; rw [List.map_append]; exact hV
      · rw [linesV_succ] at hr
        rcases Nat.lt_or_ge i k with hik | hik
        · rw [List.getElem?_append_left (by rw [HUS.out]; exact hik)] at hu
          rw [List.getElem?_append_left (by rw [linesV_len]; exact hik)] at hr
          exact HROW.out i u r hu hr
        · have hik2 : i = k := by
            have := (List.getElem?_eq_some_iff.1 hu).1
            rw [List.length_append, HUS.out] at this
            simp at this
            omega
          subst hik2
          rw [List.getElem?_append_right (by rw [HUS.out]; omega), HUS.out, Nat.sub_self] at hu
          rw [List.getElem?_append_right (by rw [linesV_len]; omega), linesV_len, Nat.sub_self] at hr
          simp only [List.getElem?_cons_zero, Option.some.injEq] at hu hr
          subst hu
          rw [← hr, HLL.out, HLEN.out]
          exact hV2
    · obtain rfl : k = n := by omega
      go_wp2
      go_ret
      exact ⟨_, rfl, Lv, us, by rw [HUS.out, linesV_len], hL, by rw [linesV_len]; exact hV, HROW.out⟩
end Go.Proofs.YticponffemffnaaDoor
end
section
/- The specification's lines in the print's form. -/
set_option linter.unusedVariables false
set_option linter.unusedSimpArgs false
namespace Go.Proofs.YticponffemffnaaDoor.Ext
open Go Go.RowKit Go.Lx Go.Proofs.YticponffemffnaaDoor Go.Proofs.YticponffemffnaaDoor.P Go.Proofs.YticponffemffnaaDoorW.PrintWords
def antiquaryref07_Lines.f (a0 : Int) (a1 : Int) (a2 : Int) : Option ((List (List Int))) := if okL a0 a1 a2 = true then some (linesV a0 a1.toNat a2.toNat) else none
theorem antiquaryref07_Lines.calls (a0 : Int) (a1 : Int) (a2 : Int) (r : List (List Int)) (w : World) (hT : TabR w) (h : antiquaryref07_Lines.f a0 a1 a2 = some r) :
    Calls Tryd.prog 15 #[.int .i64 a0, .int .i64 a1, .int .i64 a2] w fun e w' => ∃ v0_ : Value, e = .returned (v0_) ∧ Kd.S (Kd.slice 3 (Kd.int .i64)) 24 w' w.heap.size (fun _ => True) v0_ r ∧ Below w.heap.size w w' := by
  obtain ⟨hok, rfl⟩ := if_some h
  obtain ⟨h1, ⟨h2, h3⟩, h4, h5⟩ := okL_iff hok
  obtain ⟨n, rfl⟩ := Int.eq_ofNat_of_zero_le h2
  obtain ⟨D, rfl⟩ := Int.eq_ofNat_of_zero_le (show 0 ≤ a2 by omega)
  simp only [Int.toNat_natCast]
  refine (reflines_any a0 n D w h1 (by omega) (by omega) (by omega) hT).mono ?_
  rintro e w' ⟨v, rfl, hR⟩
  exact ⟨v, rfl, hR.S, by obtain ⟨_, _, _, hL, _⟩ := hR; exact hL.below⟩
end Go.Proofs.YticponffemffnaaDoor.Ext
end
