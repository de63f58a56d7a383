/- Lemmas of this session for the walks and the plain laws. -/
import Derived.Test.YticponffemffnaaDoorK
import Derived.Laws.Bits64
import Derived.Laws.Tables
import Derived.Lib.Strings
set_option linter.unusedVariables false
set_option linter.unusedSimpArgs false
/- SHA-256 on bit vectors, as the program runs it (block by block, byte by byte), and what its numbers read as in memory. -/
namespace Go.Proofs.YticponffemffnaaDoor
open Go Go.RowKit Go.Lx

theorem w32_lo (x : BitVec 32) : 0 ≤ w32 x := by unfold w32; omega
theorem w32_hi (x : BitVec 32) : w32 x < 4294967296 := by unfold w32; have := x.isLt; omega
theorem w32_mk (n : Int) (h0 : 0 ≤ n) (h1 : n < 4294967296) : n = w32 (BitVec.ofInt 32 n) := by
  unfold w32; rw [BitVec.toNat_ofInt]; omega

theorem w32_add (a b : BitVec 32) : IntKind.u32.wrap (w32 a + w32 b) = w32 (a + b) := by
  rw [wrap_u32]; unfold w32; rw [BitVec.toNat_add]; omega
theorem w32_bits (op : BinOp) (a b : BitVec 32) : bits op .u32 (w32 a) (w32 b) = w32 (match op with | .and => a &&& b | .or => a ||| b | .xor => a ^^^ b | _ => a &&& ~~~b) := by
  unfold bits w32
  rw [wrap_u32]
  have e1 : BitVec.ofInt IntKind.u32.bits ((a.toNat : Nat) : Int) = a := by rw [BitVec.ofInt_natCast]; simp [IntKind.bits]
  have e2 : BitVec.ofInt IntKind.u32.bits ((b.toNat : Nat) : Int) = b := by rw [BitVec.ofInt_natCast]; simp [IntKind.bits]
  simp only [e1, e2]
  rw [Int.emod_eq_of_lt (by omega)]
  · cases op <;> rfl
  · exact Int.ofNat_lt.2 (BitVec.isLt _)
theorem w32_and (a b : BitVec 32) : bits .and .u32 (w32 a) (w32 b) = w32 (a &&& b) := w32_bits .and a b
theorem w32_or (a b : BitVec 32) : bits .or .u32 (w32 a) (w32 b) = w32 (a ||| b) := w32_bits .or a b
theorem w32_xor (a b : BitVec 32) : bits .xor .u32 (w32 a) (w32 b) = w32 (a ^^^ b) := w32_bits .xor a b
theorem w32_not (a : BitVec 32) : IntKind.u32.wrap (-1 - w32 a) = w32 (~~~a) := by
  rw [wrap_u32]; unfold w32; rw [BitVec.toNat_not]; have := a.isLt; omega
theorem w32_not2 (a : BitVec 32) : IntKind.u32.wrap (-w32 a - 1) = w32 (~~~a) := by
  rw [wrap_u32]; unfold w32; rw [BitVec.toNat_not]; have := a.isLt; omega
theorem w32_shr (a : BitVec 32) (k : Nat) : w32 a / 2 ^ k = w32 (a >>> k) := by
  unfold w32; rw [BitVec.toNat_ushiftRight, Nat.shiftRight_eq_div_pow]; norm_cast
theorem w32_shl (a : BitVec 32) (k : Nat) : IntKind.u32.wrap (w32 a * 2 ^ k) = w32 (a <<< k) := by
  rw [wrap_u32]; unfold w32; rw [BitVec.toNat_shiftLeft, Nat.shiftLeft_eq, Int.natCast_emod, Int.natCast_mul, Int.natCast_pow]; rfl
theorem w32_addm (a b : BitVec 32) : (w32 a + w32 b) % (4294967296 : Int) = w32 (a + b) := by rw [← wrap_u32, w32_add]
theorem w32_shlm (a : BitVec 32) (k : Nat) : w32 a * 2 ^ k % (4294967296 : Int) = w32 (a <<< k) := by rw [← wrap_u32, w32_shl]
theorem w32_shl8m (a : BitVec 32) : w32 a * (256 : Int) % (4294967296 : Int) = w32 (a <<< 8) := w32_shlm a 8
theorem w32_notm (a : BitVec 32) : (-1 - w32 a) % (4294967296 : Int) = w32 (~~~a) := by rw [← wrap_u32, w32_not]
theorem w32_notm2 (a : BitVec 32) : (-w32 a - 1) % (4294967296 : Int) = w32 (~~~a) := by rw [← wrap_u32, w32_not2]
theorem w32_compl (a : BitVec 32) : bits .xor .u32 (if IntKind.u32.signed = true then -1 else IntKind.u32.max) (w32 a) = w32 (~~~a) := by
  have e : (if IntKind.u32.signed = true then -1 else IntKind.u32.max) = w32 (BitVec.allOnes 32) := by decide
  rw [e, w32_xor, BitVec.allOnes_xor]
theorem w32_shr3 (a : BitVec 32) : w32 a / (8 : Int) = w32 (a >>> 3) := w32_shr a 3
theorem w32_shr10 (a : BitVec 32) : w32 a / (1024 : Int) = w32 (a >>> 10) := w32_shr a 10
theorem w32_shl8 (a : BitVec 32) : IntKind.u32.wrap (w32 a * (256 : Int)) = w32 (a <<< 8) := w32_shl a 8
theorem w32_u8 (c : UInt8) : (c.toNat : Int) = w32 (BitVec.ofNat 32 c.toNat) := by
  unfold w32; rw [BitVec.toNat_ofNat]; have := c.toNat_lt; omega

/-- right rotation -/
def rotr (x : BitVec 32) (k : Nat) : BitVec 32 := x >>> k ||| x <<< (32 - k)

theorem rot_amount (k : Nat) (h1 : 1 ≤ k) (h2 : k ≤ 31) : bits BinOp.and IntKind.u64 (IntKind.u64.wrap (-(k : Int))) 31 = 32 - (k : Int) := by
  have : ∀ j : Fin 32, 1 ≤ j.val → bits BinOp.and IntKind.u64 (IntKind.u64.wrap (-(j.val : Int))) 31 = 32 - (j.val : Int) := by decide
  exact this ⟨k, by omega⟩ h1

set_option maxHeartbeats 400000 in
theorem rotl_any (x : BitVec 32) (k : Nat) (w0 : World) (h1 : 1 ≤ k) (h2 : k ≤ 31) :
    Calls Tryd.prog 83 #[W32 x, .int .i64 (-(k : Int))] w0 fun e w' => e = .returned (W32 (rotr x k)) ∧ w' = w0 := by
  have hr := rot_amount k h1 h2
  obtain ⟨m, hm⟩ : ∃ m : Int, m = 32 - (k : Int) := ⟨_, rfl⟩
  have hm0 : 0 ≤ m := by omega
  have hm1 : m ≤ 31 := by omega
  have hmk : (32 - m).toNat = k := by omega
  have hmn : m.toNat = 32 - k := by omega
  rw [← hm] at hr
  have HM := Lib.hid hmk
  have HN := Lib.hid hmn
  clear hm hmk hmn
  generalize hkk : -(k : Int) = K at hr
  clear hkk
  go_enter Tryd.func83, Tryd.ntmps83
  go_wp2
  go_ret
  refine ⟨?_, rfl⟩
  show Ending.returned (.int .u32 (bits BinOp.or IntKind.u32 (w32 x * 2 ^ m.toNat % 4294967296) (w32 x / 2 ^ (32 - m).toNat))) = _
  rw [w32_shlm, w32_shr, w32_or, HM.out, HN.out]
  unfold rotr
  rw [BitVec.or_comm]
theorem en_rotl : enterable Tryd.prog 83 = true := by kernel_rfl

theorem rotl_lit (x : BitVec 32) (k : Nat) (n : Int) (w0 : World) (h1 : 1 ≤ k) (h2 : k ≤ 31) (hn : n = -(k : Int)) :
    Calls Tryd.prog 83 #[W32 x, .int .i64 n] w0 fun e w' => e = .returned (W32 (rotr x k)) ∧ w' = w0 := by
  subst hn; exact rotl_any x k w0 h1 h2

def mix3 (x : BitVec 32) (i j k : Nat) : BitVec 32 := rotr x i ^^^ rotr x j ^^^ rotr x k
set_option maxHeartbeats 400000 in
theorem mix_any (x : BitVec 32) (i j k : Nat) (w0 : World) (hi : 1 ≤ i ∧ i ≤ 31) (hj : 1 ≤ j ∧ j ≤ 31) (hk : 1 ≤ k ∧ k ≤ 31) :
    Calls Tryd.prog 79 #[W32 x, .int .i64 i, .int .i64 j, .int .i64 k] w0 fun e w' => e = .returned (W32 (mix3 x i j k)) ∧ w' = w0 := by
  go_enter Tryd.func79, Tryd.ntmps79
  go_wp2_with (first | (go_at_call 83; refine ((rotl_any _ _ _ (by omega) (by omega))).mono ?_; rintro e w ⟨rfl, rfl⟩))
  go_ret
  refine ⟨?_, rfl⟩
  show Ending.returned (.int .u32 (bits BinOp.xor IntKind.u32 (bits BinOp.xor IntKind.u32 (w32 (rotr x i)) (w32 (rotr x j))) (w32 (rotr x k)))) = _
  rw [w32_xor, w32_xor]
  rfl
theorem mix_e (x : BitVec 32) (w0 : World) : Calls Tryd.prog 79 #[W32 x, .int .i64 6, .int .i64 11, .int .i64 25] w0 fun e w' => e = .returned (W32 (mix3 x 6 11 25)) ∧ w' = w0 := mix_any x 6 11 25 w0 (by decide) (by decide) (by decide)
theorem mix_a (x : BitVec 32) (w0 : World) : Calls Tryd.prog 79 #[W32 x, .int .i64 2, .int .i64 13, .int .i64 22] w0 fun e w' => e = .returned (W32 (mix3 x 2 13 22)) ∧ w' = w0 := mix_any x 2 13 22 w0 (by decide) (by decide) (by decide)
theorem en_mix : enterable Tryd.prog 79 = true := by kernel_rfl
end Go.Proofs.YticponffemffnaaDoor
/- SHA-256: the message schedule. -/
namespace Go.Proofs.YticponffemffnaaDoor
open Go Go.RowKit Go.Lx
attribute [local irreducible] Calls

theorem z_w : zeroOf Tryd.prog 93 = some (rowF 64 fun _ => W32 0) := by kernel_rfl
theorem a_w : aggVar Tryd.prog 93 = some 64 := by kernel_rfl
theorem s_w : (Tryd.prog.info? 93).map (·.size) = some 64 := by kernel_rfl
theorem s_u32 : (Tryd.prog.info? 71).map (·.size) = some 1 := by kernel_rfl

/-- the q highest bytes of word t -/
def word4 (bs : List UInt8) (t : Nat) : Nat → BitVec 32
  | 0 => 0
  | q + 1 => word4 bs t q <<< 8 ||| BitVec.ofNat 32 (bs.getD (4 * t + q) 0).toNat
def sig0 (p : BitVec 32) : BitVec 32 := rotr p 7 ^^^ rotr p 18 ^^^ p >>> 3
def sig1 (p : BitVec 32) : BitVec 32 := rotr p 17 ^^^ rotr p 19 ^^^ p >>> 10
/-- the first t words, the last one first -/
def wgo (bs : List UInt8) : Nat → List (BitVec 32)
  | 0 => []
  | t + 1 => (if t < 16 then word4 bs t 4 else (wgo bs t).getD 15 0 + sig0 ((wgo bs t).getD 14 0) + (wgo bs t).getD 6 0 + sig1 ((wgo bs t).getD 1 0)) :: wgo bs t
def wv (bs : List UInt8) (t : Nat) : BitVec 32 := (wgo bs (t + 1)).getD 0 0
theorem wgo_at (bs : List UInt8) : ∀ t j, j < t → (wgo bs t).getD j 0 = wv bs (t - 1 - j)
  | 0, j, h => by omega
  | t + 1, 0, _ => rfl
  | t + 1, j + 1, h => by
    have := wgo_at bs t j (by omega)
    rw [show t + 1 - 1 - (j + 1) = t - 1 - j from by omega, ← this]
    rfl
theorem wv_low (bs : List UInt8) (t : Nat) (h : t < 16) : wv bs t = word4 bs t 4 := by
  show (if t < 16 then _ else _) = _
  rw [if_pos h]
theorem wv_high (bs : List UInt8) (t : Nat) (h : 16 ≤ t) : wv bs t = wv bs (t - 16) + sig0 (wv bs (t - 15)) + wv bs (t - 7) + sig1 (wv bs (t - 2)) := by
  show (if t < 16 then _ else (wgo bs t).getD 15 0 + sig0 ((wgo bs t).getD 14 0) + (wgo bs t).getD 6 0 + sig1 ((wgo bs t).getD 1 0)) = _
  rw [if_neg (by omega), wgo_at bs t 15 (by omega), wgo_at bs t 14 (by omega), wgo_at bs t 6 (by omega), wgo_at bs t 1 (by omega)]
  rw [show t - 1 - 15 = t - 16 from by omega, show t - 1 - 14 = t - 15 from by omega, show t - 1 - 6 = t - 7 from by omega, show t - 1 - 1 = t - 2 from by omega]

set_option maxHeartbeats 2000000 in
theorem schedule_any (ad : Addr) (cap : Nat) (bs : List UInt8) (w0 : World) (hlen : bs.length = 64) (hcap : 64 ≤ cap) (hc : ∀ j x, (bytesV bs)[j]? = some x → w0.cell? (ad.add j) = some x) :
    Calls Tryd.prog 78 #[.slice (some ad) 64 cap] w0 fun e w' => e = .returned (.agg (rowF 64 fun j => W32 (wv bs j)).toArray) ∧ Below w0.heap.size w0 w' := by
  have hL := Sees.refl w0
  go_enter Tryd.func78, Tryd.ntmps78
  go_wp2_with (first | (refine wpl_alloc hL rfl _ rfl _ z_w ?_; clear hL; intro b w hL; simp only [Act.put, List.setIfInBounds_toArray, List.set_cons_succ, List.set_cons_zero]))
  rename_i br _ _ _
  obtain ⟨bw, rfl⟩ : ∃ bw, bw = b := ⟨_, rfl⟩
  go_loopw [11] (fun i wr => ∃ (t : Nat) (f : Nat → BitVec 32), t ≤ 64 ∧ i = .int .i64 t ∧ Hid (∀ j, f j = if j < t then wv bs j else 0) ∧ Sees w0 wr [⟨bw, 93, rowF 64 fun j => W32 (f j)⟩, ⟨br, 93, rowF 64 fun _ => W32 0⟩]) (fun i _ => 64 - (intOf i).toNat)
  case atStart => exact ⟨0, fun _ => 0, Nat.zero_le _, rfl, Lib.hid (fun j => by simp), hL⟩
  case round =>
    clear hL
    obtain ⟨t, f, ht, rfl, hf, hL⟩ := hrel
    by_cases hlt : t < 64
    · by_cases h16 : t < 16
      · go_wp2
        go_loopw [24] (fun i wr' => ∃ (q : Nat) (f' : Nat → BitVec 32), q ≤ 4 ∧ i = .int .i64 q ∧ Hid (∀ j, f' j = if j = t then word4 bs t q else f j) ∧ Sees w0 wr' [⟨bw, 93, rowF 64 fun j => W32 (f' j)⟩, ⟨br, 93, rowF 64 fun _ => W32 0⟩]) (fun i _ => 4 - (intOf i).toNat)
        case atStart => exact ⟨0, f, Nat.zero_le _, rfl, Lib.hid (fun j => by by_cases h : j = t; (rw [if_pos h, hf.out j, h, if_neg (Nat.lt_irrefl t)]; rfl); rw [if_neg h]), hL⟩
        case round =>
          clear hL
          obtain ⟨q, f', hq, rfl, hf', hL⟩ := hrel
          by_cases hq4 : q < 4
          · have hby : (bytesV bs)[4 * t + q]? = some (.int .u8 ((bs[4 * t + q]'(by omega)).toNat : Int)) := bytesV_at bs _ _
            have hbx := hc _ _ hby
            have hadd : (ad.add (4 * t)).add q = ad.add (4 * t + q) := by unfold Addr.add; (repeat' split) <;> simp_all <;> omega
            have hval : bits BinOp.or IntKind.u32 (w32 (f' t) * 256 % 4294967296) (((bs[4 * t + q]'(by omega)).toNat : Int) % 4294967296) = w32 (word4 bs t (q + 1)) := by
              have e : (((bs[4 * t + q]'(by omega)).toNat : Int)) % 4294967296 = w32 (BitVec.ofNat 32 (bs.getD (4 * t + q) 0).toNat) := by
                rw [← w32_u8, List.getD_eq_getElem?_getD, List.getElem?_eq_getElem (by omega)]
                have := (bs[4 * t + q]'(by omega)).toNat_lt
                simp only [Option.getD_some]; omega
              rw [e, w32_shl8m, w32_or, hf'.out t, if_pos rfl]
              rfl
            have HV := Lib.hid hval
            clear hval
            go_wp2_with (first | (refine wpl_run rfl (run_load_plain rfl p_u8 rfl (hL.old hbx)) ?_; simp only [Act.put, List.setIfInBounds_toArray, List.set_cons_succ, List.set_cons_zero]) | (refine wpl_run rfl (run_load_plain rfl p_u32 rfl (hL.at (by first | exact .head _ | exact .tail _ (.head _) | exact .tail _ (.tail _ (.head _)) | exact .tail _ (.tail _ (.tail _ (.head _))) | exact .tail _ (.tail _ (.tail _ (.tail _ (.head _)))) | exact .tail _ (.tail _ (.tail _ (.tail _ (.tail _ (.head _))))) | exact List.mem_append_right _ (.head _) | exact List.mem_append_right _ (.tail _ (.head _)) | exact List.mem_append_right _ (.tail _ (.tail _ (.head _))) | exact List.mem_append_right _ (.tail _ (.tail _ (.tail _ (.head _)))) | exact .tail _ (List.mem_append_right _ (.head _)) | exact .tail _ (List.mem_append_right _ (.tail _ (.head _))) | exact .tail _ (List.mem_append_right _ (.tail _ (.tail _ (.head _)))) | exact .tail _ (List.mem_append_right _ (.tail _ (.tail _ (.tail _ (.head _))))) | exact .tail _ (.tail _ (List.mem_append_right _ (.head _))) | exact .tail _ (.tail _ (List.mem_append_right _ (.tail _ (.head _)))) | exact .tail _ (.tail _ (List.mem_append_right _ (.tail _ (.tail _ (.head _))))) | exact .tail _ (.tail _ (List.mem_append_right _ (.tail _ (.tail _ (.tail _ (.head _))))))) (rowF_at 64 _ t hlt))) ?_; simp only [Act.put, List.setIfInBounds_toArray, List.set_cons_succ, List.set_cons_zero]) | (refine wpl_set1 hL rfl _ _ _ rfl _ _ rfl _ rfl s_u32 rfl rfl _ _ _ _ (by first | exact .here | exact .there .here | exact .there (.there .here) | exact .there (.there (.there .here)) | exact .there (.there (.there (.there .here))) | exact .pre (.here) | exact .pre (.there .here) | exact .pre (.there (.there .here))) (by rw [rowF_len]; exact hlt) (rowF_set 64 _ (fun j => W32 (if j = t then word4 bs t (q + 1) else f' j)) t _ hlt (by simp only [if_true]; exact congrArg (Value.int IntKind.u32) HV.out.symm) (fun j _ hne => by simp only [if_neg hne])) ?_; clear hL; intro w hL; simp only [Act.put, List.setIfInBounds_toArray, List.set_cons_succ, List.set_cons_zero]))
            go_roundw
            case rel =>
              refine ⟨q + 1, fun j => if j = t then word4 bs t (q + 1) else f' j, by omega, by rfl, Lib.hid (fun j => ?_), hL⟩
              by_cases h : j = t
              · simp only [if_pos h]
              · simp only [if_neg h]; rw [hf'.out j, if_neg h]
            case measure => simp [intOf]; omega
          · obtain rfl : q = 4 := by omega
            go_wp2
            go_roundw
            case rel =>
              refine ⟨t + 1, f', by omega, by rfl, Lib.hid (fun j => ?_), hL⟩
              rw [hf'.out j]
              by_cases h : j = t
              · rw [if_pos h, if_pos (by omega), h, wv_low bs t h16]
              · rw [if_neg h, hf.out j]
                by_cases h2 : j < t
                · rw [if_pos h2, if_pos (by omega)]
                · rw [if_neg h2, if_neg (by omega)]
            case measure => simp [intOf]; omega
      · obtain ⟨m15, hm15, HM15⟩ : ∃ m : Nat, (m : Int) < 64 ∧ Hid (m = t - 15) := ⟨t - 15, by omega, Lib.hid rfl⟩
        have e15 : IntKind.i64.wrap ((t : Int) - 15) = (m15 : Int) := by rw [HM15.out, IntKind.wrap_i64]; omega
        obtain ⟨m2, hm2, HM2⟩ : ∃ m : Nat, (m : Int) < 64 ∧ Hid (m = t - 2) := ⟨t - 2, by omega, Lib.hid rfl⟩
        have e2 : IntKind.i64.wrap ((t : Int) - 2) = (m2 : Int) := by rw [HM2.out, IntKind.wrap_i64]; omega
        obtain ⟨m16, hm16, HM16⟩ : ∃ m : Nat, (m : Int) < 64 ∧ Hid (m = t - 16) := ⟨t - 16, by omega, Lib.hid rfl⟩
        have e16 : IntKind.i64.wrap ((t : Int) - 16) = (m16 : Int) := by rw [HM16.out, IntKind.wrap_i64]; omega
        obtain ⟨m7, hm7, HM7⟩ : ∃ m : Nat, (m : Int) < 64 ∧ Hid (m = t - 7) := ⟨t - 7, by omega, Lib.hid rfl⟩
        have e7 : IntKind.i64.wrap ((t : Int) - 7) = (m7 : Int) := by rw [HM7.out, IntKind.wrap_i64]; omega
        go_wp2
        refine wp_region_lex [(.val, _), (.val, _), (.val, _), (.calm, _), (.val, _), (.val, _), (.val, _), (.calm, _), (.val, _), (.val, _)] rfl mixed (by kernel_rfl) ?_
        replace hL := hL.drew
        repeat (first | (refine wpLex_calm rfl _ (run_load_plain rfl p_u32 rfl (hL.at (by first | exact .head _ | exact .tail _ (.head _) | exact .tail _ (.tail _ (.head _)) | exact .tail _ (.tail _ (.tail _ (.head _))) | exact .tail _ (.tail _ (.tail _ (.tail _ (.head _)))) | exact .tail _ (.tail _ (.tail _ (.tail _ (.tail _ (.head _))))) | exact List.mem_append_right _ (.head _) | exact List.mem_append_right _ (.tail _ (.head _)) | exact List.mem_append_right _ (.tail _ (.tail _ (.head _))) | exact List.mem_append_right _ (.tail _ (.tail _ (.tail _ (.head _)))) | exact .tail _ (List.mem_append_right _ (.head _)) | exact .tail _ (List.mem_append_right _ (.tail _ (.head _))) | exact .tail _ (List.mem_append_right _ (.tail _ (.tail _ (.head _)))) | exact .tail _ (List.mem_append_right _ (.tail _ (.tail _ (.tail _ (.head _))))) | exact .tail _ (.tail _ (List.mem_append_right _ (.head _))) | exact .tail _ (.tail _ (List.mem_append_right _ (.tail _ (.head _)))) | exact .tail _ (.tail _ (List.mem_append_right _ (.tail _ (.tail _ (.head _))))) | exact .tail _ (.tail _ (List.mem_append_right _ (.tail _ (.tail _ (.tail _ (.head _))))))) (rowF_at 64 _ _ (by omega)))) ?_; simp only [Act.put, List.setIfInBounds_toArray, List.set_cons_succ, List.set_cons_zero]) | (refine wpLex_val rfl _ (fun w2 => by (go_simp; try rfl)) ?_; simp only [Act.put, List.setIfInBounds_toArray, List.set_cons_succ, List.set_cons_zero]))
        refine wpLex_nil ?_
        go_wp2_with (first | (go_at_call 83; refine ((rotl_lit _ _ _ _ (by decide) (by decide) rfl)).mono ?_; rintro e w ⟨rfl, rfl⟩))
        simp only [w32_xor, w32_shr3, w32_shr10]
        refine wp_region_lex [(.val, _), (.val, _), (.val, _), (.val, _), (.calm, _), (.val, _), (.val, _), (.val, _), (.val, _), (.val, _), (.calm, _), (.val, _), (.val, _), (.val, _), (.val, _), (.eff, _)] rfl mixed (by kernel_rfl) ?_
        replace hL := hL.drew
        have HG : Hid (f m16 + sig0 (f m15) + f m7 + sig1 (f m2) = wv bs t) := Lib.hid (by
          rw [wv_high bs t (by omega), hf.out m16, hf.out m15, hf.out m7, hf.out m2, HM16.out, HM15.out, HM7.out, HM2.out, if_pos (by omega), if_pos (by omega), if_pos (by omega), if_pos (by omega)])
        repeat (first | (refine wpLex_calm rfl _ (run_load_plain rfl p_u32 rfl (hL.at (by first | exact .head _ | exact .tail _ (.head _) | exact .tail _ (.tail _ (.head _)) | exact .tail _ (.tail _ (.tail _ (.head _))) | exact .tail _ (.tail _ (.tail _ (.tail _ (.head _)))) | exact .tail _ (.tail _ (.tail _ (.tail _ (.tail _ (.head _))))) | exact List.mem_append_right _ (.head _) | exact List.mem_append_right _ (.tail _ (.head _)) | exact List.mem_append_right _ (.tail _ (.tail _ (.head _))) | exact List.mem_append_right _ (.tail _ (.tail _ (.tail _ (.head _)))) | exact .tail _ (List.mem_append_right _ (.head _)) | exact .tail _ (List.mem_append_right _ (.tail _ (.head _))) | exact .tail _ (List.mem_append_right _ (.tail _ (.tail _ (.head _)))) | exact .tail _ (List.mem_append_right _ (.tail _ (.tail _ (.tail _ (.head _))))) | exact .tail _ (.tail _ (List.mem_append_right _ (.head _))) | exact .tail _ (.tail _ (List.mem_append_right _ (.tail _ (.head _)))) | exact .tail _ (.tail _ (List.mem_append_right _ (.tail _ (.tail _ (.head _))))) | exact .tail _ (.tail _ (List.mem_append_right _ (.tail _ (.tail _ (.tail _ (.head _))))))) (rowF_at 64 _ _ (by omega)))) ?_; simp only [Act.put, List.setIfInBounds_toArray, List.set_cons_succ, List.set_cons_zero]) | (refine x_set1 hL rfl _ _ _ rfl _ _ rfl _ rfl s_u32 rfl rfl _ _ _ _ (by first | exact .here | exact .there .here | exact .there (.there .here) | exact .there (.there (.there .here)) | exact .there (.there (.there (.there .here))) | exact .pre (.here) | exact .pre (.there .here) | exact .pre (.there (.there .here))) (by rw [rowF_len]; exact hlt) (rowF_set 64 _ (fun j => W32 (if j = t then wv bs t else f j)) t _ hlt (by simp only [if_true]; exact congrArg W32 HG.out.symm) (fun j _ hne => by simp only [if_neg hne])) ?_; clear hL; intro w hL; simp only [Act.put, List.setIfInBounds_toArray, List.set_cons_succ, List.set_cons_zero]) | (refine wpLex_val rfl _ (fun w2 => by (go_simp; (try simp only [w32_addm]); (try rfl))) ?_; simp only [Act.put, List.setIfInBounds_toArray, List.set_cons_succ, List.set_cons_zero]))
        refine wpLex_nil ?_
        go_wp2
        go_roundw
        case rel =>
          refine ⟨t + 1, fun j => if j = t then wv bs t else f j, by omega, by rfl, Lib.hid (fun j => ?_), hL⟩
          by_cases h : j = t
          · simp only [if_pos h]; rw [if_pos (by omega), h]
          · simp only [if_neg h]; rw [hf.out j]
            by_cases h2 : j < t
            · rw [if_pos h2, if_pos (by omega)]
            · rw [if_neg h2, if_neg (by omega)]
        case measure => simp [intOf]; omega
    · obtain rfl : t = 64 := by omega
      go_wp2_with (first | (refine wpl_run rfl (run_load_row hL rfl a_w rfl (by first | exact .head _ | exact .tail _ (.head _) | exact .tail _ (.tail _ (.head _)) | exact .tail _ (.tail _ (.tail _ (.head _))) | exact .tail _ (.tail _ (.tail _ (.tail _ (.head _)))) | exact .tail _ (.tail _ (.tail _ (.tail _ (.tail _ (.head _))))) | exact List.mem_append_right _ (.head _) | exact List.mem_append_right _ (.tail _ (.head _)) | exact List.mem_append_right _ (.tail _ (.tail _ (.head _))) | exact List.mem_append_right _ (.tail _ (.tail _ (.tail _ (.head _)))) | exact .tail _ (List.mem_append_right _ (.head _)) | exact .tail _ (List.mem_append_right _ (.tail _ (.head _))) | exact .tail _ (List.mem_append_right _ (.tail _ (.tail _ (.head _)))) | exact .tail _ (List.mem_append_right _ (.tail _ (.tail _ (.tail _ (.head _))))) | exact .tail _ (.tail _ (List.mem_append_right _ (.head _))) | exact .tail _ (.tail _ (List.mem_append_right _ (.tail _ (.head _)))) | exact .tail _ (.tail _ (List.mem_append_right _ (.tail _ (.tail _ (.head _))))) | exact .tail _ (.tail _ (List.mem_append_right _ (.tail _ (.tail _ (.tail _ (.head _))))))) (by rfl)) ?_; simp only [Act.put, List.setIfInBounds_toArray, List.set_cons_succ, List.set_cons_zero]) | (refine wpl_strow hL rfl _ _ _ rfl _ rfl _ rfl _ s_w _ rfl _ _ _ (by first | exact .here | exact .there .here | exact .there (.there .here) | exact .there (.there (.there .here)) | exact .there (.there (.there (.there .here))) | exact .pre (.here) | exact .pre (.there .here) | exact .pre (.there (.there .here))) (rowF_one _ _ fun _ => rfl) (by rfl) (by rfl) ?_; clear hL; intro w hL; simp only [Act.put, List.setIfInBounds_toArray, List.set_cons_succ, List.set_cons_zero]))
      refine bodyPost_cell rfl a_w rfl rfl hL (by first | exact .head _ | exact .tail _ (.head _) | exact .tail _ (.tail _ (.head _)) | exact .tail _ (.tail _ (.tail _ (.head _))) | exact .tail _ (.tail _ (.tail _ (.tail _ (.head _)))) | exact .tail _ (.tail _ (.tail _ (.tail _ (.tail _ (.head _))))) | exact List.mem_append_right _ (.head _) | exact List.mem_append_right _ (.tail _ (.head _)) | exact List.mem_append_right _ (.tail _ (.tail _ (.head _))) | exact List.mem_append_right _ (.tail _ (.tail _ (.tail _ (.head _)))) | exact .tail _ (List.mem_append_right _ (.head _)) | exact .tail _ (List.mem_append_right _ (.tail _ (.head _))) | exact .tail _ (List.mem_append_right _ (.tail _ (.tail _ (.head _)))) | exact .tail _ (List.mem_append_right _ (.tail _ (.tail _ (.tail _ (.head _))))) | exact .tail _ (.tail _ (List.mem_append_right _ (.head _))) | exact .tail _ (.tail _ (List.mem_append_right _ (.tail _ (.head _)))) | exact .tail _ (.tail _ (List.mem_append_right _ (.tail _ (.tail _ (.head _))))) | exact .tail _ (.tail _ (List.mem_append_right _ (.tail _ (.tail _ (.tail _ (.head _))))))) rfl ⟨?_, hL.below⟩
      rw [rowF_congr 64 (fun j => W32 (f j)) (fun j => W32 (wv bs j)) (fun j hj => by simp only [hf.out j, if_pos hj])]
end Go.Proofs.YticponffemffnaaDoor
/- SHA-256: the compression of a block. -/
namespace Go.Proofs.YticponffemffnaaDoor
open Go Go.RowKit Go.Lx
attribute [local irreducible] Calls

structure St where
  a : BitVec 32
  b : BitVec 32
  c : BitVec 32
  d : BitVec 32
  e : BitVec 32
  f : BitVec 32
  g : BitVec 32
  h : BitVec 32
def chF (e f g : BitVec 32) : BitVec 32 := (e &&& f) ^^^ (~~~e &&& g)
def majF (a b c : BitVec 32) : BitVec 32 := (a &&& b) ^^^ (a &&& c) ^^^ (b &&& c)
def St.x (s : St) (k w : BitVec 32) : BitVec 32 := s.h + mix3 s.e 6 11 25 + chF s.e s.f s.g + k + w
def St.y (s : St) : BitVec 32 := mix3 s.a 2 13 22 + majF s.a s.b s.c
def St.rnd (s : St) (k w : BitVec 32) : St := ⟨s.x k w + s.y, s.a, s.b, s.c, s.d + s.x k w, s.e, s.f, s.g⟩
def rounds (bs : List UInt8) (s : St) : Nat → St
  | 0 => s
  | t + 1 => (rounds bs s t).rnd (kc t) (wv bs t)
def St.add (s r : St) : St := ⟨s.a + r.a, s.b + r.b, s.c + r.c, s.d + r.d, s.e + r.e, s.f + r.f, s.g + r.g, s.h + r.h⟩
def compr (s : St) (bs : List UInt8) : St := s.add (rounds bs s 64)
def St.v8 (s : St) : List Value := [W32 s.a, W32 s.b, W32 s.c, W32 s.d, W32 s.e, W32 s.f, W32 s.g, W32 s.h]

def St.at (s : St) : Nat → BitVec 32
  | 0 => s.a | 1 => s.b | 2 => s.c | 3 => s.d | 4 => s.e | 5 => s.f | 6 => s.g | 7 => s.h | _ => 0
theorem v8_eq (s : St) : s.v8 = rowF 8 fun j => W32 (s.at j) := rfl
theorem v4_lo (s : St) : [W32 s.a, W32 s.b, W32 s.c, W32 s.d] = rowF 4 fun j => W32 (s.at j) := rfl
theorem v4_hi (s : St) : [W32 s.e, W32 s.f, W32 s.g, W32 s.h] = rowF 4 fun j => W32 (s.at (4 + j)) := rfl
theorem add_at (s r : St) (j : Nat) (h : j < 8) : (s.add r).at j = s.at j + r.at j := by
  rcases j with _ | _ | _ | _ | _ | _ | _ | _ | j
  all_goals first | rfl | omega
theorem u_w : Tryd.prog.underlying 93 = some (.array 64 71) := by kernel_rfl
theorem rowA_at (n : Nat) (f : Nat → Value) (i : Nat) (h : i < n) : (rowF n f).toArray[i]? = some (f i) := by rw [List.getElem?_toArray]; exact rowF_at n f i h
theorem z_8 : zeroOf Tryd.prog 72 = some [W32 0, W32 0, W32 0, W32 0, W32 0, W32 0, W32 0, W32 0] := by kernel_rfl
theorem a_8 : aggVar Tryd.prog 72 = some 8 := by kernel_rfl
theorem s_8 : (Tryd.prog.info? 72).map (·.size) = some 8 := by kernel_rfl
theorem z_4 : zeroOf Tryd.prog 95 = some [W32 0, W32 0, W32 0, W32 0] := by kernel_rfl
theorem a_4 : aggVar Tryd.prog 95 = some 4 := by kernel_rfl
theorem s_4 : (Tryd.prog.info? 95).map (·.size) = some 4 := by kernel_rfl
theorem en_schedule : enterable Tryd.prog 78 = true := by kernel_rfl

theorem partL (pre vs post : List Value) (j : Nat) (v : Value) (h : vs[j]? = some v) : (pre ++ vs ++ post)[pre.length + j]? = some v := by
  have hj : j < vs.length := by
    rcases Nat.lt_or_ge j vs.length with h1 | h1
    · exact h1
    · rw [List.getElem?_eq_none h1] at h; cases h
  rw [List.append_assoc, List.getElem?_append_right (by omega), Nat.add_sub_cancel_left, List.getElem?_append_left hj]; exact h
theorem tab_at {w : World} {b : Nat} (h : ∀ j, j < 64 → w.cell? ⟨b, j, none⟩ = some (W32 (kc j))) (j : Nat) (v : Value) (hv : (rowF 64 fun j => W32 (kc j))[j]? = some v) : w.cell? ((⟨b, 0, none⟩ : Addr).add j) = some v := by
  have e : (⟨b, 0, none⟩ : Addr).add j = ⟨b, j, none⟩ := by unfold Addr.add; split <;> simp_all
  rw [e]
  by_cases hj : j < 64
  · rw [rowF_at 64 _ j hj] at hv; rw [h j hj]; exact hv
  · rw [List.getElem?_eq_none (by rw [rowF_len]; omega)] at hv; cases hv

set_option maxRecDepth 100000 in
set_option maxHeartbeats 4000000 in
theorem compress_any (s : St) (ad : Addr) (cap : Nat) (bs : List UInt8) (w0 : World) (hlen : bs.length = 64) (hcap : 64 ≤ cap) (hc : ∀ j x, (bytesV bs)[j]? = some x → w0.cell? (ad.add j) = some x) (hT : Tab w0) :
    Calls Tryd.prog 74 #[.agg s.v8.toArray, .slice (some ad) 64 cap] w0 fun e w' => e = .returned (.agg (compr s bs).v8.toArray) ∧ Below w0.heap.size w0 w' := by
  have hL := Sees.refl w0
  go_enter Tryd.func74, Tryd.ntmps74
  go_wp2_with (first | (refine wpl_box hL rfl _ _ rfl _ rfl _ rfl ?_; clear hL; intro b w hL; simp only [Act.put, List.setIfInBounds_toArray, List.set_cons_succ, List.set_cons_zero]) | (refine wpl_alloc hL rfl _ rfl _ z_8 ?_; clear hL; intro b w hL; simp only [Act.put, List.setIfInBounds_toArray, List.set_cons_succ, List.set_cons_zero]) | (refine wpl_alloc hL rfl _ rfl _ z_w ?_; clear hL; intro b w hL; simp only [Act.put, List.setIfInBounds_toArray, List.set_cons_succ, List.set_cons_zero]) | (go_at_call 78; refine (schedule_any _ _ bs _ hlen hcap (fun j x hx => hL.old (hc j x hx))).mono ?_; rintro e w ⟨rfl, hb⟩; replace hL := hL.call hb; clear hb) | (refine wpl_strow hL rfl _ _ _ rfl _ rfl _ rfl _ s_w _ rfl _ _ _ (by first | exact .here | exact .there .here | exact .there (.there .here) | exact .there (.there (.there .here)) | exact .there (.there (.there (.there .here))) | exact .pre (.here) | exact .pre (.there .here) | exact .pre (.there (.there .here))) (rowF_one _ _ fun _ => rfl) (by rfl) (by rfl) ?_; clear hL; intro w hL; simp only [Act.put, List.setIfInBounds_toArray, List.set_cons_succ, List.set_cons_zero]))
  rename_i bs0 _ br _ _ _ _ _
  obtain ⟨bw, rfl⟩ : ∃ bw, bw = b := ⟨_, rfl⟩
  refine wp_to (fun a a' w' => ∃ x15 x16 x17 x18 x19 x20 b6 b7, a' = (((((((a.put (some 15) x15).put (some 16) x16).put (some 17) x17).put (some 18) x18).put (some 19) x19).put (some 20) x20).put (some 6) (.pointer (some ⟨b6, 0, none⟩))).put (some 7) (.pointer (some ⟨b7, 0, none⟩)) ∧
    Sees w0 w' [⟨b7, 95, [W32 s.e, W32 s.f, W32 s.g, W32 s.h]⟩, ⟨b6, 95, [W32 s.a, W32 s.b, W32 s.c, W32 s.d]⟩, ⟨bw, 93, rowF 64 fun j => W32 (wv bs j)⟩, ⟨br, 72, [W32 0, W32 0, W32 0, W32 0, W32 0, W32 0, W32 0, W32 0]⟩, ⟨bs0, 72, s.v8⟩]) ?_ ?_
  · refine wp_region_fork [.val, .val, .old, .val, .val, .old, .ext, .ext, .ext, .ext] [0, 1, 2, 3, 4, 5] 6 [7, 8, 9] 7 [6, 8, 9] (l0 := [(.val, _), (.val, _), (.old, _), (.val, _), (.val, _), (.old, _)]) (l1 := [(.ext, _), (.ext, _), (.ext, _), (.ext, _)]) (l2 := [(.ext, _), (.ext, _), (.ext, _), (.ext, _)]) mixed (by kernel_rfl) (by (simp only [pick, List.filterMap_cons, List.filterMap_nil, List.getElem?_toArray, List.getElem?_cons_zero, List.getElem?_cons_succ, Option.map_some]; rfl)) (by (simp only [pick, List.filterMap_cons, List.filterMap_nil, List.getElem?_toArray, List.getElem?_cons_zero, List.getElem?_cons_succ, Option.map_some]; rfl)) (by (simp only [pick, List.filterMap_cons, List.filterMap_nil, List.getElem?_toArray, List.getElem?_cons_zero, List.getElem?_cons_succ, Option.map_some]; rfl)) ?_
    have hI := hL.drew
    have hJ : Sees w.drew w.drew [] := Sees.refl _
    repeat (first | (refine wpLex_old rfl hJ.below _ (fun w2 hS2 => run_load_part (hI.call hS2) rfl a_4 rfl (by first | exact .head _ | exact .tail _ (.head _) | exact .tail _ (.tail _ (.head _)) | exact .tail _ (.tail _ (.tail _ (.head _))) | exact .tail _ (.tail _ (.tail _ (.tail _ (.head _)))) | exact .tail _ (.tail _ (.tail _ (.tail _ (.tail _ (.head _))))) | exact List.mem_append_right _ (.head _) | exact List.mem_append_right _ (.tail _ (.head _)) | exact List.mem_append_right _ (.tail _ (.tail _ (.head _))) | exact List.mem_append_right _ (.tail _ (.tail _ (.tail _ (.head _)))) | exact .tail _ (List.mem_append_right _ (.head _)) | exact .tail _ (List.mem_append_right _ (.tail _ (.head _))) | exact .tail _ (List.mem_append_right _ (.tail _ (.tail _ (.head _)))) | exact .tail _ (List.mem_append_right _ (.tail _ (.tail _ (.tail _ (.head _))))) | exact .tail _ (.tail _ (List.mem_append_right _ (.head _))) | exact .tail _ (.tail _ (List.mem_append_right _ (.tail _ (.head _)))) | exact .tail _ (.tail _ (List.mem_append_right _ (.tail _ (.tail _ (.head _))))) | exact .tail _ (.tail _ (List.mem_append_right _ (.tail _ (.tail _ (.tail _ (.head _))))))) (vs := [W32 s.a, W32 s.b, W32 s.c, W32 s.d]) rfl (partL [] [W32 s.a, W32 s.b, W32 s.c, W32 s.d] [W32 s.e, W32 s.f, W32 s.g, W32 s.h])) ?_; simp only [Act.put, List.setIfInBounds_toArray, List.set_cons_succ, List.set_cons_zero]) | (refine wpLex_old rfl hJ.below _ (fun w2 hS2 => run_load_part (hI.call hS2) rfl a_4 rfl (by first | exact .head _ | exact .tail _ (.head _) | exact .tail _ (.tail _ (.head _)) | exact .tail _ (.tail _ (.tail _ (.head _))) | exact .tail _ (.tail _ (.tail _ (.tail _ (.head _)))) | exact .tail _ (.tail _ (.tail _ (.tail _ (.tail _ (.head _))))) | exact List.mem_append_right _ (.head _) | exact List.mem_append_right _ (.tail _ (.head _)) | exact List.mem_append_right _ (.tail _ (.tail _ (.head _))) | exact List.mem_append_right _ (.tail _ (.tail _ (.tail _ (.head _)))) | exact .tail _ (List.mem_append_right _ (.head _)) | exact .tail _ (List.mem_append_right _ (.tail _ (.head _))) | exact .tail _ (List.mem_append_right _ (.tail _ (.tail _ (.head _)))) | exact .tail _ (List.mem_append_right _ (.tail _ (.tail _ (.tail _ (.head _))))) | exact .tail _ (.tail _ (List.mem_append_right _ (.head _))) | exact .tail _ (.tail _ (List.mem_append_right _ (.tail _ (.head _)))) | exact .tail _ (.tail _ (List.mem_append_right _ (.tail _ (.tail _ (.head _))))) | exact .tail _ (.tail _ (List.mem_append_right _ (.tail _ (.tail _ (.tail _ (.head _))))))) (vs := [W32 s.e, W32 s.f, W32 s.g, W32 s.h]) rfl (partL [W32 s.a, W32 s.b, W32 s.c, W32 s.d] [W32 s.e, W32 s.f, W32 s.g, W32 s.h] [])) ?_; simp only [Act.put, List.setIfInBounds_toArray, List.set_cons_succ, List.set_cons_zero]) | (refine wpLex_val rfl _ (fun w2 => by (go_simp; try rfl)) ?_; simp only [Act.put, List.setIfInBounds_toArray, List.set_cons_succ, List.set_cons_zero]))
    refine wpLex_nil ⟨?_, ?_⟩
    all_goals
      repeat (first | (refine xj_alloc hJ rfl _ rfl _ z_4 ?_; clear hJ; intro b w hJ; simp only [Act.put, List.setIfInBounds_toArray, List.set_cons_succ, List.set_cons_zero]) | (refine xj_strow hJ rfl _ _ _ rfl _ rfl _ rfl _ s_4 _ rfl _ _ _ (by first | exact .here | exact .there .here | exact .there (.there .here) | exact .there (.there (.there .here)) | exact .there (.there (.there (.there .here))) | exact .pre (.here) | exact .pre (.there .here) | exact .pre (.there (.there .here))) (by repeat (first | exact all1_nil | refine all1_cons rfl ?_)) (by rfl) (by rfl) ?_; clear hJ; intro w hJ; simp only [Act.put, List.setIfInBounds_toArray, List.set_cons_succ, List.set_cons_zero]))
      refine wpLex_nil ⟨by trivial, _, _, _, _, _, _, _, _, rfl, ?_⟩
      first | exact hI.join hJ | exact hI.join hJ.swap2
  intro a' w' hh
  obtain ⟨x15, x16, x17, x18, x19, x20, bv, be, rfl, hL⟩ := hh
  simp only [Act.put, List.setIfInBounds_toArray, List.set_cons_succ, List.set_cons_zero]
  go_wp2_with (first | (refine wpl_run rfl (run_load_agg (vs := rowF 64 fun j => W32 (kc j)) rfl a_w rfl (by rw [rowF_len]) (tab_at (hT.since hL).kcs)) ?_; simp only [Act.put, List.setIfInBounds_toArray, List.set_cons_succ, List.set_cons_zero]))
  go_loopw [22] (fun i wr => ∃ (t : Nat) (r : St), t ≤ 64 ∧ i = .int .i64 t ∧ Hid (r = rounds bs s t) ∧ Sees w0 wr [⟨be, 95, [W32 r.e, W32 r.f, W32 r.g, W32 r.h]⟩, ⟨bv, 95, [W32 r.a, W32 r.b, W32 r.c, W32 r.d]⟩, ⟨bw, 93, rowF 64 fun j => W32 (wv bs j)⟩, ⟨br, 72, [W32 0, W32 0, W32 0, W32 0, W32 0, W32 0, W32 0, W32 0]⟩, ⟨bs0, 72, s.v8⟩]) (fun i _ => 64 - (intOf i).toNat)
  case atStart => exact ⟨0, s, Nat.zero_le _, rfl, Lib.hid rfl, hL⟩
  case round =>
    clear hL
    obtain ⟨t, r, ht, rfl, hr, hL⟩ := hrel
    by_cases hlt : t < 64
    · go_wp2_with (first | (refine wpl_run rfl (run_index_row rfl u_w p_u32 s_u32 rfl rfl hlt (rowA_at 64 _ t hlt)) ?_; simp only [Act.put, List.setIfInBounds_toArray, List.set_cons_succ, List.set_cons_zero]))
      refine wp_region_lex [(.val, _), (.calm, _), (.val, _), (.calm, _), (.call, _), (.val, _), (.val, _), (.calm, _), (.val, _), (.calm, _), (.val, _), (.val, _), (.calm, _), (.val, _), (.val, _), (.calm, _), (.val, _), (.val, _), (.val, _), (.val, _), (.val, _), (.val, _), (.val, _), (.calm, _), (.val, _), (.val, _)] rfl mixed (by kernel_rfl) ?_
      replace hL := hL.drew
      repeat (first | (refine wpLex_calm rfl _ (run_load_plain rfl p_u32 rfl (hL.at (by first | exact .head _ | exact .tail _ (.head _) | exact .tail _ (.tail _ (.head _)) | exact .tail _ (.tail _ (.tail _ (.head _))) | exact .tail _ (.tail _ (.tail _ (.tail _ (.head _)))) | exact .tail _ (.tail _ (.tail _ (.tail _ (.tail _ (.head _))))) | exact List.mem_append_right _ (.head _) | exact List.mem_append_right _ (.tail _ (.head _)) | exact List.mem_append_right _ (.tail _ (.tail _ (.head _))) | exact List.mem_append_right _ (.tail _ (.tail _ (.tail _ (.head _)))) | exact .tail _ (List.mem_append_right _ (.head _)) | exact .tail _ (List.mem_append_right _ (.tail _ (.head _))) | exact .tail _ (List.mem_append_right _ (.tail _ (.tail _ (.head _)))) | exact .tail _ (List.mem_append_right _ (.tail _ (.tail _ (.tail _ (.head _))))) | exact .tail _ (.tail _ (List.mem_append_right _ (.head _))) | exact .tail _ (.tail _ (List.mem_append_right _ (.tail _ (.head _)))) | exact .tail _ (.tail _ (List.mem_append_right _ (.tail _ (.tail _ (.head _))))) | exact .tail _ (.tail _ (List.mem_append_right _ (.tail _ (.tail _ (.tail _ (.head _))))))) (rowF_at 64 _ t hlt))) ?_; simp only [Act.put, List.setIfInBounds_toArray, List.set_cons_succ, List.set_cons_zero]) | (refine wpLex_calm rfl _ (run_load_plain rfl p_u32 rfl (hL.at (by first | exact .head _ | exact .tail _ (.head _) | exact .tail _ (.tail _ (.head _)) | exact .tail _ (.tail _ (.tail _ (.head _))) | exact .tail _ (.tail _ (.tail _ (.tail _ (.head _)))) | exact .tail _ (.tail _ (.tail _ (.tail _ (.tail _ (.head _))))) | exact List.mem_append_right _ (.head _) | exact List.mem_append_right _ (.tail _ (.head _)) | exact List.mem_append_right _ (.tail _ (.tail _ (.head _))) | exact List.mem_append_right _ (.tail _ (.tail _ (.tail _ (.head _)))) | exact .tail _ (List.mem_append_right _ (.head _)) | exact .tail _ (List.mem_append_right _ (.tail _ (.head _))) | exact .tail _ (List.mem_append_right _ (.tail _ (.tail _ (.head _)))) | exact .tail _ (List.mem_append_right _ (.tail _ (.tail _ (.tail _ (.head _))))) | exact .tail _ (.tail _ (List.mem_append_right _ (.head _))) | exact .tail _ (.tail _ (List.mem_append_right _ (.tail _ (.head _)))) | exact .tail _ (.tail _ (List.mem_append_right _ (.tail _ (.tail _ (.head _))))) | exact .tail _ (.tail _ (List.mem_append_right _ (.tail _ (.tail _ (.tail _ (.head _))))))) (by rfl))) ?_; simp only [Act.put, List.setIfInBounds_toArray, List.set_cons_succ, List.set_cons_zero]) | (refine x_kcall en_mix rfl rfl rfl rfl (mix_e _) ?_; simp only [Act.put, List.setIfInBounds_toArray, List.set_cons_succ, List.set_cons_zero]) | (refine wpLex_val rfl _ (fun w2 => by (go_simp; (try simp only [w32_and, w32_xor, w32_compl, w32_add, w32_addm]); (try rfl))) ?_; simp only [Act.put, List.setIfInBounds_toArray, List.set_cons_succ, List.set_cons_zero]))
      refine wpLex_nil ?_
      obtain ⟨X, hX⟩ : ∃ X, X = r.x (kc t) (wv bs t) := ⟨_, rfl⟩
      rw [show r.h + mix3 r.e 6 11 25 + (r.e &&& r.f ^^^ ~~~r.e &&& r.g) + kc t + wv bs t = X from hX.symm]
      have HX := Lib.hid hX
      clear hX
      go_wp2
      refine wp_region_lex [(.val, _), (.calm, _), (.call, _), (.val, _), (.calm, _), (.val, _), (.calm, _), (.val, _), (.val, _), (.calm, _), (.val, _), (.calm, _), (.val, _), (.val, _), (.val, _), (.calm, _), (.val, _), (.calm, _), (.val, _), (.val, _), (.val, _), (.val, _)] rfl mixed (by kernel_rfl) ?_
      replace hL := hL.drew
      repeat (first | (refine wpLex_calm rfl _ (run_load_plain rfl p_u32 rfl (hL.at (by first | exact .head _ | exact .tail _ (.head _) | exact .tail _ (.tail _ (.head _)) | exact .tail _ (.tail _ (.tail _ (.head _))) | exact .tail _ (.tail _ (.tail _ (.tail _ (.head _)))) | exact .tail _ (.tail _ (.tail _ (.tail _ (.tail _ (.head _))))) | exact List.mem_append_right _ (.head _) | exact List.mem_append_right _ (.tail _ (.head _)) | exact List.mem_append_right _ (.tail _ (.tail _ (.head _))) | exact List.mem_append_right _ (.tail _ (.tail _ (.tail _ (.head _)))) | exact .tail _ (List.mem_append_right _ (.head _)) | exact .tail _ (List.mem_append_right _ (.tail _ (.head _))) | exact .tail _ (List.mem_append_right _ (.tail _ (.tail _ (.head _)))) | exact .tail _ (List.mem_append_right _ (.tail _ (.tail _ (.tail _ (.head _))))) | exact .tail _ (.tail _ (List.mem_append_right _ (.head _))) | exact .tail _ (.tail _ (List.mem_append_right _ (.tail _ (.head _)))) | exact .tail _ (.tail _ (List.mem_append_right _ (.tail _ (.tail _ (.head _))))) | exact .tail _ (.tail _ (List.mem_append_right _ (.tail _ (.tail _ (.tail _ (.head _))))))) (by rfl))) ?_; simp only [Act.put, List.setIfInBounds_toArray, List.set_cons_succ, List.set_cons_zero]) | (refine x_kcall en_mix rfl rfl rfl rfl (mix_a _) ?_; simp only [Act.put, List.setIfInBounds_toArray, List.set_cons_succ, List.set_cons_zero]) | (refine wpLex_val rfl _ (fun w2 => by (go_simp; (try simp only [w32_and, w32_xor, w32_add, w32_addm]); (try rfl))) ?_; simp only [Act.put, List.setIfInBounds_toArray, List.set_cons_succ, List.set_cons_zero]))
      refine wpLex_nil ?_
      obtain ⟨Y, hY⟩ : ∃ Y, Y = r.y := ⟨_, rfl⟩
      rw [show mix3 r.a 2 13 22 + (r.a &&& r.b ^^^ r.a &&& r.c ^^^ r.b &&& r.c) = Y from hY.symm]
      have HY := Lib.hid hY
      clear hY
      go_wp2_with (first | (refine wpl_run rfl (run_load_plain rfl p_u32 rfl (hL.at (by first | exact .head _ | exact .tail _ (.head _) | exact .tail _ (.tail _ (.head _)) | exact .tail _ (.tail _ (.tail _ (.head _))) | exact .tail _ (.tail _ (.tail _ (.tail _ (.head _)))) | exact .tail _ (.tail _ (.tail _ (.tail _ (.tail _ (.head _))))) | exact List.mem_append_right _ (.head _) | exact List.mem_append_right _ (.tail _ (.head _)) | exact List.mem_append_right _ (.tail _ (.tail _ (.head _))) | exact List.mem_append_right _ (.tail _ (.tail _ (.tail _ (.head _)))) | exact .tail _ (List.mem_append_right _ (.head _)) | exact .tail _ (List.mem_append_right _ (.tail _ (.head _))) | exact .tail _ (List.mem_append_right _ (.tail _ (.tail _ (.head _)))) | exact .tail _ (List.mem_append_right _ (.tail _ (.tail _ (.tail _ (.head _))))) | exact .tail _ (.tail _ (List.mem_append_right _ (.head _))) | exact .tail _ (.tail _ (List.mem_append_right _ (.tail _ (.head _)))) | exact .tail _ (.tail _ (List.mem_append_right _ (.tail _ (.tail _ (.head _))))) | exact .tail _ (.tail _ (List.mem_append_right _ (.tail _ (.tail _ (.tail _ (.head _))))))) (by rfl))) ?_; simp only [Act.put, List.setIfInBounds_toArray, List.set_cons_succ, List.set_cons_zero]) | (refine wpl_strow hL rfl _ _ _ rfl _ rfl _ rfl _ s_4 _ rfl _ _ _ (by first | exact .here | exact .there .here | exact .there (.there .here) | exact .there (.there (.there .here)) | exact .there (.there (.there (.there .here))) | exact .pre (.here) | exact .pre (.there .here) | exact .pre (.there (.there .here))) (by repeat (first | exact all1_nil | refine all1_cons rfl ?_)) (by rfl) (by rfl) ?_; clear hL; intro w hL; simp only [Act.put, List.setIfInBounds_toArray, List.set_cons_succ, List.set_cons_zero]))
      rw [w32_addm r.d X, w32_addm X Y] at hL
      go_roundw
      case rel =>
        refine ⟨t + 1, r.rnd (kc t) (wv bs t), by omega, by rfl, Lib.hid (by rw [hr.out]; rfl), ?_⟩
        have e1 := HX.out
        have e2 := HY.out
        subst e1; subst e2
        exact hL
      case measure => simp [intOf]; omega
    · obtain rfl : t = 64 := by omega
      go_wp2
      rw [v4_lo, v4_hi, v8_eq] at hL
      go_loopw [94] (fun i wr => ∃ (q : Nat) (f : Nat → BitVec 32), q ≤ 4 ∧ i = .int .i64 q ∧ Hid (∀ j, f j = if j < q ∨ (4 ≤ j ∧ j < 4 + q) then s.at j + r.at j else s.at j) ∧ Sees w0 wr [⟨be, 95, rowF 4 fun j => W32 (r.at (4 + j))⟩, ⟨bv, 95, rowF 4 fun j => W32 (r.at j)⟩, ⟨bw, 93, rowF 64 fun j => W32 (wv bs j)⟩, ⟨br, 72, [W32 0, W32 0, W32 0, W32 0, W32 0, W32 0, W32 0, W32 0]⟩, ⟨bs0, 72, rowF 8 fun j => W32 (f j)⟩]) (fun i _ => 4 - (intOf i).toNat)
      case atStart => exact ⟨0, s.at, by omega, rfl, Lib.hid (fun j => by rw [if_neg (by omega)]), hL⟩
      case round =>
        clear hL
        obtain ⟨q, f, hq, rfl, hf, hL⟩ := hrel
        by_cases hq4 : q < 4
        · have g0 : f q = s.at q := by rw [hf.out q, if_neg (by omega)]
          have g4 : f (4 + q) = s.at (4 + q) := by rw [hf.out (4 + q), if_neg (by omega)]
          have G0 := Lib.hid g0
          have G4 := Lib.hid g4
          clear g0 g4
          have b4 : (q : Int) < 4 := by omega
          have b8 : (q : Int) < 8 := by omega
          obtain ⟨m, hm, HM⟩ : ∃ m : Nat, (m : Int) < 8 ∧ Hid (m = 4 + q) := ⟨4 + q, by omega, Lib.hid rfl⟩
          have e84 : IntKind.i64.wrap (m : Int) = (m : Int) := by rw [IntKind.wrap_i64]; omega
          have e85 : (q : Int) + 4 = (m : Int) := by rw [HM.out]; omega
          go_wp2
          refine wp_region_lex [(.val, _), (.val, _), (.calm, _), (.val, _), (.val, _), (.calm, _), (.val, _), (.val, _), (.eff, _)] rfl mixed (by kernel_rfl) ?_
          replace hL := hL.drew
          repeat (first | (refine wpLex_calm rfl _ (run_load_plain rfl p_u32 rfl (hL.at (by first | exact .head _ | exact .tail _ (.head _) | exact .tail _ (.tail _ (.head _)) | exact .tail _ (.tail _ (.tail _ (.head _))) | exact .tail _ (.tail _ (.tail _ (.tail _ (.head _)))) | exact .tail _ (.tail _ (.tail _ (.tail _ (.tail _ (.head _))))) | exact List.mem_append_right _ (.head _) | exact List.mem_append_right _ (.tail _ (.head _)) | exact List.mem_append_right _ (.tail _ (.tail _ (.head _))) | exact List.mem_append_right _ (.tail _ (.tail _ (.tail _ (.head _)))) | exact .tail _ (List.mem_append_right _ (.head _)) | exact .tail _ (List.mem_append_right _ (.tail _ (.head _))) | exact .tail _ (List.mem_append_right _ (.tail _ (.tail _ (.head _)))) | exact .tail _ (List.mem_append_right _ (.tail _ (.tail _ (.tail _ (.head _))))) | exact .tail _ (.tail _ (List.mem_append_right _ (.head _))) | exact .tail _ (.tail _ (List.mem_append_right _ (.tail _ (.head _)))) | exact .tail _ (.tail _ (List.mem_append_right _ (.tail _ (.tail _ (.head _))))) | exact .tail _ (.tail _ (List.mem_append_right _ (.tail _ (.tail _ (.tail _ (.head _))))))) (rowF_at _ _ _ (by omega)))) ?_; simp only [Act.put, List.setIfInBounds_toArray, List.set_cons_succ, List.set_cons_zero]) | (refine x_set1 hL rfl _ _ _ rfl _ _ rfl _ rfl s_u32 rfl rfl _ _ _ _ (by first | exact .here | exact .there .here | exact .there (.there .here) | exact .there (.there (.there .here)) | exact .there (.there (.there (.there .here))) | exact .pre (.here) | exact .pre (.there .here) | exact .pre (.there (.there .here))) (by rw [rowF_len]; omega) (rowF_set 8 _ (fun j => W32 (if j = q then s.at q + r.at q else f j)) q _ (by omega) (by simp only [if_true]; exact congrArg (fun z => W32 (z + r.at q)) G0.out.symm) (fun j _ hne => by simp only [if_neg hne])) ?_; clear hL; intro w hL; simp only [Act.put, List.setIfInBounds_toArray, List.set_cons_succ, List.set_cons_zero]) | (refine wpLex_val rfl _ (fun w2 => by (go_simp; (try simp only [w32_add, w32_addm]); (try rfl))) ?_; simp only [Act.put, List.setIfInBounds_toArray, List.set_cons_succ, List.set_cons_zero]))
          refine wpLex_nil ?_
          go_wp2
          have H4 : Hid (W32 (s.at (4 + q) + r.at (4 + q)) = W32 ((if m = q then s.at q + r.at q else f m) + r.at (4 + q))) := Lib.hid (by rw [if_neg (by rw [HM.out]; omega), HM.out, G4.out])
          refine wp_region_lex [(.val, _), (.val, _), (.val, _), (.calm, _), (.val, _), (.val, _), (.calm, _), (.val, _), (.val, _), (.eff, _)] rfl mixed (by kernel_rfl) ?_
          replace hL := hL.drew
          repeat (first | (refine wpLex_calm rfl _ (run_load_plain rfl p_u32 rfl (hL.at (by first | exact .head _ | exact .tail _ (.head _) | exact .tail _ (.tail _ (.head _)) | exact .tail _ (.tail _ (.tail _ (.head _))) | exact .tail _ (.tail _ (.tail _ (.tail _ (.head _)))) | exact .tail _ (.tail _ (.tail _ (.tail _ (.tail _ (.head _))))) | exact List.mem_append_right _ (.head _) | exact List.mem_append_right _ (.tail _ (.head _)) | exact List.mem_append_right _ (.tail _ (.tail _ (.head _))) | exact List.mem_append_right _ (.tail _ (.tail _ (.tail _ (.head _)))) | exact .tail _ (List.mem_append_right _ (.head _)) | exact .tail _ (List.mem_append_right _ (.tail _ (.head _))) | exact .tail _ (List.mem_append_right _ (.tail _ (.tail _ (.head _)))) | exact .tail _ (List.mem_append_right _ (.tail _ (.tail _ (.tail _ (.head _))))) | exact .tail _ (.tail _ (List.mem_append_right _ (.head _))) | exact .tail _ (.tail _ (List.mem_append_right _ (.tail _ (.head _)))) | exact .tail _ (.tail _ (List.mem_append_right _ (.tail _ (.tail _ (.head _))))) | exact .tail _ (.tail _ (List.mem_append_right _ (.tail _ (.tail _ (.tail _ (.head _))))))) (rowF_at _ _ _ (by omega)))) ?_; simp only [Act.put, List.setIfInBounds_toArray, List.set_cons_succ, List.set_cons_zero]) | (refine x_set1 hL rfl _ _ _ rfl _ _ rfl _ rfl s_u32 rfl rfl _ _ _ _ (by first | exact .here | exact .there .here | exact .there (.there .here) | exact .there (.there (.there .here)) | exact .there (.there (.there (.there .here))) | exact .pre (.here) | exact .pre (.there .here) | exact .pre (.there (.there .here))) (by rw [rowF_len]; omega) (rowF_set 8 _ (fun j => W32 (if j = m then s.at (4 + q) + r.at (4 + q) else if j = q then s.at q + r.at q else f j)) m _ (by omega) (by simp only [if_true]; exact H4.out) (fun j _ hne => by simp only [if_neg hne])) ?_; clear hL; intro w hL; simp only [Act.put, List.setIfInBounds_toArray, List.set_cons_succ, List.set_cons_zero]) | (refine wpLex_val rfl _ (fun w2 => by (go_simp; (try simp only [w32_add, w32_addm]); (try rfl))) ?_; simp only [Act.put, List.setIfInBounds_toArray, List.set_cons_succ, List.set_cons_zero]))
          refine wpLex_nil ?_
          go_wp2
          go_roundw
          case rel =>
            refine ⟨q + 1, fun j => if j = m then s.at (4 + q) + r.at (4 + q) else if j = q then s.at q + r.at q else f j, by omega, by rfl, Lib.hid (fun j => ?_), hL⟩
            have hm' := HM.out
            by_cases h1 : j = m
            · simp only [if_pos h1]; rw [if_pos (by omega), show j = 4 + q from by omega]
            · simp only [if_neg h1]
              by_cases h2 : j = q
              · simp only [if_pos h2]; rw [if_pos (by omega), h2]
              · simp only [if_neg h2]; rw [hf.out j]
                by_cases h3 : j < q ∨ (4 ≤ j ∧ j < 4 + q)
                · rw [if_pos h3, if_pos (by omega)]
                · rw [if_neg h3, if_neg (by omega)]
          case measure => simp [intOf]; omega
        · obtain rfl : q = 4 := by omega
          go_wp2_with (first | (refine wpl_run rfl (run_load_row hL rfl a_8 rfl (by first | exact .head _ | exact .tail _ (.head _) | exact .tail _ (.tail _ (.head _)) | exact .tail _ (.tail _ (.tail _ (.head _))) | exact .tail _ (.tail _ (.tail _ (.tail _ (.head _)))) | exact .tail _ (.tail _ (.tail _ (.tail _ (.tail _ (.head _))))) | exact List.mem_append_right _ (.head _) | exact List.mem_append_right _ (.tail _ (.head _)) | exact List.mem_append_right _ (.tail _ (.tail _ (.head _))) | exact List.mem_append_right _ (.tail _ (.tail _ (.tail _ (.head _)))) | exact .tail _ (List.mem_append_right _ (.head _)) | exact .tail _ (List.mem_append_right _ (.tail _ (.head _))) | exact .tail _ (List.mem_append_right _ (.tail _ (.tail _ (.head _)))) | exact .tail _ (List.mem_append_right _ (.tail _ (.tail _ (.tail _ (.head _))))) | exact .tail _ (.tail _ (List.mem_append_right _ (.head _))) | exact .tail _ (.tail _ (List.mem_append_right _ (.tail _ (.head _)))) | exact .tail _ (.tail _ (List.mem_append_right _ (.tail _ (.tail _ (.head _))))) | exact .tail _ (.tail _ (List.mem_append_right _ (.tail _ (.tail _ (.tail _ (.head _))))))) (by rfl)) ?_; simp only [Act.put, List.setIfInBounds_toArray, List.set_cons_succ, List.set_cons_zero]) | (refine wpl_strow hL rfl _ _ _ rfl _ rfl _ rfl _ s_8 _ rfl _ _ _ (by first | exact .here | exact .there .here | exact .there (.there .here) | exact .there (.there (.there .here)) | exact .there (.there (.there (.there .here))) | exact .pre (.here) | exact .pre (.there .here) | exact .pre (.there (.there .here))) (rowF_one _ _ fun _ => rfl) (by rfl) (by rfl) ?_; clear hL; intro w hL; simp only [Act.put, List.setIfInBounds_toArray, List.set_cons_succ, List.set_cons_zero]))
          refine bodyPost_cell rfl a_8 rfl rfl hL (by first | exact .head _ | exact .tail _ (.head _) | exact .tail _ (.tail _ (.head _)) | exact .tail _ (.tail _ (.tail _ (.head _))) | exact .tail _ (.tail _ (.tail _ (.tail _ (.head _)))) | exact .tail _ (.tail _ (.tail _ (.tail _ (.tail _ (.head _))))) | exact List.mem_append_right _ (.head _) | exact List.mem_append_right _ (.tail _ (.head _)) | exact List.mem_append_right _ (.tail _ (.tail _ (.head _))) | exact List.mem_append_right _ (.tail _ (.tail _ (.tail _ (.head _)))) | exact .tail _ (List.mem_append_right _ (.head _)) | exact .tail _ (List.mem_append_right _ (.tail _ (.head _))) | exact .tail _ (List.mem_append_right _ (.tail _ (.tail _ (.head _)))) | exact .tail _ (List.mem_append_right _ (.tail _ (.tail _ (.tail _ (.head _))))) | exact .tail _ (.tail _ (List.mem_append_right _ (.head _))) | exact .tail _ (.tail _ (List.mem_append_right _ (.tail _ (.head _)))) | exact .tail _ (.tail _ (List.mem_append_right _ (.tail _ (.tail _ (.head _))))) | exact .tail _ (.tail _ (List.mem_append_right _ (.tail _ (.tail _ (.tail _ (.head _))))))) (rowF_len _ _) ⟨?_, hL.below⟩
          rw [rowF_congr 8 (fun j => W32 (f j)) (fun j => W32 ((compr s bs).at j)) (fun j hj => by
            simp only [hf.out j]
            rw [if_pos (by omega)]
            show W32 _ = W32 ((s.add (rounds bs s 64)).at j)
            rw [add_at _ _ _ hj, hr.out]), ← v8_eq]
theorem en_compress : enterable Tryd.prog 74 = true := by kernel_rfl
end Go.Proofs.YticponffemffnaaDoor
/- SHA-256: a stream of bytes. -/
namespace Go.Proofs.YticponffemffnaaDoor
open Go Go.RowKit Go.Lx
attribute [local irreducible] Calls

/-- a stream: the state, the last block, the length -/
structure Sm where
  st : St
  blk : List UInt8
  n : Nat
def rowS (st : St) (blk : List UInt8) (n : Nat) : List Value := st.v8 ++ bytesV blk ++ [.int .u64 (n : Int)]
abbrev Sm.row (s : Sm) : List Value := rowS s.st s.blk s.n
def Sm.add1 (s : Sm) (c : UInt8) : Sm := ⟨if s.n % 64 = 63 then compr s.st (s.blk.set (s.n % 64) c) else s.st, s.blk.set (s.n % 64) c, s.n + 1⟩
def Sm.add (s : Sm) (l : List UInt8) : Sm := l.foldl Sm.add1 s
theorem Sm.add_nil (s : Sm) : s.add [] = s := rfl
theorem Sm.add_append (s : Sm) (l m : List UInt8) : s.add (l ++ m) = (s.add l).add m := by unfold Sm.add; rw [List.foldl_append]
def st0 : St := ⟨0x6a09e667, 0xbb67ae85, 0x3c6ef372, 0xa54ff53a, 0x510e527f, 0x9b05688c, 0x1f83d9ab, 0x5be0cd19⟩
def sm0 : Sm := ⟨st0, List.replicate 64 0, 0⟩

theorem set_take (l m : List UInt8) (at' : Nat) (c : UInt8) (h : at' < l.length) : (l.set at' c).take (at' + 1) ++ m = l.take at' ++ c :: m := by
  rw [List.take_set, List.take_succ_eq_append_getElem h, List.set_append_right _ _ (by simp; omega)]
  have e : at' - (List.take at' l).length = 0 := by simp; omega
  rw [e]; simp
theorem set_drop (l : List UInt8) (at' k : Nat) (c : UInt8) (h : at' < k) : (l.set at' c).drop k = l.drop k := by
  rw [List.drop_set]; simp; omega
/-- a piece that stays within the block -/
theorem Sm.add_chunk : ∀ (l : List UInt8) (s : Sm), s.blk.length = 64 → s.n % 64 + l.length ≤ 64 → 0 < l.length →
    s.add l = ⟨if s.n % 64 + l.length = 64 then compr s.st (s.blk.take (s.n % 64) ++ l ++ s.blk.drop (s.n % 64 + l.length)) else s.st, s.blk.take (s.n % 64) ++ l ++ s.blk.drop (s.n % 64 + l.length), s.n + l.length⟩
  | [], _, _, _, h => by simp at h
  | [c], s, hb, hl, _ => by
    have e : s.blk.set (s.n % 64) c = s.blk.take (s.n % 64) ++ [c] ++ s.blk.drop (s.n % 64 + 1) := by
      rw [List.set_eq_take_append_cons_drop, if_pos (by omega)]; simp
    show s.add1 c = _
    unfold Sm.add1
    rw [e]
    simp only [List.length_cons, List.length_nil, Nat.zero_add]
    by_cases h : s.n % 64 = 63
    · rw [if_pos h, if_pos (by omega)]
    · rw [if_neg h, if_neg (by omega)]
  | c :: d :: l, s, hb, hl, _ => by
    simp only [List.length_cons] at hl
    have h1 : s.n % 64 ≠ 63 := by omega
    have h2 : (s.n + 1) % 64 = s.n % 64 + 1 := by omega
    have ih := Sm.add_chunk (d :: l) (s.add1 c) (by simp [Sm.add1, hb]) (by show (s.n + 1) % 64 + (l.length + 1) ≤ 64; omega) (by simp)
    show (s.add1 c).add (d :: l) = _
    rw [ih]
    have e1 : (s.add1 c).st = s.st := by unfold Sm.add1; rw [if_neg h1]
    have e2 : (s.add1 c).n = s.n + 1 := rfl
    have e3 : (s.add1 c).blk = s.blk.set (s.n % 64) c := rfl
    rw [e1, e2, e3, h2]
    have e4 : (s.blk.set (s.n % 64) c).take (s.n % 64 + 1) ++ (d :: l) ++ (s.blk.set (s.n % 64) c).drop (s.n % 64 + 1 + (d :: l).length) = s.blk.take (s.n % 64) ++ (c :: d :: l) ++ s.blk.drop (s.n % 64 + (c :: d :: l).length) := by
      rw [set_take _ _ _ _ (by omega), set_drop _ _ _ _ (by simp only [List.length_cons]; omega)]
      simp only [List.length_cons]
      rw [show s.n % 64 + 1 + (l.length + 1) = s.n % 64 + (l.length + 1 + 1) from by omega]
    rw [e4]
    simp only [List.length_cons]
    rw [show s.n % 64 + 1 + (l.length + 1) = s.n % 64 + (l.length + 1 + 1) from by omega, show s.n + 1 + (l.length + 1) = s.n + (l.length + 1 + 1) from by omega]
theorem Sm.blk_len : ∀ (l : List UInt8) (s : Sm), (s.add l).blk.length = s.blk.length
  | [], _ => rfl
  | c :: l, s => by
    show ((s.add1 c).add l).blk.length = _
    rw [Sm.blk_len l]; simp [Sm.add1]
theorem Sm.n_add : ∀ (l : List UInt8) (s : Sm), (s.add l).n = s.n + l.length
  | [], _ => rfl
  | c :: l, s => by
    show ((s.add1 c).add l).n = _
    rw [Sm.n_add l]; simp [Sm.add1]; omega

theorem rowS_len (st : St) (blk : List UInt8) (n : Nat) (h : blk.length = 64) : (rowS st blk n).length = 73 := by simp [rowS, St.v8, bytesV, h]
theorem rowS_n (st : St) (blk : List UInt8) (n : Nat) (h : blk.length = 64) : (rowS st blk n)[72]? = some (.int .u64 (n : Int)) := by
  unfold rowS
  rw [List.getElem?_append_right (by simp [St.v8, bytesV, h])]
  simp [St.v8, bytesV, h]
theorem rowS_setn (st : St) (blk : List UInt8) (n m : Nat) (h : blk.length = 64) : (rowS st blk n).set 72 (.int .u64 (m : Int)) = rowS st blk m := by
  unfold rowS
  rw [List.set_append_right _ _ (by simp [St.v8, bytesV, h])]
  simp [St.v8, bytesV, h]
theorem rowS_split (st : St) (blk : List UInt8) (n i k : Nat) : rowS st blk n = (st.v8 ++ bytesV (blk.take i)) ++ bytesV ((blk.drop i).take k) ++ (bytesV (blk.drop (i + k)) ++ [.int .u64 (n : Int)]) := by
  unfold rowS
  have e : blk = blk.take i ++ (blk.drop i).take k ++ blk.drop (i + k) := by
    rw [List.append_assoc, ← List.drop_drop, List.take_append_drop, List.take_append_drop]
  conv => lhs; rw [e]
  simp only [bytesV_append, List.append_assoc]
theorem rowS_put (st : St) (blk l : List UInt8) (n i k : Nat) : rowS st (blk.take i ++ l ++ blk.drop (i + k)) n = (st.v8 ++ bytesV (blk.take i)) ++ bytesV l ++ (bytesV (blk.drop (i + k)) ++ [.int .u64 (n : Int)]) := by
  unfold rowS
  simp only [bytesV_append, List.append_assoc]
theorem rowS_one (st : St) (blk : List UInt8) (n : Nat) : ∀ u ∈ rowS st blk n, u.one1 = true := by
  intro u hu
  unfold rowS at hu
  rcases List.mem_append.1 hu with hu | hu
  · rcases List.mem_append.1 hu with hu | hu
    · rw [v8_eq] at hu; exact rowF_one _ _ (fun _ => rfl) u hu
    · unfold bytesV at hu; obtain ⟨c, _, rfl⟩ := List.mem_map.1 hu; rfl
  · simp at hu; rw [hu]; rfl

theorem u_blk : Tryd.prog.underlying 73 = some (.array 64 (Tryd.prog.elem 73)) := by kernel_rfl
theorem l_blk : Tryd.prog.arrayLen 73 = 64 := by kernel_rfl
theorem e_blk : (Tryd.prog.info? (Tryd.prog.elem 73)).map (·.size) = some 1 := by kernel_rfl
theorem z_s : zeroOf Tryd.prog 76 = some (rowS ⟨0, 0, 0, 0, 0, 0, 0, 0⟩ (List.replicate 64 0) 0) := by kernel_rfl
theorem a_s : aggVar Tryd.prog 76 = some 73 := by kernel_rfl
theorem s_s : (Tryd.prog.info? 76).map (·.size) = some 73 := by kernel_rfl
theorem s_u64 : (Tryd.prog.info? 74).map (·.size) = some 1 := by kernel_rfl

set_option maxRecDepth 100000 in
set_option maxHeartbeats 1000000 in
theorem begin_any (w0 : World) : Calls Tryd.prog 59 #[] w0 fun e w' => e = .returned (.agg sm0.row.toArray) ∧ Below w0.heap.size w0 w' := by
  have hL := Sees.refl w0
  go_enter Tryd.func59, Tryd.ntmps59
  go_wp2_with (first | (refine wpl_alloc hL rfl _ rfl _ z_s ?_; clear hL; intro b w hL; simp only [Act.put, List.setIfInBounds_toArray, List.set_cons_succ, List.set_cons_zero]) | (refine wpl_run rfl (run_build_op (t := 76) rfl (cells := sm0.row.toArray) (by kernel_rfl)) ?_; simp only [Act.put, List.setIfInBounds_toArray, List.set_cons_succ, List.set_cons_zero]) | (refine wpl_strow hL rfl _ _ _ rfl _ rfl _ rfl _ s_s _ rfl _ _ _ (by first | exact .here | exact .there .here | exact .there (.there .here) | exact .there (.there (.there .here)) | exact .there (.there (.there (.there .here))) | exact .pre (.here) | exact .pre (.there .here) | exact .pre (.there (.there .here))) (rowS_one _ _ _) (by rfl) (by rfl) ?_; clear hL; intro w hL; simp only [Act.put, List.setIfInBounds_toArray, List.set_cons_succ, List.set_cons_zero]))
  refine bodyPost_cell rfl a_s rfl rfl hL (by first | exact .head _ | exact .tail _ (.head _) | exact .tail _ (.tail _ (.head _)) | exact .tail _ (.tail _ (.tail _ (.head _))) | exact .tail _ (.tail _ (.tail _ (.tail _ (.head _)))) | exact .tail _ (.tail _ (.tail _ (.tail _ (.tail _ (.head _))))) | exact List.mem_append_right _ (.head _) | exact List.mem_append_right _ (.tail _ (.head _)) | exact List.mem_append_right _ (.tail _ (.tail _ (.head _))) | exact List.mem_append_right _ (.tail _ (.tail _ (.tail _ (.head _)))) | exact .tail _ (List.mem_append_right _ (.head _)) | exact .tail _ (List.mem_append_right _ (.tail _ (.head _))) | exact .tail _ (List.mem_append_right _ (.tail _ (.tail _ (.head _)))) | exact .tail _ (List.mem_append_right _ (.tail _ (.tail _ (.tail _ (.head _))))) | exact .tail _ (.tail _ (List.mem_append_right _ (.head _))) | exact .tail _ (.tail _ (List.mem_append_right _ (.tail _ (.head _)))) | exact .tail _ (.tail _ (List.mem_append_right _ (.tail _ (.tail _ (.head _))))) | exact .tail _ (.tail _ (List.mem_append_right _ (.tail _ (.tail _ (.tail _ (.head _))))))) rfl ⟨rfl, hL.below⟩
def strSize : Value → Nat
  | .string s => s.size
  | _ => 0
set_option maxRecDepth 100000 in
set_option maxHeartbeats 4000000 in
theorem sadd_any (s : Sm) (t : ByteArray) (w0 : World) (hb : s.blk.length = 64) (hn : s.n + t.size ≤ 1000000000000) (hT : Tab w0) :
    Calls Tryd.prog 60 #[.agg s.row.toArray, .string t] w0 fun e w' => e = .returned (.agg (s.add t.data.toList).row.toArray) ∧ Below w0.heap.size w0 w' := by
  have hL := Sees.refl w0
  go_enter Tryd.func60, Tryd.ntmps60
  go_wp2_with (first | (refine wpl_box hL rfl _ _ rfl _ rfl _ rfl ?_; clear hL; intro b w hL; simp only [Act.put, List.setIfInBounds_toArray, List.set_cons_succ, List.set_cons_zero]) | (refine wpl_alloc hL rfl _ rfl _ z_s ?_; clear hL; intro b w hL; simp only [Act.put, List.setIfInBounds_toArray, List.set_cons_succ, List.set_cons_zero]))
  rename_i bs _ _ _
  obtain ⟨br, rfl⟩ : ∃ br, br = b := ⟨_, rfl⟩
  go_loopw [1] (fun v wr => ∃ (x : ByteArray) (r : Sm), v = .string x ∧ r.blk.length = 64 ∧ r.n + x.size ≤ 1000000000000 ∧ Hid (r.add x.data.toList = s.add t.data.toList) ∧ Sees w0 wr [⟨br, 76, rowS ⟨0, 0, 0, 0, 0, 0, 0, 0⟩ (List.replicate 64 0) 0⟩, ⟨bs, 76, rowS r.st r.blk r.n⟩]) (fun v _ => strSize v)
  case atStart => exact ⟨t, s, rfl, hb, hn, Lib.hid rfl, hL⟩
  case round =>
    clear hL
    obtain ⟨x, r, rfl, hrb, hrn, hr, hL⟩ := hrel
    by_cases h0 : x.toList.isEmpty = true
    · go_wp2_with (first | (refine wpl_run rfl (run_load_row hL rfl a_s rfl (by first | exact .head _ | exact .tail _ (.head _) | exact .tail _ (.tail _ (.head _)) | exact .tail _ (.tail _ (.tail _ (.head _))) | exact .tail _ (.tail _ (.tail _ (.tail _ (.head _)))) | exact .tail _ (.tail _ (.tail _ (.tail _ (.tail _ (.head _))))) | exact List.mem_append_right _ (.head _) | exact List.mem_append_right _ (.tail _ (.head _)) | exact List.mem_append_right _ (.tail _ (.tail _ (.head _))) | exact List.mem_append_right _ (.tail _ (.tail _ (.tail _ (.head _)))) | exact .tail _ (List.mem_append_right _ (.head _)) | exact .tail _ (List.mem_append_right _ (.tail _ (.head _))) | exact .tail _ (List.mem_append_right _ (.tail _ (.tail _ (.head _)))) | exact .tail _ (List.mem_append_right _ (.tail _ (.tail _ (.tail _ (.head _))))) | exact .tail _ (.tail _ (List.mem_append_right _ (.head _))) | exact .tail _ (.tail _ (List.mem_append_right _ (.tail _ (.head _)))) | exact .tail _ (.tail _ (List.mem_append_right _ (.tail _ (.tail _ (.head _))))) | exact .tail _ (.tail _ (List.mem_append_right _ (.tail _ (.tail _ (.tail _ (.head _))))))) (rowS_len _ _ _ hrb)) ?_; simp only [Act.put, List.setIfInBounds_toArray, List.set_cons_succ, List.set_cons_zero]) | (refine wpl_strow hL rfl _ _ _ rfl _ rfl _ rfl _ s_s _ rfl _ _ _ (by first | exact .here | exact .there .here | exact .there (.there .here) | exact .there (.there (.there .here)) | exact .there (.there (.there (.there .here))) | exact .pre (.here) | exact .pre (.there .here) | exact .pre (.there (.there .here))) (rowS_one _ _ _) (rowS_len _ _ _ hrb) (by rfl) ?_; clear hL; intro w hL; simp only [Act.put, List.setIfInBounds_toArray, List.set_cons_succ, List.set_cons_zero]))
      refine bodyPost_cell rfl a_s rfl rfl hL (by first | exact .head _ | exact .tail _ (.head _) | exact .tail _ (.tail _ (.head _)) | exact .tail _ (.tail _ (.tail _ (.head _))) | exact .tail _ (.tail _ (.tail _ (.tail _ (.head _)))) | exact .tail _ (.tail _ (.tail _ (.tail _ (.tail _ (.head _))))) | exact List.mem_append_right _ (.head _) | exact List.mem_append_right _ (.tail _ (.head _)) | exact List.mem_append_right _ (.tail _ (.tail _ (.head _))) | exact List.mem_append_right _ (.tail _ (.tail _ (.tail _ (.head _)))) | exact .tail _ (List.mem_append_right _ (.head _)) | exact .tail _ (List.mem_append_right _ (.tail _ (.head _))) | exact .tail _ (List.mem_append_right _ (.tail _ (.tail _ (.head _)))) | exact .tail _ (List.mem_append_right _ (.tail _ (.tail _ (.tail _ (.head _))))) | exact .tail _ (.tail _ (List.mem_append_right _ (.head _))) | exact .tail _ (.tail _ (List.mem_append_right _ (.tail _ (.head _)))) | exact .tail _ (.tail _ (List.mem_append_right _ (.tail _ (.tail _ (.head _))))) | exact .tail _ (.tail _ (List.mem_append_right _ (.tail _ (.tail _ (.tail _ (.head _))))))) (rowS_len _ _ _ hrb) ⟨?_, hL.below⟩
      have hx : x.data.toList = [] := by rw [← Lib.toList_data]; simpa using h0
      have e := hr.out
      rw [hx, Sm.add_nil] at e
      rw [← e]
    · have h1 : x.toList.isEmpty = false := by simpa using h0
      obtain ⟨A, hA64, HA⟩ : ∃ A : Nat, (A : Int) < 64 ∧ Hid (A = r.n % 64) := ⟨r.n % 64, by omega, Lib.hid rfl⟩
      have eA : (r.n : Int) % 64 = (A : Int) := by rw [HA.out]; omega
      have hA' : A < 64 := by omega
      obtain ⟨K, hK, hK1, hK2, hK3⟩ : ∃ K : Nat, K = Nat.min x.size (64 - A) ∧ 0 < K ∧ A + K ≤ 64 ∧ K ≤ x.size := by
        have hpos : 0 < x.size := by
          rcases Nat.eq_zero_or_pos x.size with h | h
          · exfalso; apply h0
            rw [Lib.toList_data]
            have : x.data.toList.length = 0 := by simpa using h
            rw [List.eq_nil_of_length_eq_zero this]; rfl
          · exact h
        refine ⟨_, rfl, ?_, ?_, Nat.min_le_left _ _⟩
        · exact Nat.lt_min.2 ⟨hpos, by omega⟩
        · have := Nat.min_le_right x.size (64 - A)
          simp only [Nat.min_def] at *
          split <;> omega
      have HK := Lib.hid hK
      clear hK
      obtain ⟨B, HB⟩ : ∃ B, Hid (B = r.blk.take A ++ x.data.toList.take K ++ r.blk.drop (A + K)) := ⟨_, Lib.hid rfl⟩
      have hxl : x.data.toList.length = x.size := by simp
      have hBl : B.length = 64 := by rw [HB.out]; simp only [List.length_append, List.length_take, List.length_drop, hrb, hxl]; omega
      have hcs : (bytesV ((r.blk.drop A).take K)).length = K := by rw [bytesV_length]; simp only [List.length_take, List.length_drop, hrb]; omega
      have hpre : (r.st.v8 ++ bytesV (r.blk.take A)).length = 8 + A := by simp only [List.length_append, bytesV_length, List.length_take, hrb]; show 8 + _ = _; omega
      have HCS := Lib.hid hcs
      have HPRE := Lib.hid hpre
      have HR : Hid (rowS r.st B r.n = (r.st.v8 ++ bytesV (r.blk.take A)) ++ bytesV (x.data.toList.take K) ++ (bytesV (r.blk.drop (A + K)) ++ [.int .u64 (r.n : Int)])) := Lib.hid (by rw [HB.out]; exact rowS_put _ _ _ _ _ _)
      clear hcs hpre hxl
      have k0 : 0 ≤ (K : Int) := by omega
      have k1 : (K : Int) ≤ (x.size : Int) := by omega
      have kw : IntKind.i64.wrap (K : Int) = (K : Int) := by rw [IntKind.wrap_i64]; omega
      have nk0 : 0 ≤ (r.n : Int) + (K : Int) := by omega
      have nk1 : (r.n : Int) + (K : Int) ≤ 1000000000000 := by omega
      have nkw : IntKind.u64.wrap ((r.n : Int) + (K : Int)) = (r.n : Int) + (K : Int) := by rw [IntKind.wrap_u64]; omega
      have kw2 : IntKind.u64.wrap (K : Int) = (K : Int) := by rw [IntKind.wrap_u64]; omega
      have xd : (x.extract K x.size).data.toList = x.data.toList.drop K := by
        rw [ByteArray.data_extract, Array.toList_extract, List.extract_eq_take_drop, List.take_of_length_le (by simp)]
      have xs : (x.extract K x.size).size = x.size - K := by simp
      have hch : r.add (x.data.toList.take K) = ⟨if A + K = 64 then compr r.st B else r.st, B, r.n + K⟩ := by
        have hlk : (x.data.toList.take K).length = K := by rw [List.length_take]; simp; omega
        have := Sm.add_chunk (x.data.toList.take K) r hrb (by rw [hlk, ← HA.out]; exact hK2) (by rw [hlk]; exact hK1)
        rw [hlk, ← HA.out] at this
        rw [this, HB.out]
      have hgo : (⟨if A + K = 64 then compr r.st B else r.st, B, r.n + K⟩ : Sm).add (x.extract K x.size).data.toList = s.add t.data.toList := by
        rw [← hch, xd, ← Sm.add_append, List.take_append_drop]; exact hr.out
      have HGO := Lib.hid hgo
      have XS := Lib.hid xs
      clear hch hgo xd xs
      by_cases hfull : A + K = 64
      · have f1 : (A : Int) + (K : Int) = 64 := by omega
        go_wp2_with (first | (refine wpl_run rfl (run_load_plain rfl p_u64 rfl (hL.at (by first | exact .head _ | exact .tail _ (.head _) | exact .tail _ (.tail _ (.head _)) | exact .tail _ (.tail _ (.tail _ (.head _))) | exact .tail _ (.tail _ (.tail _ (.tail _ (.head _)))) | exact .tail _ (.tail _ (.tail _ (.tail _ (.tail _ (.head _))))) | exact List.mem_append_right _ (.head _) | exact List.mem_append_right _ (.tail _ (.head _)) | exact List.mem_append_right _ (.tail _ (.tail _ (.head _))) | exact List.mem_append_right _ (.tail _ (.tail _ (.tail _ (.head _)))) | exact .tail _ (List.mem_append_right _ (.head _)) | exact .tail _ (List.mem_append_right _ (.tail _ (.head _))) | exact .tail _ (List.mem_append_right _ (.tail _ (.tail _ (.head _)))) | exact .tail _ (List.mem_append_right _ (.tail _ (.tail _ (.tail _ (.head _))))) | exact .tail _ (.tail _ (List.mem_append_right _ (.head _))) | exact .tail _ (.tail _ (List.mem_append_right _ (.tail _ (.head _)))) | exact .tail _ (.tail _ (List.mem_append_right _ (.tail _ (.tail _ (.head _))))) | exact .tail _ (.tail _ (List.mem_append_right _ (.tail _ (.tail _ (.tail _ (.head _))))))) (rowS_n _ _ _ hrb))) ?_; simp only [Act.put, List.setIfInBounds_toArray, List.set_cons_succ, List.set_cons_zero]) | (refine wpl_run rfl (run_load_plain rfl p_u64 rfl (hL.at (by first | exact .head _ | exact .tail _ (.head _) | exact .tail _ (.tail _ (.head _)) | exact .tail _ (.tail _ (.tail _ (.head _))) | exact .tail _ (.tail _ (.tail _ (.tail _ (.head _)))) | exact .tail _ (.tail _ (.tail _ (.tail _ (.tail _ (.head _))))) | exact List.mem_append_right _ (.head _) | exact List.mem_append_right _ (.tail _ (.head _)) | exact List.mem_append_right _ (.tail _ (.tail _ (.head _))) | exact List.mem_append_right _ (.tail _ (.tail _ (.tail _ (.head _)))) | exact .tail _ (List.mem_append_right _ (.head _)) | exact .tail _ (List.mem_append_right _ (.tail _ (.head _))) | exact .tail _ (List.mem_append_right _ (.tail _ (.tail _ (.head _)))) | exact .tail _ (List.mem_append_right _ (.tail _ (.tail _ (.tail _ (.head _))))) | exact .tail _ (.tail _ (List.mem_append_right _ (.head _))) | exact .tail _ (.tail _ (List.mem_append_right _ (.tail _ (.head _)))) | exact .tail _ (.tail _ (List.mem_append_right _ (.tail _ (.tail _ (.head _))))) | exact .tail _ (.tail _ (List.mem_append_right _ (.tail _ (.tail _ (.tail _ (.head _))))))) (rowS_n _ _ _ hBl))) ?_; simp only [Act.put, List.setIfInBounds_toArray, List.set_cons_succ, List.set_cons_zero]) | (refine wpl_set1 hL rfl _ _ _ rfl _ _ rfl _ rfl s_u64 rfl rfl _ _ _ _ (by first | exact .here | exact .there .here | exact .there (.there .here) | exact .there (.there (.there .here)) | exact .there (.there (.there (.there .here))) | exact .pre (.here) | exact .pre (.there .here) | exact .pre (.there (.there .here))) (by rw [rowS_len _ _ _ hBl]; decide) (rowS_setn _ _ _ (r.n + K) hBl) ?_; clear hL; intro w hL; simp only [Act.put, List.setIfInBounds_toArray, List.set_cons_succ, List.set_cons_zero]) | (refine wpl_run rfl (run_slice_low rfl u_blk l_blk e_blk rfl rfl hA') ?_; simp only [Act.put, List.setIfInBounds_toArray, List.set_cons_succ, List.set_cons_zero]) | (refine wpl_copy_eq hL rfl _ _ _ _ _ rfl _ _ _ _ x rfl rfl u_bytes s_u8 _ _ (rowS r.st B r.n) (r.st.v8 ++ bytesV (r.blk.take A)) (bytesV ((r.blk.drop A).take K)) (bytesV (r.blk.drop (A + K)) ++ [.int .u64 (r.n : Int)]) _ K (by first | exact .here | exact .there .here | exact .there (.there .here) | exact .there (.there (.there .here)) | exact .there (.there (.there (.there .here))) | exact .pre (.here) | exact .pre (.there .here) | exact .pre (.there (.there .here))) (rowS_split _ _ _ _ _) HR.out HK.out HPRE.out HCS.out ?_; clear hL; intro w hL; simp only [Act.put, List.setIfInBounds_toArray, List.set_cons_succ, List.set_cons_zero]))
        refine wp_region_lex [(.val, _), (.calm, _), (.val, _), (.val, _), (.eff, _), (.val, _), (.eff, _)] rfl mixed (by kernel_rfl) ?_
        replace hL := hL.drew
        have hblk : ∀ j y, (bytesV B)[j]? = some y → (rowS r.st B (r.n + K))[8 + j]? = some y := partL r.st.v8 (bytesV B) [.int .u64 ((r.n + K : Nat) : Int)]
        repeat (first | (refine wpLex_calm rfl _ (run_load_part hL rfl a_8 rfl (by first | exact .head _ | exact .tail _ (.head _) | exact .tail _ (.tail _ (.head _)) | exact .tail _ (.tail _ (.tail _ (.head _))) | exact .tail _ (.tail _ (.tail _ (.tail _ (.head _)))) | exact .tail _ (.tail _ (.tail _ (.tail _ (.tail _ (.head _))))) | exact List.mem_append_right _ (.head _) | exact List.mem_append_right _ (.tail _ (.head _)) | exact List.mem_append_right _ (.tail _ (.tail _ (.head _))) | exact List.mem_append_right _ (.tail _ (.tail _ (.tail _ (.head _)))) | exact .tail _ (List.mem_append_right _ (.head _)) | exact .tail _ (List.mem_append_right _ (.tail _ (.head _))) | exact .tail _ (List.mem_append_right _ (.tail _ (.tail _ (.head _)))) | exact .tail _ (List.mem_append_right _ (.tail _ (.tail _ (.tail _ (.head _))))) | exact .tail _ (.tail _ (List.mem_append_right _ (.head _))) | exact .tail _ (.tail _ (List.mem_append_right _ (.tail _ (.head _)))) | exact .tail _ (.tail _ (List.mem_append_right _ (.tail _ (.tail _ (.head _))))) | exact .tail _ (.tail _ (List.mem_append_right _ (.tail _ (.tail _ (.tail _ (.head _))))))) (vs := r.st.v8) rfl (partL [] r.st.v8 (bytesV B ++ [.int .u64 ((r.n + K : Nat) : Int)]))) ?_; simp only [Act.put, List.setIfInBounds_toArray, List.set_cons_succ, List.set_cons_zero]) | (refine x_call en_compress rfl rfl rfl rfl (compress_any r.st _ 64 B _ hBl (Nat.le_refl _) (hL.part (by first | exact .head _ | exact .tail _ (.head _) | exact .tail _ (.tail _ (.head _)) | exact .tail _ (.tail _ (.tail _ (.head _))) | exact .tail _ (.tail _ (.tail _ (.tail _ (.head _)))) | exact .tail _ (.tail _ (.tail _ (.tail _ (.tail _ (.head _))))) | exact List.mem_append_right _ (.head _) | exact List.mem_append_right _ (.tail _ (.head _)) | exact List.mem_append_right _ (.tail _ (.tail _ (.head _))) | exact List.mem_append_right _ (.tail _ (.tail _ (.tail _ (.head _)))) | exact .tail _ (List.mem_append_right _ (.head _)) | exact .tail _ (List.mem_append_right _ (.tail _ (.head _))) | exact .tail _ (List.mem_append_right _ (.tail _ (.tail _ (.head _)))) | exact .tail _ (List.mem_append_right _ (.tail _ (.tail _ (.tail _ (.head _))))) | exact .tail _ (.tail _ (List.mem_append_right _ (.head _))) | exact .tail _ (.tail _ (List.mem_append_right _ (.tail _ (.head _)))) | exact .tail _ (.tail _ (List.mem_append_right _ (.tail _ (.tail _ (.head _))))) | exact .tail _ (.tail _ (List.mem_append_right _ (.tail _ (.tail _ (.tail _ (.head _))))))) hblk) (hT.since hL)) ?_; rintro e w ⟨rfl, hb⟩; refine ⟨_, rfl, ?_⟩; replace hL := hL.call hb; clear hb; simp only [Act.put, List.setIfInBounds_toArray, List.set_cons_succ, List.set_cons_zero]) | (refine x_setn_eq hL rfl _ _ _ rfl _ _ rfl _ rfl 8 s_8 (compr r.st B).v8 rfl _ _ (rowS (compr r.st B) B (r.n + K)) [] r.st.v8 (bytesV B ++ [.int .u64 ((r.n + K : Nat) : Int)]) _ (by first | exact .here | exact .there .here | exact .there (.there .here) | exact .there (.there (.there .here)) | exact .there (.there (.there (.there .here))) | exact .pre (.here) | exact .pre (.there .here) | exact .pre (.there (.there .here))) (by unfold rowS; rw [List.nil_append, List.append_assoc]) (by unfold rowS; rw [List.nil_append, List.append_assoc]) (by rw [v8_eq]; exact rowF_one _ _ fun _ => rfl) rfl rfl rfl ?_; clear hL; intro w hL; simp only [Act.put, List.setIfInBounds_toArray, List.set_cons_succ, List.set_cons_zero]) | (refine wpLex_val rfl _ (fun w2 => by (go_simp; try rfl)) ?_; simp only [Act.put, List.setIfInBounds_toArray, List.set_cons_succ, List.set_cons_zero]))
        refine wpLex_nil ?_
        go_wp2
        refine ⟨⟨_, ⟨compr r.st B, B, r.n + K⟩, rfl, hBl, ?_, ?_, hL⟩, ?_⟩
        · rw [XS.out]; show r.n + K + (x.size - K) ≤ _; omega
        · have := HGO.out
          rw [if_pos hfull] at this
          exact Lib.hid this
        · show (x.extract K x.size).size < x.size
          rw [XS.out]; omega
      · have f2 : ¬ ((A : Int) + (K : Int) = 64) := by omega
        go_wp2_with (first | (refine wpl_run rfl (run_load_plain rfl p_u64 rfl (hL.at (by first | exact .head _ | exact .tail _ (.head _) | exact .tail _ (.tail _ (.head _)) | exact .tail _ (.tail _ (.tail _ (.head _))) | exact .tail _ (.tail _ (.tail _ (.tail _ (.head _)))) | exact .tail _ (.tail _ (.tail _ (.tail _ (.tail _ (.head _))))) | exact List.mem_append_right _ (.head _) | exact List.mem_append_right _ (.tail _ (.head _)) | exact List.mem_append_right _ (.tail _ (.tail _ (.head _))) | exact List.mem_append_right _ (.tail _ (.tail _ (.tail _ (.head _)))) | exact .tail _ (List.mem_append_right _ (.head _)) | exact .tail _ (List.mem_append_right _ (.tail _ (.head _))) | exact .tail _ (List.mem_append_right _ (.tail _ (.tail _ (.head _)))) | exact .tail _ (List.mem_append_right _ (.tail _ (.tail _ (.tail _ (.head _))))) | exact .tail _ (.tail _ (List.mem_append_right _ (.head _))) | exact .tail _ (.tail _ (List.mem_append_right _ (.tail _ (.head _)))) | exact .tail _ (.tail _ (List.mem_append_right _ (.tail _ (.tail _ (.head _))))) | exact .tail _ (.tail _ (List.mem_append_right _ (.tail _ (.tail _ (.tail _ (.head _))))))) (rowS_n _ _ _ hrb))) ?_; simp only [Act.put, List.setIfInBounds_toArray, List.set_cons_succ, List.set_cons_zero]) | (refine wpl_run rfl (run_load_plain rfl p_u64 rfl (hL.at (by first | exact .head _ | exact .tail _ (.head _) | exact .tail _ (.tail _ (.head _)) | exact .tail _ (.tail _ (.tail _ (.head _))) | exact .tail _ (.tail _ (.tail _ (.tail _ (.head _)))) | exact .tail _ (.tail _ (.tail _ (.tail _ (.tail _ (.head _))))) | exact List.mem_append_right _ (.head _) | exact List.mem_append_right _ (.tail _ (.head _)) | exact List.mem_append_right _ (.tail _ (.tail _ (.head _))) | exact List.mem_append_right _ (.tail _ (.tail _ (.tail _ (.head _)))) | exact .tail _ (List.mem_append_right _ (.head _)) | exact .tail _ (List.mem_append_right _ (.tail _ (.head _))) | exact .tail _ (List.mem_append_right _ (.tail _ (.tail _ (.head _)))) | exact .tail _ (List.mem_append_right _ (.tail _ (.tail _ (.tail _ (.head _))))) | exact .tail _ (.tail _ (List.mem_append_right _ (.head _))) | exact .tail _ (.tail _ (List.mem_append_right _ (.tail _ (.head _)))) | exact .tail _ (.tail _ (List.mem_append_right _ (.tail _ (.tail _ (.head _))))) | exact .tail _ (.tail _ (List.mem_append_right _ (.tail _ (.tail _ (.tail _ (.head _))))))) (rowS_n _ _ _ hBl))) ?_; simp only [Act.put, List.setIfInBounds_toArray, List.set_cons_succ, List.set_cons_zero]) | (refine wpl_set1 hL rfl _ _ _ rfl _ _ rfl _ rfl s_u64 rfl rfl _ _ _ _ (by first | exact .here | exact .there .here | exact .there (.there .here) | exact .there (.there (.there .here)) | exact .there (.there (.there (.there .here))) | exact .pre (.here) | exact .pre (.there .here) | exact .pre (.there (.there .here))) (by rw [rowS_len _ _ _ hBl]; decide) (rowS_setn _ _ _ (r.n + K) hBl) ?_; clear hL; intro w hL; simp only [Act.put, List.setIfInBounds_toArray, List.set_cons_succ, List.set_cons_zero]) | (refine wpl_run rfl (run_slice_low rfl u_blk l_blk e_blk rfl rfl hA') ?_; simp only [Act.put, List.setIfInBounds_toArray, List.set_cons_succ, List.set_cons_zero]) | (refine wpl_copy_eq hL rfl _ _ _ _ _ rfl _ _ _ _ x rfl rfl u_bytes s_u8 _ _ (rowS r.st B r.n) (r.st.v8 ++ bytesV (r.blk.take A)) (bytesV ((r.blk.drop A).take K)) (bytesV (r.blk.drop (A + K)) ++ [.int .u64 (r.n : Int)]) _ K (by first | exact .here | exact .there .here | exact .there (.there .here) | exact .there (.there (.there .here)) | exact .there (.there (.there (.there .here))) | exact .pre (.here) | exact .pre (.there .here) | exact .pre (.there (.there .here))) (rowS_split _ _ _ _ _) HR.out HK.out HPRE.out HCS.out ?_; clear hL; intro w hL; simp only [Act.put, List.setIfInBounds_toArray, List.set_cons_succ, List.set_cons_zero]))
        refine ⟨⟨_, ⟨r.st, B, r.n + K⟩, rfl, hBl, ?_, ?_, hL⟩, ?_⟩
        · rw [XS.out]; show r.n + K + (x.size - K) ≤ _; omega
        · have := HGO.out
          rw [if_neg hfull] at this
          exact Lib.hid this
        · show (x.extract K x.size).size < x.size
          rw [XS.out]; omega
theorem en_sbegin : enterable Tryd.prog 59 = true := by kernel_rfl
theorem en_sadd : enterable Tryd.prog 60 = true := by kernel_rfl
end Go.Proofs.YticponffemffnaaDoor
/- SHA-256: the hash of a stream. -/
namespace Go.Proofs.YticponffemffnaaDoor
open Go Go.RowKit Go.Lx
attribute [local irreducible] Calls

/-- the eight bytes of a number -/
def be8 (m : Nat) (q : Nat) : List UInt8 := (List.range q).map fun i => UInt8.ofNat (m / 2 ^ (56 - 8 * i))
theorem be8_snoc (m q : Nat) : be8 m (q + 1) = be8 m q ++ [UInt8.ofNat (m / 2 ^ (56 - 8 * q))] := by unfold be8; rw [List.range_succ, List.map_append]; rfl
/-- how many zeros -/
def padZ (n : Nat) : Nat := (119 - n % 64) % 64
theorem padZ_spec (n : Nat) : (n + (padZ n + 1)) % 64 = 56 ∧ padZ n < 64 := by unfold padZ; omega
def padL (n : Nat) : List UInt8 := 128 :: List.replicate (padZ n) 0 ++ be8 (8 * n) 8
def outB (st : St) (i : Nat) : Int := w32 (st.at (i / 4)) / 2 ^ (24 - 8 * (i % 4)) % 256
def outV (st : St) : List Value := rowF 32 fun i => .int .u8 (outB st i)
def shaOut (s : Sm) : List Value := outV (s.add (padL s.n)).st

theorem rowS_at (st : St) (blk : List UInt8) (n i : Nat) (h : i < 8) : (rowS st blk n)[i]? = some (W32 (st.at i)) := by
  unfold rowS
  rw [List.append_assoc, List.getElem?_append_left (by show i < 8; exact h), v8_eq]
  exact rowF_at 8 _ i h
theorem z_32 : zeroOf Tryd.prog 80 = some (rowF 32 fun _ => .int .u8 0) := by kernel_rfl
theorem a_32 : aggVar Tryd.prog 80 = some 32 := by kernel_rfl
theorem s_32 : (Tryd.prog.info? 80).map (·.size) = some 32 := by kernel_rfl

set_option maxRecDepth 100000 in
set_option maxHeartbeats 4000000 in
theorem ssum_any (s : Sm) (w0 : World) (hb : s.blk.length = 64) (hn : s.n ≤ 100000000000) (hT : Tab w0) :
    Calls Tryd.prog 62 #[.agg s.row.toArray] w0 fun e w' => e = .returned (.agg (shaOut s).toArray) ∧ Below w0.heap.size w0 w' := by
  have hL := Sees.refl w0
  have m0 : 0 ≤ 8 * (s.n : Int) := by omega
  have m1 : 8 * (s.n : Int) ≤ 1000000000000 := by omega
  have mw : IntKind.u64.wrap (8 * (s.n : Int)) = 8 * (s.n : Int) := by rw [IntKind.wrap_u64]; omega
  go_enter Tryd.func62, Tryd.ntmps62
  go_wp2_with (first | (refine wpl_box hL rfl _ _ rfl _ rfl _ rfl ?_; clear hL; intro b w hL; simp only [Act.put, List.setIfInBounds_toArray, List.set_cons_succ, List.set_cons_zero]) | (refine wpl_alloc hL rfl _ rfl _ z_32 ?_; clear hL; intro b w hL; simp only [Act.put, List.setIfInBounds_toArray, List.set_cons_succ, List.set_cons_zero]) | (refine wpl_run rfl (run_load_plain rfl p_u64 rfl (hL.at (by first | exact .head _ | exact .tail _ (.head _) | exact .tail _ (.tail _ (.head _)) | exact .tail _ (.tail _ (.tail _ (.head _))) | exact .tail _ (.tail _ (.tail _ (.tail _ (.head _)))) | exact .tail _ (.tail _ (.tail _ (.tail _ (.tail _ (.head _))))) | exact List.mem_append_right _ (.head _) | exact List.mem_append_right _ (.tail _ (.head _)) | exact List.mem_append_right _ (.tail _ (.tail _ (.head _))) | exact List.mem_append_right _ (.tail _ (.tail _ (.tail _ (.head _)))) | exact .tail _ (List.mem_append_right _ (.head _)) | exact .tail _ (List.mem_append_right _ (.tail _ (.head _))) | exact .tail _ (List.mem_append_right _ (.tail _ (.tail _ (.head _)))) | exact .tail _ (List.mem_append_right _ (.tail _ (.tail _ (.tail _ (.head _))))) | exact .tail _ (.tail _ (List.mem_append_right _ (.head _))) | exact .tail _ (.tail _ (List.mem_append_right _ (.tail _ (.head _)))) | exact .tail _ (.tail _ (List.mem_append_right _ (.tail _ (.tail _ (.head _))))) | exact .tail _ (.tail _ (List.mem_append_right _ (.tail _ (.tail _ (.tail _ (.head _))))))) (rowS_n _ _ _ hb))) ?_; simp only [Act.put, List.setIfInBounds_toArray, List.set_cons_succ, List.set_cons_zero]) | (refine wpl_slice hL rfl _ _ _ rfl _ 1 u_bytes s_u8 [.int .u8 0] z_u8 (by decide) _ (EvalAll.one rfl) rfl ?_; clear hL; intro b w hL; simp only [Act.put, List.setIfInBounds_toArray, List.set_cons_succ, List.set_cons_zero]))
  rename_i b1 _ br _ _ _
  go_loopw [4] (fun v wr => ∃ (M : Nat) (a : Option Addr) (cap : Nat) (Lv : List Blk), v = .slice a M cap ∧ 1 ≤ M ∧ M ≤ 64 ∧ IsSl v 5 1 M (bytesV (128 :: List.replicate (M - 1) 0)) Lv ∧ Hid (∀ m, 1 ≤ m → m < M → (s.n + m) % 64 ≠ 56) ∧
    Sees w0 wr (Lv ++ [⟨br, 80, rowF 32 fun _ => .int .u8 0⟩, ⟨b1, 76, rowS s.st s.blk s.n⟩])) (fun v _ => 200 - slLen v)
  case atStart => exact ⟨1, _, _, [_], rfl, Nat.le_refl _, by decide, .row b 1 [] rfl rfl rfl (Nat.le_refl _) (by decide) rfl, Lib.hid (fun m h1 h2 => by omega), hL⟩
  case round =>
    clear hL
    obtain ⟨M, a, cap, Lv, rfl, hM1, hM2, hV, hz, hL⟩ := hrel
    obtain ⟨R, hR⟩ : ∃ R : Nat, R = (s.n + M) % 64 := ⟨_, rfl⟩
    have n0 : 0 ≤ (s.n : Int) + (M : Int) := by omega
    have nw : IntKind.i64.wrap ((s.n : Int) + (M : Int)) = (s.n : Int) + (M : Int) := by rw [IntKind.wrap_i64]; omega
    have nw2 : IntKind.i64.wrap (s.n : Int) = (s.n : Int) := by rw [IntKind.wrap_i64]; omega
    have nt : ((s.n : Int) + (M : Int)).tmod 64 = (R : Int) := by rw [Int.tmod_eq_emod_of_nonneg n0, hR]; omega
    have ne : ((s.n : Int) + (M : Int)) % 64 = (R : Int) := by rw [hR]; omega
    have HR := Lib.hid hR
    clear hR
    by_cases h56 : R = 56
    · have f1 : ((R : Int) != 56) = false := by simp; omega
      go_wp2_with (first | (refine wpl_run rfl (run_load_plain rfl p_u64 rfl (hL.at (by first | exact .head _ | exact .tail _ (.head _) | exact .tail _ (.tail _ (.head _)) | exact .tail _ (.tail _ (.tail _ (.head _))) | exact .tail _ (.tail _ (.tail _ (.tail _ (.head _)))) | exact .tail _ (.tail _ (.tail _ (.tail _ (.tail _ (.head _))))) | exact List.mem_append_right _ (.head _) | exact List.mem_append_right _ (.tail _ (.head _)) | exact List.mem_append_right _ (.tail _ (.tail _ (.head _))) | exact List.mem_append_right _ (.tail _ (.tail _ (.tail _ (.head _)))) | exact .tail _ (List.mem_append_right _ (.head _)) | exact .tail _ (List.mem_append_right _ (.tail _ (.head _))) | exact .tail _ (List.mem_append_right _ (.tail _ (.tail _ (.head _)))) | exact .tail _ (List.mem_append_right _ (.tail _ (.tail _ (.tail _ (.head _))))) | exact .tail _ (.tail _ (List.mem_append_right _ (.head _))) | exact .tail _ (.tail _ (List.mem_append_right _ (.tail _ (.head _)))) | exact .tail _ (.tail _ (List.mem_append_right _ (.tail _ (.tail _ (.head _))))) | exact .tail _ (.tail _ (List.mem_append_right _ (.tail _ (.tail _ (.tail _ (.head _))))))) (rowS_n _ _ _ hb))) ?_; simp only [Act.put, List.setIfInBounds_toArray, List.set_cons_succ, List.set_cons_zero]))
      have hM : M = padZ s.n + 1 := by
        have := padZ_spec s.n
        have := HR.out
        omega
      have HM := Lib.hid hM
      clear hM
      go_loopw [23, 4] (fun i v wr => ∃ (q : Nat) (a : Option Addr) (cap : Nat) (Lv : List Blk), q ≤ 8 ∧ i = .int .i64 q ∧ v = .slice a (M + q) cap ∧ IsSl v 5 1 (M + q) (bytesV (128 :: List.replicate (M - 1) 0 ++ be8 (8 * s.n) q)) Lv ∧
        Sees w0 wr (Lv ++ [⟨br, 80, rowF 32 fun _ => .int .u8 0⟩, ⟨b1, 76, rowS s.st s.blk s.n⟩])) (fun i _ _ => 8 - (intOf i).toNat)
      case atStart => exact ⟨0, _, _, _, by decide, rfl, rfl, by simpa [be8] using hV, hL⟩
      case round =>
        clear hL hV
        obtain ⟨q, a, cap, Lv, hq8, rfl, rfl, hV, hL⟩ := hrel
        by_cases hq : q < 8
        · obtain ⟨S, hS0, hS1, HS⟩ : ∃ S : Int, 0 ≤ S ∧ S ≤ 56 ∧ Hid (S = 56 - 8 * (q : Int)) := ⟨56 - 8 * (q : Int), by omega, by omega, Lib.hid rfl⟩
          have eS : (56 : Int) - 8 * (q : Int) = S := HS.out.symm
          go_wp2_with (first | (refine wpl_slice hL rfl _ _ _ rfl _ 1 u_bytes s_u8 [.int .u8 0] z_u8 (by decide) _ (EvalAll.one rfl) rfl ?_; clear hL; intro b w hL; simp only [Act.put, List.setIfInBounds_toArray, List.set_cons_succ, List.set_cons_zero]) | (refine wpl_app1 hL rfl hV _ _ _ rfl rfl rfl u_bytes i_u8 rfl (Nat.le_trans (Nat.succ_le_succ (Nat.add_le_add hM2 hq8)) (by decide)) (by omega) ?_; clear hL hV; intro v w Lv hL hV; simp only [Act.put, List.setIfInBounds_toArray, List.set_cons_succ, List.set_cons_zero]))
          obtain ⟨a', cap', rfl⟩ := hV.shape
          refine ⟨⟨q + 1, a', cap', Lv, by omega, rfl, rfl, ?_, hL⟩, ?_⟩
          · rw [be8_snoc, ← List.append_assoc, bytesV_append]
            have e : ((UInt8.ofNat (8 * s.n / 2 ^ (56 - 8 * q))).toNat : Int) = 8 * (s.n : Int) / 2 ^ S.toNat % 256 := by
              rw [show S.toNat = 56 - 8 * q from by rw [HS.out]; omega]
              simp
            rw [show bytesV [UInt8.ofNat (8 * s.n / 2 ^ (56 - 8 * q))] = [.int .u8 (8 * (s.n : Int) / 2 ^ S.toNat % 256)] from by rw [← e]; rfl]
            exact hV
          · simp [intOf]; omega
        · obtain rfl : q = 8 := by omega
          have hpl : padL s.n = 128 :: List.replicate (M - 1) 0 ++ be8 (8 * s.n) 8 := by rw [HM.out]; rfl
          have hpl2 : (padL s.n).length = M + 8 := by rw [hpl]; simp [be8]; omega
          rw [← hpl] at hV
          have hsz : s.n + (⟨(padL s.n).toArray⟩ : ByteArray).size ≤ 1000000000000 := by show s.n + (padL s.n).toArray.size ≤ _; simp only [List.size_toArray, hpl2]; omega
          clear hpl hpl2
          go_wp2_with (first | (refine wpl_run rfl (run_load_row hL rfl a_s rfl (by first | exact .head _ | exact .tail _ (.head _) | exact .tail _ (.tail _ (.head _)) | exact .tail _ (.tail _ (.tail _ (.head _))) | exact .tail _ (.tail _ (.tail _ (.tail _ (.head _)))) | exact .tail _ (.tail _ (.tail _ (.tail _ (.tail _ (.head _))))) | exact List.mem_append_right _ (.head _) | exact List.mem_append_right _ (.tail _ (.head _)) | exact List.mem_append_right _ (.tail _ (.tail _ (.head _))) | exact List.mem_append_right _ (.tail _ (.tail _ (.tail _ (.head _)))) | exact .tail _ (List.mem_append_right _ (.head _)) | exact .tail _ (List.mem_append_right _ (.tail _ (.head _))) | exact .tail _ (List.mem_append_right _ (.tail _ (.tail _ (.head _)))) | exact .tail _ (List.mem_append_right _ (.tail _ (.tail _ (.tail _ (.head _))))) | exact .tail _ (.tail _ (List.mem_append_right _ (.head _))) | exact .tail _ (.tail _ (List.mem_append_right _ (.tail _ (.head _)))) | exact .tail _ (.tail _ (List.mem_append_right _ (.tail _ (.tail _ (.head _))))) | exact .tail _ (.tail _ (List.mem_append_right _ (.tail _ (.tail _ (.tail _ (.head _))))))) (rowS_len _ _ _ hb)) ?_; simp only [Act.put, List.setIfInBounds_toArray, List.set_cons_succ, List.set_cons_zero]) | (refine wpl_run rfl (exec_toString u_bytes u_u8 u_string (hV.rd hL (fun x hx => List.mem_append_left _ hx)) rfl rfl) ?_; simp only [Act.put, List.setIfInBounds_toArray, List.set_cons_succ, List.set_cons_zero]) | (go_at_call 60; refine (sadd_any s ⟨(padL s.n).toArray⟩ _ hb hsz (hT.since hL)).mono ?_; rintro e w ⟨rfl, hb⟩; replace hL := hL.call hb; clear hb) | (refine wpl_strow hL rfl _ _ _ rfl _ rfl _ rfl _ s_s _ rfl _ _ _ (by first | exact .here | exact .there .here | exact .there (.there .here) | exact .there (.there (.there .here)) | exact .there (.there (.there (.there .here))) | exact .pre (.here) | exact .pre (.there .here) | exact .pre (.there (.there .here))) (rowS_one _ _ _) (rowS_len _ _ _ (by rw [Sm.blk_len]; exact hb)) (rowS_len _ _ _ hb) ?_; clear hL; intro w hL; simp only [Act.put, List.setIfInBounds_toArray, List.set_cons_succ, List.set_cons_zero]) | (refine wpl_alloc hL rfl _ rfl _ z_32 ?_; clear hL; intro b w hL; simp only [Act.put, List.setIfInBounds_toArray, List.set_cons_succ, List.set_cons_zero]))
          obtain ⟨bo, rfl⟩ : ∃ bo, bo = b := ⟨_, rfl⟩
          have hL := hL.forget (((List.sublist_append_right Lv _).cons_cons _) : List.Sublist (_ :: [⟨br, 80, rowF 32 fun _ => .int .u8 0⟩, ⟨b1, 76, (s.add (padL s.n)).row⟩]) _)
          have hrb : (s.add (padL s.n)).blk.length = 64 := by rw [Sm.blk_len]; exact hb
          obtain ⟨r, hr⟩ : ∃ r, r = s.add (padL s.n) := ⟨_, rfl⟩
          have hso : shaOut s = outV r.st := by rw [hr]; rfl
          rw [← hr] at hL hrb
          have HSO := Lib.hid hso
          clear hr hso hV
          go_loopw [40] (fun i wr => ∃ (q : Nat) (f : Nat → Int), q ≤ 32 ∧ i = .int .i64 q ∧ Hid (∀ j, f j = if j < q then outB r.st j else 0) ∧
            Sees w0 wr [⟨bo, 80, rowF 32 fun j => .int .u8 (f j)⟩, ⟨br, 80, rowF 32 fun _ => .int .u8 0⟩, ⟨b1, 76, rowS r.st r.blk r.n⟩]) (fun i _ => 32 - (intOf i).toNat)
          case atStart => exact ⟨0, fun _ => 0, by decide, rfl, Lib.hid (fun j => by simp), hL⟩
          case round =>
            clear hL
            obtain ⟨q, f, hq32, rfl, hf, hL⟩ := hrel
            by_cases hq' : q < 32
            · obtain ⟨D, hD0, hD1, HD⟩ : ∃ D : Nat, 0 ≤ (D : Int) ∧ (D : Int) < 8 ∧ Hid (D = q / 4) := ⟨q / 4, by omega, by omega, Lib.hid rfl⟩
              obtain ⟨E, hE0, hE1, HE⟩ : ∃ E : Nat, 0 ≤ (E : Int) ∧ (E : Int) < 4 ∧ Hid (E = q % 4) := ⟨q % 4, by omega, by omega, Lib.hid rfl⟩
              have d1 : (q : Int).tdiv 4 = (D : Int) := by rw [Int.tdiv_eq_ediv_of_nonneg (by omega), HD.out]; omega
              have d2 : (q : Int) / 4 = (D : Int) := by rw [HD.out]; omega
              have e1 : (q : Int).tmod 4 = (E : Int) := by rw [Int.tmod_eq_emod_of_nonneg (by omega), HE.out]; omega
              have e2 : (q : Int) % 4 = (E : Int) := by rw [HE.out]; omega
              obtain ⟨S, hS0, hS1, HS⟩ : ∃ S : Int, 0 ≤ S ∧ S ≤ 24 ∧ Hid (S = 24 - 8 * (E : Int)) := ⟨24 - 8 * (E : Int), by omega, by omega, Lib.hid rfl⟩
              have eS : (24 : Int) - 8 * (E : Int) = S := HS.out.symm
              have hD8 : D < 8 := by omega
              have hval : Hid (Value.int IntKind.u8 (outB r.st q) = Value.int IntKind.u8 (w32 (r.st.at D) / 2 ^ S.toNat % 256)) := Lib.hid (by
                unfold outB
                rw [← HD.out, ← HE.out, show S.toNat = 24 - 8 * E from by rw [HS.out]; omega])
              go_wp2_with (first | (refine wpl_run rfl (run_load_plain rfl p_u32 rfl (hL.at (by first | exact .head _ | exact .tail _ (.head _) | exact .tail _ (.tail _ (.head _)) | exact .tail _ (.tail _ (.tail _ (.head _))) | exact .tail _ (.tail _ (.tail _ (.tail _ (.head _)))) | exact .tail _ (.tail _ (.tail _ (.tail _ (.tail _ (.head _))))) | exact List.mem_append_right _ (.head _) | exact List.mem_append_right _ (.tail _ (.head _)) | exact List.mem_append_right _ (.tail _ (.tail _ (.head _))) | exact List.mem_append_right _ (.tail _ (.tail _ (.tail _ (.head _)))) | exact .tail _ (List.mem_append_right _ (.head _)) | exact .tail _ (List.mem_append_right _ (.tail _ (.head _))) | exact .tail _ (List.mem_append_right _ (.tail _ (.tail _ (.head _)))) | exact .tail _ (List.mem_append_right _ (.tail _ (.tail _ (.tail _ (.head _))))) | exact .tail _ (.tail _ (List.mem_append_right _ (.head _))) | exact .tail _ (.tail _ (List.mem_append_right _ (.tail _ (.head _)))) | exact .tail _ (.tail _ (List.mem_append_right _ (.tail _ (.tail _ (.head _))))) | exact .tail _ (.tail _ (List.mem_append_right _ (.tail _ (.tail _ (.tail _ (.head _))))))) (rowS_at _ _ _ _ hD8))) ?_; simp only [Act.put, List.setIfInBounds_toArray, List.set_cons_succ, List.set_cons_zero]) | (refine wpl_set1 hL rfl _ _ _ rfl _ _ rfl _ rfl s_u8 rfl rfl _ _ _ _ (by first | exact .here | exact .there .here | exact .there (.there .here) | exact .there (.there (.there .here)) | exact .there (.there (.there (.there .here))) | exact .pre (.here) | exact .pre (.there .here) | exact .pre (.there (.there .here))) (by rw [rowF_len]; exact hq') (rowF_set 32 _ (fun j => .int .u8 (if j = q then outB r.st q else f j)) q _ hq' (by simp only [if_true]; exact hval.out) (fun j _ hne => by simp only [if_neg hne])) ?_; clear hL; intro w hL; simp only [Act.put, List.setIfInBounds_toArray, List.set_cons_succ, List.set_cons_zero]))
              refine ⟨⟨q + 1, fun j => if j = q then outB r.st q else f j, by omega, rfl, Lib.hid (fun j => ?_), hL⟩, ?_⟩
              · by_cases h : j = q
                · simp only [if_pos h]; rw [if_pos (by omega), h]
                · simp only [if_neg h]; rw [hf.out j]
                  by_cases h2 : j < q
                  · rw [if_pos h2, if_pos (by omega)]
                  · rw [if_neg h2, if_neg (by omega)]
              · simp [intOf]; omega
            · obtain rfl : q = 32 := by omega
              go_wp2_with (first | (refine wpl_run rfl (run_load_row hL rfl a_32 rfl (by first | exact .head _ | exact .tail _ (.head _) | exact .tail _ (.tail _ (.head _)) | exact .tail _ (.tail _ (.tail _ (.head _))) | exact .tail _ (.tail _ (.tail _ (.tail _ (.head _)))) | exact .tail _ (.tail _ (.tail _ (.tail _ (.tail _ (.head _))))) | exact List.mem_append_right _ (.head _) | exact List.mem_append_right _ (.tail _ (.head _)) | exact List.mem_append_right _ (.tail _ (.tail _ (.head _))) | exact List.mem_append_right _ (.tail _ (.tail _ (.tail _ (.head _)))) | exact .tail _ (List.mem_append_right _ (.head _)) | exact .tail _ (List.mem_append_right _ (.tail _ (.head _))) | exact .tail _ (List.mem_append_right _ (.tail _ (.tail _ (.head _)))) | exact .tail _ (List.mem_append_right _ (.tail _ (.tail _ (.tail _ (.head _))))) | exact .tail _ (.tail _ (List.mem_append_right _ (.head _))) | exact .tail _ (.tail _ (List.mem_append_right _ (.tail _ (.head _)))) | exact .tail _ (.tail _ (List.mem_append_right _ (.tail _ (.tail _ (.head _))))) | exact .tail _ (.tail _ (List.mem_append_right _ (.tail _ (.tail _ (.tail _ (.head _))))))) (by rfl)) ?_; simp only [Act.put, List.setIfInBounds_toArray, List.set_cons_succ, List.set_cons_zero]) | (refine wpl_strow hL rfl _ _ _ rfl _ rfl _ rfl _ s_32 _ rfl _ _ _ (by first | exact .here | exact .there .here | exact .there (.there .here) | exact .there (.there (.there .here)) | exact .there (.there (.there (.there .here))) | exact .pre (.here) | exact .pre (.there .here) | exact .pre (.there (.there .here))) (rowF_one _ _ fun _ => rfl) (by rfl) (by rfl) ?_; clear hL; intro w hL; simp only [Act.put, List.setIfInBounds_toArray, List.set_cons_succ, List.set_cons_zero]))
              refine bodyPost_cell rfl a_32 rfl rfl hL (by first | exact .head _ | exact .tail _ (.head _) | exact .tail _ (.tail _ (.head _)) | exact .tail _ (.tail _ (.tail _ (.head _))) | exact .tail _ (.tail _ (.tail _ (.tail _ (.head _)))) | exact .tail _ (.tail _ (.tail _ (.tail _ (.tail _ (.head _))))) | exact List.mem_append_right _ (.head _) | exact List.mem_append_right _ (.tail _ (.head _)) | exact List.mem_append_right _ (.tail _ (.tail _ (.head _))) | exact List.mem_append_right _ (.tail _ (.tail _ (.tail _ (.head _)))) | exact .tail _ (List.mem_append_right _ (.head _)) | exact .tail _ (List.mem_append_right _ (.tail _ (.head _))) | exact .tail _ (List.mem_append_right _ (.tail _ (.tail _ (.head _)))) | exact .tail _ (List.mem_append_right _ (.tail _ (.tail _ (.tail _ (.head _))))) | exact .tail _ (.tail _ (List.mem_append_right _ (.head _))) | exact .tail _ (.tail _ (List.mem_append_right _ (.tail _ (.head _)))) | exact .tail _ (.tail _ (List.mem_append_right _ (.tail _ (.tail _ (.head _))))) | exact .tail _ (.tail _ (List.mem_append_right _ (.tail _ (.tail _ (.tail _ (.head _))))))) (rowF_len _ _) ⟨?_, hL.below⟩
              rw [HSO.out]
              unfold outV
              rw [rowF_congr 32 (fun j => .int .u8 (f j)) (fun j => .int .u8 (outB r.st j)) (fun j hj => by simp only [hf.out j, if_pos hj])]
    · have f2 : ((R : Int) != 56) = true := by simp; omega
      go_wp2_with (first | (refine wpl_run rfl (run_load_plain rfl p_u64 rfl (hL.at (by first | exact .head _ | exact .tail _ (.head _) | exact .tail _ (.tail _ (.head _)) | exact .tail _ (.tail _ (.tail _ (.head _))) | exact .tail _ (.tail _ (.tail _ (.tail _ (.head _)))) | exact .tail _ (.tail _ (.tail _ (.tail _ (.tail _ (.head _))))) | exact List.mem_append_right _ (.head _) | exact List.mem_append_right _ (.tail _ (.head _)) | exact List.mem_append_right _ (.tail _ (.tail _ (.head _))) | exact List.mem_append_right _ (.tail _ (.tail _ (.tail _ (.head _)))) | exact .tail _ (List.mem_append_right _ (.head _)) | exact .tail _ (List.mem_append_right _ (.tail _ (.head _))) | exact .tail _ (List.mem_append_right _ (.tail _ (.tail _ (.head _)))) | exact .tail _ (List.mem_append_right _ (.tail _ (.tail _ (.tail _ (.head _))))) | exact .tail _ (.tail _ (List.mem_append_right _ (.head _))) | exact .tail _ (.tail _ (List.mem_append_right _ (.tail _ (.head _)))) | exact .tail _ (.tail _ (List.mem_append_right _ (.tail _ (.tail _ (.head _))))) | exact .tail _ (.tail _ (List.mem_append_right _ (.tail _ (.tail _ (.tail _ (.head _))))))) (rowS_n _ _ _ hb))) ?_; simp only [Act.put, List.setIfInBounds_toArray, List.set_cons_succ, List.set_cons_zero]) | (refine wpl_slice hL rfl _ _ _ rfl _ 1 u_bytes s_u8 [.int .u8 0] z_u8 (by decide) _ (EvalAll.one rfl) rfl ?_; clear hL; intro b w hL; simp only [Act.put, List.setIfInBounds_toArray, List.set_cons_succ, List.set_cons_zero]) | (refine wpl_app1 hL rfl hV _ _ _ rfl rfl rfl u_bytes i_u8 rfl (Nat.le_trans (Nat.succ_le_succ hM2) (by decide)) (by omega) ?_; clear hL hV; intro v w Lv hL hV; simp only [Act.put, List.setIfInBounds_toArray, List.set_cons_succ, List.set_cons_zero]))
      obtain ⟨a', cap', rfl⟩ := hV.shape
      refine ⟨⟨M + 1, a', cap', Lv, rfl, by omega, ?_, ?_, Lib.hid (fun m h1 h2 => ?_), hL⟩, ?_⟩
      · have h1 := padZ_spec s.n
        have h2 := HR.out
        have h3 := hz.out (padZ s.n + 1) (by omega)
        omega
      · rw [show M + 1 - 1 = (M - 1) + 1 from by omega, List.replicate_succ', show (128 : UInt8) :: (List.replicate (M - 1) 0 ++ [0]) = (128 :: List.replicate (M - 1) 0) ++ [0] from rfl, bytesV_append]
        exact hV
      · by_cases e : m = M
        · rw [e, ← HR.out]; exact h56
        · exact hz.out m h1 (by omega)
      · show 200 - (M + 1) < 200 - M; omega
theorem en_ssum : enterable Tryd.prog 62 = true := by kernel_rfl
end Go.Proofs.YticponffemffnaaDoor
/- SHA-256: Sum of bytes; the encodings of numbers and strings; Of. -/
namespace Go.Proofs.YticponffemffnaaDoor
open Go Go.RowKit Go.Lx
attribute [local irreducible] Calls

/-- the hash of bytes -/
def shaV (l : List UInt8) : List Value := shaOut (sm0.add l)
theorem sm0_blk (l : List UInt8) : (sm0.add l).blk.length = 64 := by rw [Sm.blk_len]; rfl
theorem sm0_n (l : List UInt8) : (sm0.add l).n = l.length := by rw [Sm.n_add]; simp [sm0]


/-- the bytes of a number of the stream's encoding -/
def varB (z : Nat) : List UInt8 := if h : z < 128 then [UInt8.ofNat z] else UInt8.ofNat (z % 128 + 128) :: varB (z / 128)
termination_by z
decreasing_by omega
def zig (n : Int) : Nat := if 0 ≤ n then (2 * n).toNat else (-2 * n - 1).toNat
def intB (n : Int) : List UInt8 := varB (zig n)

theorem varB_lt (z : Nat) (h : z < 128) : varB z = [UInt8.ofNat z] := by rw [varB, dif_pos h]
theorem varB_ge (z : Nat) (h : ¬ z < 128) : varB z = UInt8.ofNat (z % 128 + 128) :: varB (z / 128) := by rw [varB, dif_neg h]
theorem varB_len (z : Nat) : (varB z).length ≤ z + 1 := by
  induction z using Nat.strongRecOn with
  | ind z ih =>
    by_cases h : z < 128
    · rw [varB_lt z h]; simp
    · rw [varB_ge z h]
      have := ih (z / 128) (by omega)
      simp only [List.length_cons]; omega
theorem zig_nat (m : Nat) : zig (m : Int) = 2 * m := by unfold zig; rw [if_pos (by omega)]; omega
theorem or128 (z : Nat) : bits BinOp.or IntKind.u8 ((z : Int) % 256) 128 = ((UInt8.ofNat (z % 128 + 128)).toNat : Int) := by
  have h : ∀ k : Fin 256, bits BinOp.or IntKind.u8 (k.val : Int) 128 = ((k.val % 128 + 128 : Nat) : Int) := by decide +kernel
  have := h ⟨z % 256, by omega⟩
  rw [show (z : Int) % 256 = ((z % 256 : Nat) : Int) from by omega, this]
  have e : z % 256 % 128 = z % 128 := by omega
  rw [e]
  simp only [UInt8.toNat_ofNat']
  omega
theorem zig_xor (m : Nat) (h : m ≤ 1000000000000) : bits BinOp.xor IntKind.u64 ((m : Int) * 2) ((m : Int) / 9223372036854775808) = ((2 * m : Nat) : Int) := by
  rw [show (m : Int) / 9223372036854775808 = ((0 : Nat) : Int) from by omega, show (m : Int) * 2 = ((2 * m : Nat) : Int) from by omega, bits_nat_u64 .xor (2 * m) 0 (by omega) (by decide)]
  simp
  omega

set_option maxHeartbeats 1000000 in
theorem int_any (n : Int) (w0 : World) (h0 : 0 ≤ n) (h1 : n ≤ 1000000000000) :
    Calls Tryd.prog 64 #[.int .i64 n] w0 fun e w' => ∃ v Lv, e = .returned v ∧ Sees w0 w' Lv ∧ IsSl v 5 1 (intB n).length (bytesV (intB n)) Lv := by
  have hL := Sees.refl w0
  obtain ⟨m, rfl⟩ := Int.eq_ofNat_of_zero_le h0
  go_enter Tryd.func64, Tryd.ntmps64
  go_wp2
  rw [zig_xor m (by omega)]
  go_loopw [3, 4] (fun u v wr => ∃ (z n : Nat) (acc : List UInt8) (a : Option Addr) (cap : Nat) (Lv : List Blk), u = .int .u64 z ∧ v = .slice a n cap ∧ (z : Int) ≤ 2000000000000 ∧ IsSl v 5 1 n (bytesV acc) Lv ∧ n ≤ 2000000000001 ∧ Hid (acc ++ varB z = intB m) ∧ Sees w0 wr (Lv ++ [])) (fun u _ _ => (intOf u).toNat)
  case atStart => exact ⟨2 * m, 0, [], _, _, [], rfl, rfl, by omega, .nil rfl rfl rfl rfl, by decide, Lib.hid (by rw [intB, zig_nat]; rfl), hL⟩
  case round =>
    clear hL
    obtain ⟨z, n, acc, a, cap, Lv, rfl, rfl, hz, hV, hn, hacc, hL⟩ := hrel
    have hal : acc.length = n := by have := hV.len; simpa [bytesV] using this
    have hn2 : n ≤ 2000000000000 := by
      have h1 := congrArg List.length hacc.out
      have h2 := varB_len (zig m)
      rw [zig_nat] at h2
      have h3 : 1 ≤ (varB z).length := by rw [varB]; split <;> simp
      rw [List.length_append, intB, zig_nat] at h1
      omega
    have o1 := or128 z
    by_cases h127 : z < 128
    · have f1 : ¬ ((127 : Int) < (z : Int)) := by omega
      have f3 : (z : Int) % 256 = (z : Int) := by omega
      go_wp2_with (first | (refine wpl_slice hL rfl _ _ _ rfl _ 1 u_bytes s_u8 [.int .u8 0] z_u8 (by decide) _ (EvalAll.one rfl) rfl ?_; clear hL; intro b w hL; simp only [Act.put, List.setIfInBounds_toArray, List.set_cons_succ, List.set_cons_zero]) | (refine wpl_app1 hL rfl hV _ _ _ rfl rfl rfl u_bytes i_u8 rfl (Nat.le_trans (Nat.succ_le_succ hn2) (by decide)) (by omega) ?_; clear hL hV; intro v w Lv hL hV; simp only [Act.put, List.setIfInBounds_toArray, List.set_cons_succ, List.set_cons_zero]))
      go_ret
      have e1 : acc ++ [UInt8.ofNat z] = intB (m : Int) := by rw [← hacc.out, varB_lt z h127]
      have e2 : bytesV [UInt8.ofNat z] = [.int .u8 (z : Int)] := by
        show [Value.int IntKind.u8 ((UInt8.ofNat z).toNat : Int)] = _
        rw [show ((UInt8.ofNat z).toNat : Int) = (z : Int) from by simp only [UInt8.toNat_ofNat']; omega]
      refine ⟨v, rfl, Lv, by simpa using hL, ?_⟩
      rw [← e1, bytesV_append, e2, List.length_append, hal]
      exact hV
    · have f2 : (127 : Int) < (z : Int) := by omega
      go_wp2_with (first | (refine wpl_slice hL rfl _ _ _ rfl _ 1 u_bytes s_u8 [.int .u8 0] z_u8 (by decide) _ (EvalAll.one rfl) rfl ?_; clear hL; intro b w hL; simp only [Act.put, List.setIfInBounds_toArray, List.set_cons_succ, List.set_cons_zero]) | (refine wpl_app1 hL rfl hV _ _ _ rfl rfl rfl u_bytes i_u8 rfl (Nat.le_trans (Nat.succ_le_succ hn2) (by decide)) (by omega) ?_; clear hL hV; intro v w Lv hL hV; simp only [Act.put, List.setIfInBounds_toArray, List.set_cons_succ, List.set_cons_zero]))
      obtain ⟨a', cap', rfl⟩ := hV.shape
      refine ⟨⟨z / 128, n + 1, acc ++ [UInt8.ofNat (z % 128 + 128)], a', cap', Lv, rfl, rfl, by omega, ?_, by omega, Lib.hid ?_, hL⟩, ?_⟩
      · rw [bytesV_append]; exact hV
      · rw [← hacc.out, varB_ge z h127]; simp
      · simp [intOf]; omega
theorem en_int : enterable Tryd.prog 64 = true := by kernel_rfl
/-- the bytes of a string of the stream's encoding -/
def encB (l : List UInt8) : List UInt8 := intB (l.length : Int) ++ l
theorem intB_len (m : Nat) : (intB (m : Int)).length ≤ 2 * m + 1 := by rw [intB, zig_nat]; exact varB_len _

set_option maxHeartbeats 1000000 in
theorem bytes_any (t : ByteArray) (w0 : World) (h1 : t.size ≤ 100000000000) :
    Calls Tryd.prog 61 #[.string t] w0 fun e w' => ∃ v Lv, e = .returned v ∧ Sees w0 w' Lv ∧ IsSl v 5 1 (encB t.data.toList).length (bytesV (encB t.data.toList)) Lv := by
  have hL := Sees.refl w0
  have hil := intB_len t.size
  have i1 : (t.size : Int) ≤ 1000000000000 := by omega
  have b1 : (intB (t.size : Int)).length + t.size ≤ maxLen := by unfold maxLen; omega
  have b2 : ((intB (t.size : Int)).length + t.size) * 1 ≤ 140737488355328 := by omega
  go_enter Tryd.func61, Tryd.ntmps61
  go_wp2_with (first | (go_at_call 64; refine (int_any _ _ (by omega) i1).mono ?_; rintro e w ⟨v, Lv, rfl, hM, hV⟩; replace hL := hL.join hM; clear hM) | (refine wpl_append_str hL rfl hV _ _ _ _ rfl rfl [.int .u8 0] 1 u_bytes u_string i_u8 rfl t rfl b1 b2 ?_; clear hL hV; intro v w Lv hL hV; simp only [Act.put, List.setIfInBounds_toArray, List.set_cons_succ, List.set_cons_zero]))
  go_ret
  refine ⟨v, Lv, rfl, by simpa using hL, ?_⟩
  have e : t.data.toList.length = t.size := by simp
  unfold encB
  rw [bytesV_append, List.length_append, e]
  exact hV
theorem en_bytes : enterable Tryd.prog 61 = true := by kernel_rfl
end Go.Proofs.YticponffemffnaaDoor
/- Of. -/
namespace Go.Proofs.YticponffemffnaaDoor
open Go Go.RowKit Go.Lx
attribute [local irreducible] Calls

def strV (l : List ByteArray) : List Value := l.map .string
theorem strV_at (l : List ByteArray) (j : Nat) (h : j < l.length) : (strV l)[j]? = some (.string (l[j])) := by simp [strV, h]
def tagB (tag : Int) : UInt8 := UInt8.ofNat (tag % 256).toNat
theorem tagB_eq (tag : Int) : tag % 256 = ((tagB tag).toNat : Int) := by unfold tagB; simp only [UInt8.toNat_ofNat']; omega
/-- what Of hashes -/
def inB (tag : Int) (l : List ByteArray) : List UInt8 := tagB tag :: l.flatMap fun t => encB t.data.toList
def digV (l : List UInt8) : List Value := rowF 16 fun i => .int .u8 (outB ((sm0.add l).add (padL l.length)).st i)
theorem rd_one {w0 w : World} {L : List Blk} (hL : Sees w0 w L) {b e : Nat} {c : UInt8} (hm : (⟨b, e, [.int .u8 (c.toNat : Int)]⟩ : Blk) ∈ L) : Rd w (.slice (some ⟨b, 0, none⟩) 1 1) 1 1 (bytesV [c]) :=
  ⟨⟨_, _, rfl, fun _ => ⟨_, rfl, fun j x hx => hL.row hm j x hx⟩⟩, rfl⟩
theorem enc_len (t : ByteArray) : (encB t.data.toList).length ≤ 3 * t.size + 1 := by
  unfold encB
  rw [List.length_append]
  have e : t.data.toList.length = t.size := by simp
  have := intB_len t.size
  rw [e]; omega
theorem flat_len : ∀ (l : List ByteArray), (∀ t ∈ l, t.size ≤ 1000000) → (l.flatMap fun t => encB t.data.toList).length ≤ l.length * 3000001
  | [], _ => by simp
  | t :: l, h => by
    have h1 := flat_len l (fun x hx => h x (.tail _ hx))
    have h2 := h t (.head _)
    have h3 := enc_len t
    rw [List.flatMap_cons, List.length_append, List.length_cons, Nat.add_mul]
    omega
theorem p_str : plainVar Tryd.prog 9 = true := by kernel_rfl
theorem u_dig : Tryd.prog.underlying 55 = some (.array 16 5) := by kernel_rfl
theorem z_16 : zeroOf Tryd.prog 55 = some (rowF 16 fun _ => .int .u8 0) := by kernel_rfl
theorem a_16 : aggVar Tryd.prog 55 = some 16 := by kernel_rfl
theorem s_16 : (Tryd.prog.info? 55).map (·.size) = some 16 := by kernel_rfl

set_option maxRecDepth 100000 in
set_option maxHeartbeats 4000000 in
theorem of_any (tag : Int) (v : Value) (l : List ByteArray) (w0 : World) (hR : Rd w0 v l.length 1 (strV l)) (hl : l.length ≤ 1000) (hs : ∀ t ∈ l, t.size ≤ 1000000) (hT : Tab w0) :
    Calls Tryd.prog 42 #[.int .i64 tag, v] w0 fun e w' => e = .returned (.agg (digV (inB tag l)).toArray) ∧ Below w0.heap.size w0 w' := by
  obtain ⟨⟨a, cap, rfl, hcells⟩, -⟩ := hR
  have hL := Sees.refl w0
  obtain ⟨c, hc⟩ : ∃ c, c = tagB tag := ⟨_, rfl⟩
  have hc1 : tag % 256 = (c.toNat : Int) := by rw [hc]; exact tagB_eq tag
  have hc2 : IntKind.u8.wrap tag = (c.toNat : Int) := by rw [wrap_u8, hc1]
  have HC := Lib.hid hc
  clear hc
  have hsz1 : sm0.n + (⟨([c] : List UInt8).toArray⟩ : ByteArray).size ≤ 1000000000000 := by show 0 + 1 ≤ _; decide
  go_enter Tryd.func42, Tryd.ntmps42
  go_wp2_with (first | (refine wpl_alloc hL rfl _ rfl _ z_16 ?_; clear hL; intro b w hL; simp only [Act.put, List.setIfInBounds_toArray, List.set_cons_succ, List.set_cons_zero]))
  obtain ⟨br, rfl⟩ : ∃ br, br = b := ⟨_, rfl⟩
  refine wp_to (fun a a' w' => ∃ x9 x10 x11 x12 x13 x14 b5, a' = (((((((a.put (some 9) x9).put (some 10) x10).put (some 11) x11).put (some 12) x12).put (some 13) x13).put (some 14) x14).put (some 5) (.pointer (some ⟨b5, 0, none⟩))) ∧
    Sees w0 w' [⟨b5, 76, (sm0.add [c]).row⟩, ⟨br, 55, rowF 16 fun _ => .int .u8 0⟩]) ?_ ?_
  · refine wp_region_tree [.eff, .val, .val, .eff, .calm, .eff, .eff, .eff] [1, 2] (.alt 0 (.alt 3 (.alt 4 (.alt 5 (.alt 6 (.alt 7 .done .none) .none) (.alt 6 (.alt 5 (.alt 7 .done .none) .none) .none)) (.alt 6 (.alt 4 (.alt 5 (.alt 7 .done .none) .none) .none) .none)) (.alt 6 (.alt 3 (.alt 4 (.alt 5 (.alt 7 .done .none) .none) .none) .none) .none)) (.alt 3 (.alt 0 (.alt 4 (.alt 5 (.alt 6 (.alt 7 .done .none) .none) (.alt 6 (.alt 5 (.alt 7 .done .none) .none) .none)) (.alt 6 (.alt 4 (.alt 5 (.alt 7 .done .none) .none) .none) .none)) (.alt 4 (.alt 0 (.alt 5 (.alt 6 (.alt 7 .done .none) .none) (.alt 6 (.alt 5 (.alt 7 .done .none) .none) .none)) (.alt 6 (.alt 0 (.alt 5 (.alt 7 .done .none) .none) .none) .none)) (.alt 6 (.alt 0 (.alt 4 (.alt 5 (.alt 7 .done .none) .none) .none) (.alt 4 (.alt 0 (.alt 5 (.alt 7 .done .none) .none) .none) .none)) .none))) (.alt 6 (.alt 0 (.alt 3 (.alt 4 (.alt 5 (.alt 7 .done .none) .none) .none) .none) (.alt 3 (.alt 0 (.alt 4 (.alt 5 (.alt 7 .done .none) .none) .none) (.alt 4 (.alt 0 (.alt 5 (.alt 7 .done .none) .none) .none) .none)) .none)) .none))) (l0 := [(.val, _), (.val, _)]) mixed (by kernel_rfl) (by (simp only [pick, List.filterMap_cons, List.filterMap_nil, List.getElem?_toArray, List.getElem?_cons_zero, List.getElem?_cons_succ, Option.map_some]; rfl)) ?_
    replace hL := hL.drew
    repeat (refine wpLex_val rfl _ (fun w2 => by (go_simp; try rfl)) ?_; simp only [Act.put, List.setIfInBounds_toArray, List.set_cons_succ, List.set_cons_zero])
    refine wpLex_nil ?_
    repeat' (first | (first | exact wpT_none | refine wpLex_nil ?_ | (refine wpT_alt (l := [(_, _)]) (by (simp only [pick, List.filterMap_cons, List.filterMap_nil, List.getElem?_toArray, List.getElem?_cons_zero, List.getElem?_cons_succ, Option.map_some]; rfl)) ?_ ?_)) | (refine x_call en_sbegin rfl rfl rfl rfl (begin_any _) ?_; rintro e w ⟨rfl, hb⟩; refine ⟨_, rfl, ?_⟩; replace hL := hL.call hb; clear hb; simp only [Act.put, List.setIfInBounds_toArray, List.set_cons_succ, List.set_cons_zero]) | (refine x_slice hL rfl _ _ _ rfl _ 1 u_bytes s_u8 [.int .u8 0] z_u8 (by decide) _ (EvalAll.one rfl) rfl ?_; clear hL; intro b w hL; simp only [Act.put, List.setIfInBounds_toArray, List.set_cons_succ, List.set_cons_zero]) | (refine wpLex_calm rfl _ (exec_toString u_bytes u_u8 u_string (rd_one (c := c) hL (by first | exact .head _ | exact .tail _ (.head _) | exact .tail _ (.tail _ (.head _)) | exact .tail _ (.tail _ (.tail _ (.head _))) | exact .tail _ (.tail _ (.tail _ (.tail _ (.head _)))) | exact .tail _ (.tail _ (.tail _ (.tail _ (.tail _ (.head _))))) | exact List.mem_append_right _ (.head _) | exact List.mem_append_right _ (.tail _ (.head _)) | exact List.mem_append_right _ (.tail _ (.tail _ (.head _))) | exact List.mem_append_right _ (.tail _ (.tail _ (.tail _ (.head _)))) | exact .tail _ (List.mem_append_right _ (.head _)) | exact .tail _ (List.mem_append_right _ (.tail _ (.head _))) | exact .tail _ (List.mem_append_right _ (.tail _ (.tail _ (.head _)))) | exact .tail _ (List.mem_append_right _ (.tail _ (.tail _ (.tail _ (.head _))))) | exact .tail _ (.tail _ (List.mem_append_right _ (.head _))) | exact .tail _ (.tail _ (List.mem_append_right _ (.tail _ (.head _)))) | exact .tail _ (.tail _ (List.mem_append_right _ (.tail _ (.tail _ (.head _))))) | exact .tail _ (.tail _ (List.mem_append_right _ (.tail _ (.tail _ (.tail _ (.head _)))))))) rfl rfl) ?_; simp only [Act.put, List.setIfInBounds_toArray, List.set_cons_succ, List.set_cons_zero]) | (refine x_call en_sadd rfl rfl rfl rfl (sadd_any sm0 ⟨([c] : List UInt8).toArray⟩ _ rfl hsz1 (hT.since hL)) ?_; rintro e w ⟨rfl, hb⟩; refine ⟨_, rfl, ?_⟩; replace hL := hL.call hb; clear hb; simp only [Act.put, List.setIfInBounds_toArray, List.set_cons_succ, List.set_cons_zero]) | (refine x_alloc hL rfl _ rfl _ z_s ?_; clear hL; intro b w hL; simp only [Act.put, List.setIfInBounds_toArray, List.set_cons_succ, List.set_cons_zero]) | (refine x_strow hL rfl _ _ _ rfl _ rfl _ rfl _ s_s _ rfl _ _ _ (by first | exact .here | exact .there .here | exact .there (.there .here) | exact .there (.there (.there .here)) | exact .there (.there (.there (.there .here))) | exact .pre (.here) | exact .pre (.there .here) | exact .pre (.there (.there .here))) (rowS_one _ _ _) (by rfl) (by rfl) ?_; clear hL; intro w hL; simp only [Act.put, List.setIfInBounds_toArray, List.set_cons_succ, List.set_cons_zero]))
    all_goals
      refine wpT_done ⟨by trivial, _, _, _, _, _, _, _, rfl, ?_⟩
      first | exact hL.forget (.cons_cons _ (.cons _ (.cons_cons _ .slnil))) | exact hL.forget (.cons _ (.cons_cons _ (.cons_cons _ .slnil)))
  intro a' w' hh
  obtain ⟨x9, x10, x11, x12, x13, x14, b5, rfl, hL⟩ := hh
  simp only [Act.put, List.setIfInBounds_toArray, List.set_cons_succ, List.set_cons_zero]
  go_wp2
  go_loopw [17] (fun i wr => ∃ k : Nat, k ≤ l.length ∧ i = .int .i64 k ∧ Sees w0 wr [⟨b5, 76, (sm0.add (c :: (l.take k).flatMap fun t => encB t.data.toList)).row⟩, ⟨br, 55, rowF 16 fun _ => .int .u8 0⟩]) (fun i _ => l.length - (intOf i).toNat)
  case atStart => exact ⟨0, Nat.zero_le _, rfl, hL⟩
  case round =>
    clear hL
    obtain ⟨k, hk, rfl, hL⟩ := hrel
    obtain ⟨r, hr⟩ : ∃ r, r = sm0.add (c :: (l.take k).flatMap fun t => encB t.data.toList) := ⟨_, rfl⟩
    have hrb : r.blk.length = 64 := by rw [hr]; exact sm0_blk _
    have hrn : r.n ≤ 1 + k * 3000001 := by
      rw [hr, sm0_n, List.length_cons]
      have := flat_len (l.take k) (fun t ht => hs t (List.mem_of_mem_take ht))
      rw [List.length_take] at this
      have h2 : min k l.length = k := by omega
      rw [h2] at this
      omega
    rw [← hr] at hL
    have HR := Lib.hid hr
    clear hr
    by_cases hlt : k < l.length
    · obtain ⟨ad, rfl, hcc⟩ := hcells (by intro h; have := congrArg List.length h; simp [strV] at this; subst this; simp at hlt)
      have hc1 := hcc k _ (strV_at l k hlt)
      generalize hx : l[k] = x at hc1
      have hxs : x.size ≤ 1000000 := by rw [← hx]; exact hs _ (List.getElem_mem _)
      have hen := enc_len x
      have hen2 : r.n + (⟨(encB x.data.toList).toArray⟩ : ByteArray).size ≤ 1000000000000 := by show r.n + (encB x.data.toList).toArray.size ≤ _; rw [List.size_toArray]; omega
      have HX := Lib.hid hx
      clear hx hen
      go_wp2_with (first | (refine wpl_run rfl (run_load_plain rfl p_str rfl (hL.old hc1)) ?_; simp only [Act.put, List.setIfInBounds_toArray, List.set_cons_succ, List.set_cons_zero]))
      refine wp_region_lex [(.old, _), (.val, _), (.ext, _), (.calm, _), (.eff, _), (.eff, _)] rfl mixed (by kernel_rfl) ?_
      have hI := hL.drew
      have hS : Since wr.drew wr.drew := Below.refl _ _
      replace hL := hL.drew
      repeat (first | (refine wpLex_old rfl hS _ (fun w2 hS2 => run_load_row (hI.call hS2) rfl a_s rfl (by first | exact .head _ | exact .tail _ (.head _) | exact .tail _ (.tail _ (.head _)) | exact .tail _ (.tail _ (.tail _ (.head _))) | exact .tail _ (.tail _ (.tail _ (.tail _ (.head _)))) | exact .tail _ (.tail _ (.tail _ (.tail _ (.tail _ (.head _))))) | exact List.mem_append_right _ (.head _) | exact List.mem_append_right _ (.tail _ (.head _)) | exact List.mem_append_right _ (.tail _ (.tail _ (.head _))) | exact List.mem_append_right _ (.tail _ (.tail _ (.tail _ (.head _)))) | exact .tail _ (List.mem_append_right _ (.head _)) | exact .tail _ (List.mem_append_right _ (.tail _ (.head _))) | exact .tail _ (List.mem_append_right _ (.tail _ (.tail _ (.head _)))) | exact .tail _ (List.mem_append_right _ (.tail _ (.tail _ (.tail _ (.head _))))) | exact .tail _ (.tail _ (List.mem_append_right _ (.head _))) | exact .tail _ (.tail _ (List.mem_append_right _ (.tail _ (.head _)))) | exact .tail _ (.tail _ (List.mem_append_right _ (.tail _ (.tail _ (.head _))))) | exact .tail _ (.tail _ (List.mem_append_right _ (.tail _ (.tail _ (.tail _ (.head _))))))) (rowS_len _ _ _ hrb)) ?_; simp only [Act.put, List.setIfInBounds_toArray, List.set_cons_succ, List.set_cons_zero]) | (refine xx_call en_bytes rfl hS rfl rfl rfl (bytes_any _ _ (by omega)) ?_; rintro e w ⟨v, Lv, rfl, hM, hV⟩; replace hS := hS.trans (hM.below.mono hS.size); refine ⟨_, rfl, hS, ?_⟩; replace hL := hL.join hM; clear hM; simp only [Act.put, List.setIfInBounds_toArray, List.set_cons_succ, List.set_cons_zero]) | (refine wpLex_calm rfl _ (exec_toString u_bytes u_u8 u_string (hV.rd hL (fun x hx => List.mem_append_left _ hx)) rfl rfl) ?_; simp only [Act.put, List.setIfInBounds_toArray, List.set_cons_succ, List.set_cons_zero]) | (refine x_call en_sadd rfl rfl rfl rfl (sadd_any r ⟨(encB x.data.toList).toArray⟩ _ hrb hen2 (hT.since hL)) ?_; rintro e w ⟨rfl, hb⟩; refine ⟨_, rfl, ?_⟩; replace hL := hL.call hb; clear hb; simp only [Act.put, List.setIfInBounds_toArray, List.set_cons_succ, List.set_cons_zero]) | (refine x_strow hL rfl _ _ _ rfl _ rfl _ rfl _ s_s _ rfl _ _ _ (by first | exact .here | exact .there .here | exact .there (.there .here) | exact .there (.there (.there .here)) | exact .there (.there (.there (.there .here))) | exact .pre (.here) | exact .pre (.there .here) | exact .pre (.there (.there .here))) (rowS_one _ _ _) (rowS_len _ _ _ (by rw [Sm.blk_len]; exact hrb)) (rowS_len _ _ _ hrb) ?_; clear hL; intro w hL; simp only [Act.put, List.setIfInBounds_toArray, List.set_cons_succ, List.set_cons_zero]) | (refine wpLex_val rfl _ (fun w2 => by (go_simp; try rfl)) ?_; simp only [Act.put, List.setIfInBounds_toArray, List.set_cons_succ, List.set_cons_zero]))
      refine wpLex_nil ?_
      go_wp2
      refine ⟨⟨k + 1, by omega, rfl, ?_⟩, ?_⟩
      · have h2 : sm0.add (c :: (l.take (k + 1)).flatMap fun t => encB t.data.toList) = r.add (encB x.data.toList) := by
          rw [List.take_succ_eq_append_getElem hlt, List.flatMap_append, ← List.cons_append, Sm.add_append, ← HR.out, HX.out]
          simp
        rw [h2]
        exact hL.forget (List.sublist_append_right _ _)
      · simp [intOf]; omega
    · obtain rfl : k = l.length := by omega
      have hdig : ∀ j v, (rowF 16 fun i => Value.int .u8 (outB (r.add (padL r.n)).st i))[j]? = some v → (shaOut r)[0 + j]? = some v := fun j v hv => by
        by_cases hj : j < 16
        · rw [rowF_at 16 _ j hj] at hv
          rw [Nat.zero_add, show shaOut r = rowF 32 fun i => Value.int .u8 (outB (r.add (padL r.n)).st i) from rfl, rowF_at 32 _ j (by omega)]; exact hv
        · rw [List.getElem?_eq_none (by rw [rowF_len]; omega)] at hv; cases hv
      go_wp2_with (first | (refine wpl_run rfl (run_load_row hL rfl a_s rfl (by first | exact .head _ | exact .tail _ (.head _) | exact .tail _ (.tail _ (.head _)) | exact .tail _ (.tail _ (.tail _ (.head _))) | exact .tail _ (.tail _ (.tail _ (.tail _ (.head _)))) | exact .tail _ (.tail _ (.tail _ (.tail _ (.tail _ (.head _))))) | exact List.mem_append_right _ (.head _) | exact List.mem_append_right _ (.tail _ (.head _)) | exact List.mem_append_right _ (.tail _ (.tail _ (.head _))) | exact List.mem_append_right _ (.tail _ (.tail _ (.tail _ (.head _)))) | exact .tail _ (List.mem_append_right _ (.head _)) | exact .tail _ (List.mem_append_right _ (.tail _ (.head _))) | exact .tail _ (List.mem_append_right _ (.tail _ (.tail _ (.head _)))) | exact .tail _ (List.mem_append_right _ (.tail _ (.tail _ (.tail _ (.head _))))) | exact .tail _ (.tail _ (List.mem_append_right _ (.head _))) | exact .tail _ (.tail _ (List.mem_append_right _ (.tail _ (.head _)))) | exact .tail _ (.tail _ (List.mem_append_right _ (.tail _ (.tail _ (.head _))))) | exact .tail _ (.tail _ (List.mem_append_right _ (.tail _ (.tail _ (.tail _ (.head _))))))) (rowS_len _ _ _ hrb)) ?_; simp only [Act.put, List.setIfInBounds_toArray, List.set_cons_succ, List.set_cons_zero]) | (go_at_call 62; refine (ssum_any r _ hrb (by omega) (hT.since hL)).mono ?_; rintro e w ⟨rfl, hb⟩; replace hL := hL.call hb; clear hb) | (refine wpl_alloc hL rfl _ rfl _ z_32 ?_; clear hL; intro b w hL; simp only [Act.put, List.setIfInBounds_toArray, List.set_cons_succ, List.set_cons_zero]) | (refine wpl_strow hL rfl _ _ _ rfl _ rfl _ rfl _ s_32 _ rfl _ _ _ (by first | exact .here | exact .there .here | exact .there (.there .here) | exact .there (.there (.there .here)) | exact .there (.there (.there (.there .here))) | exact .pre (.here) | exact .pre (.there .here) | exact .pre (.there (.there .here))) (rowF_one _ _ fun _ => rfl) (by exact rowF_len _ _) (by exact rowF_len _ _) ?_; clear hL; intro w hL; simp only [Act.put, List.setIfInBounds_toArray, List.set_cons_succ, List.set_cons_zero]) | (refine wpl_run rfl (run_arrayPtr rfl u_dig rfl (by decide)) ?_; simp only [Act.put, List.setIfInBounds_toArray, List.set_cons_succ, List.set_cons_zero]) | (refine wpl_run rfl (run_load_part hL rfl a_16 rfl (by first | exact .head _ | exact .tail _ (.head _) | exact .tail _ (.tail _ (.head _)) | exact .tail _ (.tail _ (.tail _ (.head _))) | exact .tail _ (.tail _ (.tail _ (.tail _ (.head _)))) | exact .tail _ (.tail _ (.tail _ (.tail _ (.tail _ (.head _))))) | exact List.mem_append_right _ (.head _) | exact List.mem_append_right _ (.tail _ (.head _)) | exact List.mem_append_right _ (.tail _ (.tail _ (.head _))) | exact List.mem_append_right _ (.tail _ (.tail _ (.tail _ (.head _)))) | exact .tail _ (List.mem_append_right _ (.head _)) | exact .tail _ (List.mem_append_right _ (.tail _ (.head _))) | exact .tail _ (List.mem_append_right _ (.tail _ (.tail _ (.head _)))) | exact .tail _ (List.mem_append_right _ (.tail _ (.tail _ (.tail _ (.head _))))) | exact .tail _ (.tail _ (List.mem_append_right _ (.head _))) | exact .tail _ (.tail _ (List.mem_append_right _ (.tail _ (.head _)))) | exact .tail _ (.tail _ (List.mem_append_right _ (.tail _ (.tail _ (.head _))))) | exact .tail _ (.tail _ (List.mem_append_right _ (.tail _ (.tail _ (.tail _ (.head _))))))) (rowF_len 16 _) hdig) ?_; simp only [Act.put, List.setIfInBounds_toArray, List.set_cons_succ, List.set_cons_zero]) | (refine wpl_strow hL rfl _ _ _ rfl _ rfl _ rfl _ s_16 _ rfl _ _ _ (by first | exact .here | exact .there .here | exact .there (.there .here) | exact .there (.there (.there .here)) | exact .there (.there (.there (.there .here))) | exact .pre (.here) | exact .pre (.there .here) | exact .pre (.there (.there .here))) (rowF_one _ _ fun _ => rfl) (by exact rowF_len _ _) (by exact rowF_len _ _) ?_; clear hL; intro w hL; simp only [Act.put, List.setIfInBounds_toArray, List.set_cons_succ, List.set_cons_zero]))
      refine bodyPost_cell rfl a_16 rfl rfl hL (by first | exact .head _ | exact .tail _ (.head _) | exact .tail _ (.tail _ (.head _)) | exact .tail _ (.tail _ (.tail _ (.head _))) | exact .tail _ (.tail _ (.tail _ (.tail _ (.head _)))) | exact .tail _ (.tail _ (.tail _ (.tail _ (.tail _ (.head _))))) | exact List.mem_append_right _ (.head _) | exact List.mem_append_right _ (.tail _ (.head _)) | exact List.mem_append_right _ (.tail _ (.tail _ (.head _))) | exact List.mem_append_right _ (.tail _ (.tail _ (.tail _ (.head _)))) | exact .tail _ (List.mem_append_right _ (.head _)) | exact .tail _ (List.mem_append_right _ (.tail _ (.head _))) | exact .tail _ (List.mem_append_right _ (.tail _ (.tail _ (.head _)))) | exact .tail _ (List.mem_append_right _ (.tail _ (.tail _ (.tail _ (.head _))))) | exact .tail _ (.tail _ (List.mem_append_right _ (.head _))) | exact .tail _ (.tail _ (List.mem_append_right _ (.tail _ (.head _)))) | exact .tail _ (.tail _ (List.mem_append_right _ (.tail _ (.tail _ (.head _))))) | exact .tail _ (.tail _ (List.mem_append_right _ (.tail _ (.tail _ (.tail _ (.head _))))))) (by exact rowF_len _ _) ⟨?_, hL.below⟩
      have e : r = sm0.add (inB tag l) := by
        rw [HR.out, List.take_length, HC.out]; rfl
      have e2 : r.n = (inB tag l).length := by rw [e, sm0_n]
      unfold digV
      rw [← e2, ← e]
theorem en_of : enterable Tryd.prog 42 = true := by kernel_rfl
end Go.Proofs.YticponffemffnaaDoor
