/- The program's hash is the specification's; the specification's digest. -/
import Derived.Test.YtkkmkfkgmioblaaDoorRefSum
set_option linter.unusedVariables false
set_option linter.unusedSimpArgs false
namespace Go.Lx
open Go Go.RowKit Go.Proofs.YtkkmkfkgmioblaaDoorW.PrintWords
theorem IsSl.row_of {v : Value} {e : TypeId} {size n : Nat} {xs : List Value} {Lv : List Blk} (h : IsSl v e size n xs Lv) (hn : 0 < n) : ∃ b cap rest, v = .slice (some ⟨b, 0, none⟩) n cap ∧ Lv = [⟨b, e, xs ++ rest⟩] := by
  cases h with
  | nil _ h0 _ _ => omega
  | row b cap rest hv hx hc hn hm hl => exact ⟨b, cap, rest, hv, hl⟩
theorem app_left {α : Type} {l r : List α} {j : Nat} {v : α} (h : l[j]? = some v) : (l ++ r)[j]? = some v := by
  rw [List.getElem?_append_left]
  · exact h
  · rcases Nat.lt_or_ge j l.length with h1 | h1
    · exact h1
    · rw [List.getElem?_eq_none h1] at h; cases h
theorem bytesV_of (l : List UInt8) : bytesV l = (ofBytes l).map (Value.int .u8) := by unfold ofBytes bytesV; rw [List.map_map]; rfl
/-- a slice of bytes of the call's own is read by the print's words -/
theorem sl_C {w0 w : World} {L Lv : List Blk} {v : Value} {e n : Nat} {l : List UInt8} (h : IsSl v e 1 n (bytesV l) Lv) (hL : Sees w0 w L) (hs : ∀ x ∈ Lv, x ∈ L) :
    ∃ A c, v = .slice A l.length c ∧ l.length ≤ c ∧ (Kd.int .u8).C w A (ofBytes l).length (ofBytes l) := by
  rw [bytesV_of] at h
  obtain ⟨A, c, h1, h2, h3⟩ := Kd.R_reads (R_of_sl (h1 := fun _ => rfl) h hL hs)
  rw [ofBytes_length] at h1 h2
  exact ⟨A, c, h1, h2, h3⟩
end Go.Lx
namespace Go.Proofs.YtkkmkfkgmioblaaDoor
open Go Go.RowKit Go.Lx Go.Proofs.YtkkmkfkgmioblaaDoorW.PrintWords
attribute [local irreducible] Calls

theorem Sm.add_part (s : Sm) (bs : List UInt8) (hs : s.n % 64 = 0) (hb : s.blk.length = 64) (hl : bs.length = 64) : ∀ k, k ≤ 63 → s.add (bs.take k) = ⟨s.st, bs.take k ++ s.blk.drop k, s.n + k⟩
  | 0, _ => by simp [Sm.add]
  | k + 1, hk => by
    have ih := Sm.add_part s bs hs hb hl k (by omega)
    rw [List.take_succ_eq_append_getElem (by omega), Sm.add_append, ih]
    show Sm.add1 _ _ = _
    unfold Sm.add1
    have h1 : (s.n + k) % 64 = k := by omega
    simp only [h1]
    rw [if_neg (by omega)]
    have h2 : (bs.take k ++ s.blk.drop k).set k (bs[k]'(by omega)) = bs.take k ++ [bs[k]'(by omega)] ++ s.blk.drop (k + 1) := by
      have h3 : (bs.take k).length = k := by rw [List.length_take]; omega
      rw [List.set_append_right k _ (by omega), h3, Nat.sub_self, List.drop_eq_getElem_cons (by omega), List.set_cons_zero, List.append_assoc]
      rfl
    rw [h2]
    rfl
theorem Sm.add_block (s : Sm) (bs : List UInt8) (hs : s.n % 64 = 0) (hb : s.blk.length = 64) (hl : bs.length = 64) : s.add bs = ⟨compr s.st bs, bs, s.n + 64⟩ := by
  have e : bs = bs.take 63 ++ [bs[63]'(by omega)] := by
    rw [← List.take_succ_eq_append_getElem (by omega), List.take_of_length_le (by omega)]
  conv => lhs; rw [e, Sm.add_append, Sm.add_part s bs hs hb hl 63 (by omega)]
  show Sm.add1 _ _ = _
  unfold Sm.add1
  have h1 : (s.n + 63) % 64 = 63 := by omega
  simp only [h1]
  rw [if_pos trivial]
  have h2 : (bs.take 63 ++ s.blk.drop 63).set 63 (bs[63]'(by omega)) = bs := by
    have h3 : (bs.take 63).length = 63 := by rw [List.length_take]; omega
    rw [List.set_append_right 63 _ (by omega), h3, Nat.sub_self, List.drop_eq_getElem_cons (by omega), List.set_cons_zero, List.drop_of_length_le (by omega)]
    exact e.symm
  rw [h2]
theorem chunks_add (m : List UInt8) : ∀ q, 64 * q ≤ m.length → (sm0.add (m.take (64 * q))).st = chunks s0 m q ∧ (sm0.add (m.take (64 * q))).n = 64 * q
  | 0, _ => by simp [Sm.add]; exact ⟨rfl, rfl⟩
  | q + 1, h => by
    obtain ⟨h1, h2⟩ := chunks_add m q (by omega)
    have e : m.take (64 * (q + 1)) = m.take (64 * q) ++ (m.drop (64 * q)).take 64 := by
      rw [show 64 * (q + 1) = 64 * q + 64 from by omega, List.take_add]
    have hb := Sm.add_block (sm0.add (m.take (64 * q))) ((m.drop (64 * q)).take 64) (by rw [h2]; omega) (sm0_blk _) (by rw [List.length_take, List.length_drop]; omega)
    rw [e, Sm.add_append, hb]
    refine ⟨by rw [h1]; rfl, ?_⟩
    show (sm0.add (m.take (64 * q))).n + 64 = _
    rw [h2]; omega
/-- the specification's hash is the program's -/
theorem ref_sha (l : List UInt8) : outV (chunks s0 (l ++ padL l.length) ((l ++ padL l.length).length / 64)) = shaV l := by
  have hz := padZ_spec l.length
  have hpl : (padL l.length).length = padZ l.length + 9 := by unfold padL be8; simp
  have hlen : (l ++ padL l.length).length = 64 * ((l ++ padL l.length).length / 64) := by rw [List.length_append, hpl]; omega
  have h := (chunks_add (l ++ padL l.length) _ (Nat.le_of_eq hlen.symm)).1
  rw [← hlen, List.take_length] at h
  unfold shaV shaOut
  rw [sm0_n, ← Sm.add_append, h]
theorem refsha_any (v : Value) (A : Option Addr) (c : Nat) (l : List UInt8) (w0 : World) (hv : v = .slice A l.length c) (hR : (Kd.int .u8).C w0 A (ofBytes l).length (ofBytes l)) (hc : l.length ≤ c) (hn : l.length ≤ 1000000) (hT : TabR w0) :
    Calls Tryd.prog 30 #[v] w0 fun e w' => e = .returned (.agg (shaV l).toArray) ∧ Below w0.heap.size w0 w' := by
  have h := refsum_any v A c l w0 hv hR hc hn hT
  rw [ref_sha] at h
  exact h

theorem en_short : enterable Tryd.prog 49 = true := by kernel_rfl
set_option maxHeartbeats 2000000 in
theorem refshort_any (v : Value) (A : Option Addr) (c : Nat) (l : List UInt8) (w0 : World) (hv : v = .slice A l.length c) (hR : (Kd.int .u8).C w0 A (ofBytes l).length (ofBytes l)) (hc : l.length ≤ c) (hn : l.length ≤ 1000000) (hT : TabR w0) :
    Calls Tryd.prog 49 #[v] w0 fun e w' => e = .returned (.agg (digV l).toArray) ∧ Below w0.heap.size w0 w' := by
  subst hv
  have hL := Sees.refl w0
  obtain ⟨st, hst⟩ : ∃ st, st = ((sm0.add l).add (padL l.length)).st := ⟨_, rfl⟩
  have hsha : shaV l = outV st := by unfold shaV shaOut; rw [sm0_n, hst]
  have hdig : Hid (digV l = rowF 16 fun i => .int .u8 (outB st i)) := Lib.hid (by unfold digV; rw [hst])
  clear hst
  have hcall := fun w (hL : Sees w0 w []) => refsha_any _ A c l w rfl (Kd.C_below hR hL.below) hc hn (hT.since hL)
  rw [hsha] at hcall
  clear hsha
  go_enter Tryd.func49, Tryd.ntmps49
  go_wp2_with (first | (refine wpl_alloc hL rfl _ rfl _ z_16 ?_; clear hL; intro b w hL; simp only [Act.put, List.setIfInBounds_toArray, List.set_cons_succ, List.set_cons_zero]) | (go_at_call 30; refine (hcall _ (hL.forget (List.nil_sublist _))).mono ?_; rintro e w ⟨rfl, hb⟩; replace hL := hL.call hb; clear hb) | (refine wpl_alloc hL rfl _ rfl _ z_32 ?_; clear hL; intro bh w hL; simp only [Act.put, List.setIfInBounds_toArray, List.set_cons_succ, List.set_cons_zero]) | (refine wpl_strow hL rfl _ _ _ rfl _ rfl _ rfl _ s_32 _ rfl _ _ _ (by first | exact .here | exact .there .here | exact .there (.there .here) | exact .there (.there (.there .here)) | exact .there (.there (.there (.there .here))) | exact .pre (.here) | exact .pre (.there .here) | exact .pre (.there (.there .here))) (rowF_one _ _ fun _ => rfl) (by exact rowF_len _ _) (by exact rowF_len _ _) ?_; clear hL; intro w hL; simp only [Act.put, List.setIfInBounds_toArray, List.set_cons_succ, List.set_cons_zero]) | (refine wpl_run rfl (run_build_op (t := 58) rfl (cells := (rowF 16 fun _ => .int .u8 0).toArray) (by kernel_rfl)) ?_; simp only [Act.put, List.setIfInBounds_toArray, List.set_cons_succ, List.set_cons_zero]) | (refine wpl_strow hL rfl _ _ _ rfl _ rfl _ rfl _ s_16 _ rfl _ _ _ (by first | exact .here | exact .there .here | exact .there (.there .here) | exact .there (.there (.there .here)) | exact .there (.there (.there (.there .here))) | exact .pre (.here) | exact .pre (.there .here) | exact .pre (.there (.there .here))) (rowF_one _ _ fun _ => rfl) (by exact rowF_len _ _) (by exact rowF_len _ _) ?_; clear hL; intro w hL; simp only [Act.put, List.setIfInBounds_toArray, List.set_cons_succ, List.set_cons_zero]))
  obtain ⟨bo, rfl⟩ : ∃ bo, bo = b := ⟨_, rfl⟩
  obtain ⟨br, rfl⟩ : ∃ br, br = b := ⟨_, rfl⟩
  unfold outV at hL
  go_loopw [5] (fun i wr => ∃ (q : Nat) (f : Nat → Int), q ≤ 16 ∧ i = .int .i64 q ∧ Hid (∀ j, f j = if j < q then outB st j else 0) ∧
    Sees w0 wr [⟨bo, 58, rowF 16 fun j => .int .u8 (f j)⟩, ⟨bh, 47, rowF 32 fun i => .int .u8 (outB st i)⟩, ⟨br, 58, rowF 16 fun _ => .int .u8 0⟩]) (fun i _ => 16 - (intOf i).toNat)
  case atStart => exact ⟨0, fun _ => 0, by decide, rfl, Lib.hid (fun j => by simp), hL⟩
  case round =>
    clear hL
    obtain ⟨q, f, hq16, rfl, hf, hL⟩ := hrel
    by_cases hq : q < 16
    · have hq32 : q < 32 := by omega
      have hq32i : (q : Int) < 32 := by omega
      go_wp2_with (first | (refine wpl_run rfl (run_load_plain rfl p_u8 rfl (hL.at (by first | exact .head _ | exact .tail _ (.head _) | exact .tail _ (.tail _ (.head _)) | exact .tail _ (.tail _ (.tail _ (.head _))) | exact .tail _ (.tail _ (.tail _ (.tail _ (.head _)))) | exact .tail _ (.tail _ (.tail _ (.tail _ (.tail _ (.head _))))) | exact List.mem_append_right _ (.head _) | exact List.mem_append_right _ (.tail _ (.head _)) | exact List.mem_append_right _ (.tail _ (.tail _ (.head _))) | exact List.mem_append_right _ (.tail _ (.tail _ (.tail _ (.head _)))) | exact .tail _ (List.mem_append_right _ (.head _)) | exact .tail _ (List.mem_append_right _ (.tail _ (.head _))) | exact .tail _ (List.mem_append_right _ (.tail _ (.tail _ (.head _)))) | exact .tail _ (List.mem_append_right _ (.tail _ (.tail _ (.tail _ (.head _))))) | exact .tail _ (.tail _ (List.mem_append_right _ (.head _))) | exact .tail _ (.tail _ (List.mem_append_right _ (.tail _ (.head _)))) | exact .tail _ (.tail _ (List.mem_append_right _ (.tail _ (.tail _ (.head _))))) | exact .tail _ (.tail _ (List.mem_append_right _ (.tail _ (.tail _ (.tail _ (.head _))))))) (rowF_at 32 _ q hq32))) ?_; simp only [Act.put, List.setIfInBounds_toArray, List.set_cons_succ, List.set_cons_zero]) | (refine wpl_set1 hL rfl _ _ _ rfl _ _ rfl _ rfl s_u8 rfl rfl _ _ _ _ (by first | exact .here | exact .there .here | exact .there (.there .here) | exact .there (.there (.there .here)) | exact .there (.there (.there (.there .here))) | exact .pre (.here) | exact .pre (.there .here) | exact .pre (.there (.there .here))) (by rw [rowF_len]; exact hq) (rowF_set 16 _ (fun j => .int .u8 (if j = q then outB st q else f j)) q _ hq (by simp only [if_true]; rfl) (fun j _ hne => by simp only [if_neg hne])) ?_; clear hL; intro w hL; simp only [Act.put, List.setIfInBounds_toArray, List.set_cons_succ, List.set_cons_zero]))
      refine ⟨⟨q + 1, fun j => if j = q then outB st q else f j, by omega, rfl, Lib.hid (fun j => ?_), hL⟩, ?_⟩
      · by_cases h : j = q
        · simp only [if_pos h]; rw [if_pos (by omega), h]
        · simp only [if_neg h]; rw [hf.out j]
          by_cases h2 : j < q
          · rw [if_pos h2, if_pos (by omega)]
          · rw [if_neg h2, if_neg (by omega)]
      · simp [intOf]; omega
    · obtain rfl : q = 16 := by omega
      go_wp2_with (first | (refine wpl_run rfl (run_load_row hL rfl a_16 rfl (by first | exact .head _ | exact .tail _ (.head _) | exact .tail _ (.tail _ (.head _)) | exact .tail _ (.tail _ (.tail _ (.head _))) | exact .tail _ (.tail _ (.tail _ (.tail _ (.head _)))) | exact .tail _ (.tail _ (.tail _ (.tail _ (.tail _ (.head _))))) | exact List.mem_append_right _ (.head _) | exact List.mem_append_right _ (.tail _ (.head _)) | exact List.mem_append_right _ (.tail _ (.tail _ (.head _))) | exact List.mem_append_right _ (.tail _ (.tail _ (.tail _ (.head _)))) | exact .tail _ (List.mem_append_right _ (.head _)) | exact .tail _ (List.mem_append_right _ (.tail _ (.head _))) | exact .tail _ (List.mem_append_right _ (.tail _ (.tail _ (.head _)))) | exact .tail _ (List.mem_append_right _ (.tail _ (.tail _ (.tail _ (.head _))))) | exact .tail _ (.tail _ (List.mem_append_right _ (.head _))) | exact .tail _ (.tail _ (List.mem_append_right _ (.tail _ (.head _)))) | exact .tail _ (.tail _ (List.mem_append_right _ (.tail _ (.tail _ (.head _))))) | exact .tail _ (.tail _ (List.mem_append_right _ (.tail _ (.tail _ (.tail _ (.head _))))))) (by rfl)) ?_; simp only [Act.put, List.setIfInBounds_toArray, List.set_cons_succ, List.set_cons_zero]) | (refine wpl_strow hL rfl _ _ _ rfl _ rfl _ rfl _ s_16 _ rfl _ _ _ (by first | exact .here | exact .there .here | exact .there (.there .here) | exact .there (.there (.there .here)) | exact .there (.there (.there (.there .here))) | exact .pre (.here) | exact .pre (.there .here) | exact .pre (.there (.there .here))) (rowF_one _ _ fun _ => rfl) (by rfl) (by rfl) ?_; clear hL; intro w hL; simp only [Act.put, List.setIfInBounds_toArray, List.set_cons_succ, List.set_cons_zero]))
      refine bodyPost_cell rfl a_16 rfl rfl hL (by first | exact .head _ | exact .tail _ (.head _) | exact .tail _ (.tail _ (.head _)) | exact .tail _ (.tail _ (.tail _ (.head _))) | exact .tail _ (.tail _ (.tail _ (.tail _ (.head _)))) | exact .tail _ (.tail _ (.tail _ (.tail _ (.tail _ (.head _))))) | exact List.mem_append_right _ (.head _) | exact List.mem_append_right _ (.tail _ (.head _)) | exact List.mem_append_right _ (.tail _ (.tail _ (.head _))) | exact List.mem_append_right _ (.tail _ (.tail _ (.tail _ (.head _)))) | exact .tail _ (List.mem_append_right _ (.head _)) | exact .tail _ (List.mem_append_right _ (.tail _ (.head _))) | exact .tail _ (List.mem_append_right _ (.tail _ (.tail _ (.head _)))) | exact .tail _ (List.mem_append_right _ (.tail _ (.tail _ (.tail _ (.head _))))) | exact .tail _ (.tail _ (List.mem_append_right _ (.head _))) | exact .tail _ (.tail _ (List.mem_append_right _ (.tail _ (.head _)))) | exact .tail _ (.tail _ (List.mem_append_right _ (.tail _ (.tail _ (.head _))))) | exact .tail _ (.tail _ (List.mem_append_right _ (.tail _ (.tail _ (.tail _ (.head _))))))) (rowF_len _ _) ⟨?_, hL.below⟩
      rw [hdig.out, rowF_congr 16 (fun j => .int .u8 (f j)) (fun j => .int .u8 (outB st j)) (fun j hj => by simp only [hf.out j, if_pos hj])]

set_option maxHeartbeats 1000000 in
theorem refint_any (n : Int) (w0 : World) (h0 : 0 ≤ n) (h1 : n ≤ 1000000000000) :
    Calls Tryd.prog 54 #[.int .i64 n] w0 fun e w' => ∃ v Lv, e = .returned v ∧ Sees w0 w' Lv ∧ IsSl v 5 1 (intB n).length (bytesV (intB n)) Lv := by
  have hL := Sees.refl w0
  obtain ⟨m, rfl⟩ := Int.eq_ofNat_of_zero_le h0
  go_enter Tryd.func54, Tryd.ntmps54
  go_wp2
  go_loopw [3, 4] (fun u v wr => ∃ (z n : Nat) (acc : List UInt8) (a : Option Addr) (cap : Nat) (Lv : List Blk), u = .int .u64 z ∧ v = .slice a n cap ∧ (z : Int) ≤ 2000000000000 ∧ IsSl v 5 1 n (bytesV acc) Lv ∧ n ≤ 2000000000001 ∧ Hid (acc ++ varB z = intB m) ∧ Sees w0 wr (Lv ++ [])) (fun u _ _ => (intOf u).toNat)
  case atStart => exact ⟨2 * m, 0, [], _, _, [], congrArg (Value.int IntKind.u64) (by omega), rfl, by omega, .nil rfl rfl rfl rfl, by decide, Lib.hid (by rw [intB, zig_nat]; rfl), hL⟩
  case round =>
    clear hL
    obtain ⟨z, n, acc, a, cap, Lv, rfl, rfl, hz, hV, hn, hacc, hL⟩ := hrel
    have hal : acc.length = n := by have := hV.len; simpa [bytesV] using this
    have hn2 : n ≤ 2000000000000 := by
      have h1 := congrArg List.length hacc.out
      have h2 := varB_len (zig m)
      rw [zig_nat] at h2
      have h3 : 1 ≤ (varB z).length := by rw [varB]; split <;> simp
      rw [List.length_append, intB, zig_nat] at h1
      omega
    by_cases h127 : z < 128
    · have f1 : decide ((z : Int) ≥ 128) = false := by simp; omega
      have f2 : decide ((128 : Int) ≤ (z : Int)) = false := by simp; omega
      have f3 : (z : Int) % 256 = (z : Int) := by omega
      go_wp2_with (first | (refine wpl_slice hL rfl _ _ _ rfl _ 1 u_bytes s_u8 [.int .u8 0] z_u8 (by decide) _ (EvalAll.one rfl) rfl ?_; clear hL; intro b w hL; simp only [Act.put, List.setIfInBounds_toArray, List.set_cons_succ, List.set_cons_zero]) | (refine wpl_app1 hL rfl hV _ _ _ rfl rfl rfl u_bytes i_u8 rfl (Nat.le_trans (Nat.succ_le_succ hn2) (by decide)) (by omega) ?_; clear hL hV; intro v w Lv hL hV; simp only [Act.put, List.setIfInBounds_toArray, List.set_cons_succ, List.set_cons_zero]))
      go_ret
      have e1 : acc ++ [UInt8.ofNat z] = intB (m : Int) := by rw [← hacc.out, varB_lt z h127]
      have e2 : bytesV [UInt8.ofNat z] = [.int .u8 (z : Int)] := by
        show [Value.int IntKind.u8 ((UInt8.ofNat z).toNat : Int)] = _
        rw [show ((UInt8.ofNat z).toNat : Int) = (z : Int) from by simp only [UInt8.toNat_ofNat']; omega]
      first | refine ⟨v, rfl, Lv, by simpa using hL, ?_⟩ | refine ⟨v, Lv, rfl, by simpa using hL, ?_⟩
      rw [← e1, bytesV_append, e2, List.length_append, hal]
      exact hV
    · have f2 : decide ((128 : Int) ≤ (z : Int)) = true := by simp; omega
      obtain ⟨R, hR0, hR1, HR⟩ : ∃ R : Nat, 0 ≤ (R : Int) ∧ (R : Int) < 128 ∧ Hid (R = z % 128) := ⟨z % 128, by omega, by omega, Lib.hid rfl⟩
      have r1 : (z : Int).tmod 128 = (R : Int) := by rw [Int.tmod_eq_emod_of_nonneg (by omega), HR.out]; omega
      have r2 : (z : Int) % 128 = (R : Int) := by rw [HR.out]; omega
      obtain ⟨Z, hZ0, hZ1, HZ⟩ : ∃ Z : Nat, 0 ≤ (Z : Int) ∧ (Z : Int) ≤ 2000000000000 ∧ Hid (Z = z / 128) := ⟨z / 128, by omega, by omega, Lib.hid rfl⟩
      have d1 : (z : Int).tdiv 128 = (Z : Int) := by rw [Int.tdiv_eq_ediv_of_nonneg (by omega), HZ.out]; omega
      have d2 : (z : Int) / 128 = (Z : Int) := by rw [HZ.out]; omega
      have e2 : Hid (bytesV [UInt8.ofNat (z % 128 + 128)] = [.int .u8 ((R : Int) + 128)]) := Lib.hid (by
        show [Value.int IntKind.u8 ((UInt8.ofNat (z % 128 + 128)).toNat : Int)] = _
        rw [show ((UInt8.ofNat (z % 128 + 128)).toNat : Int) = (R : Int) + 128 from by simp only [UInt8.toNat_ofNat']; rw [HR.out]; omega])
      go_wp2_with (first | (refine wpl_slice hL rfl _ _ _ rfl _ 1 u_bytes s_u8 [.int .u8 0] z_u8 (by decide) _ (EvalAll.one rfl) rfl ?_; clear hL; intro b w hL; simp only [Act.put, List.setIfInBounds_toArray, List.set_cons_succ, List.set_cons_zero]) | (refine wpl_app1 hL rfl hV _ _ _ rfl rfl rfl u_bytes i_u8 rfl (Nat.le_trans (Nat.succ_le_succ hn2) (by decide)) (by omega) ?_; clear hL hV; intro v w Lv hL hV; simp only [Act.put, List.setIfInBounds_toArray, List.set_cons_succ, List.set_cons_zero]))
      obtain ⟨a', cap', rfl⟩ := hV.shape
      refine ⟨⟨z / 128, n + 1, acc ++ [UInt8.ofNat (z % 128 + 128)], a', cap', Lv, by rw [← HZ.out], rfl, by omega, ?_, by omega, Lib.hid ?_, hL⟩, ?_⟩
      · rw [bytesV_append, e2.out]; exact hV
      · rw [← hacc.out, varB_ge z h127]; simp
      · simp [intOf]; have := HZ.out; omega
set_option maxHeartbeats 1000000 in
theorem refbytes_any (t : ByteArray) (w0 : World) (h1 : t.size ≤ 100000000000) :
    Calls Tryd.prog 50 #[.string t] w0 fun e w' => ∃ v Lv, e = .returned v ∧ Sees w0 w' Lv ∧ IsSl v 5 1 (encB t.data.toList).length (bytesV (encB t.data.toList)) Lv := by
  have hL := Sees.refl w0
  have hil := intB_len t.size
  have i1 : (t.size : Int) ≤ 1000000000000 := by omega
  have b1 : (intB (t.size : Int)).length + t.size ≤ maxLen := by unfold maxLen; omega
  have b2 : ((intB (t.size : Int)).length + t.size) * 1 ≤ 140737488355328 := by omega
  go_enter Tryd.func50, Tryd.ntmps50
  go_wp2_with (first | (go_at_call 54; refine (refint_any _ _ (by omega) i1).mono ?_; rintro e w ⟨v, Lv, rfl, hM, hV⟩; replace hL := hL.join hM; clear hM) | (refine wpl_append_str hL rfl hV _ _ _ _ rfl rfl [.int .u8 0] 1 u_bytes u_string i_u8 rfl t rfl b1 b2 ?_; clear hL hV; intro v w Lv hL hV; simp only [Act.put, List.setIfInBounds_toArray, List.set_cons_succ, List.set_cons_zero]))
  go_ret
  first | refine ⟨v, rfl, Lv, by simpa using hL, ?_⟩ | refine ⟨v, Lv, rfl, by simpa using hL, ?_⟩
  have e : t.data.toList.length = t.size := by simp
  unfold encB
  rw [bytesV_append, List.length_append, e]
  exact hV

theorem encB_pos (t : ByteArray) : 0 < (encB t.data.toList).length := by
  unfold encB intB
  rw [List.length_append, zig_nat]
  have : 1 ≤ (varB (2 * t.data.toList.length)).length := by rw [varB]; split <;> simp
  omega
set_option maxHeartbeats 2000000 in
theorem refinput_any (tag : Int) (v : Value) (l : List ByteArray) (w0 : World) (hR : Rd w0 v l.length 1 (strV l)) (hl : l.length ≤ 1000) (hs : ∀ t ∈ l, t.size ≤ 1000000) :
    Calls Tryd.prog 36 #[.int .i64 tag, v] w0 fun e w' => ∃ v Lv, e = .returned v ∧ Sees w0 w' Lv ∧ IsSl v 5 1 (inB tag l).length (bytesV (inB tag l)) Lv := by
  obtain ⟨⟨a, cap, rfl, hcells⟩, -⟩ := hR
  have hL := Sees.refl w0
  obtain ⟨c, hc⟩ : ∃ c, c = tagB tag := ⟨_, rfl⟩
  have hc1 : tag % 256 = (c.toNat : Int) := by rw [hc]; exact tagB_eq tag
  have hc2 : IntKind.u8.wrap tag = (c.toNat : Int) := by rw [wrap_u8, hc1]
  have HC := Lib.hid hc
  clear hc
  go_enter Tryd.func36, Tryd.ntmps36
  go_wp2_with (first | (refine wpl_slice hL rfl _ _ _ rfl _ 1 u_bytes s_u8 [.int .u8 0] z_u8 (by decide) _ (EvalAll.one rfl) rfl ?_; clear hL; intro b0 w hL; simp only [Act.put, List.setIfInBounds_toArray, List.set_cons_succ, List.set_cons_zero]))
  go_loopw [5, 6] (fun s i wr => ∃ (k n : Nat) (a' : Option Addr) (cap' : Nat) (Lv : List Blk), k ≤ l.length ∧ i = .int .i64 k ∧ s = .slice a' n cap' ∧ (n : Int) ≤ 1 + k * 3000001 ∧ IsSl s 5 1 n (bytesV (c :: (l.take k).flatMap fun t => encB t.data.toList)) Lv ∧ Sees w0 wr (Lv ++ [])) (fun _ i _ => l.length - (intOf i).toNat)
  case atStart => exact ⟨0, 1, _, _, [⟨b0, 5, [.int .u8 (c.toNat : Int)]⟩], Nat.zero_le _, rfl, rfl, by decide, .row b0 1 [] rfl rfl rfl (Nat.le_refl _) (by decide) rfl, hL⟩
  case round =>
    clear hL
    obtain ⟨k, n, a', cap', Lv, hk, rfl, rfl, hn, hV, hL⟩ := hrel
    by_cases hlt : k < l.length
    · obtain ⟨ad, rfl, hcc⟩ := hcells (by intro h; have := congrArg List.length h; simp [strV] at this; subst this; simp at hlt)
      have hc1 := hcc k _ (strV_at l k hlt)
      generalize hx : l[k] = x at hc1
      have hxs : x.size ≤ 1000000 := by rw [← hx]; exact hs _ (List.getElem_mem _)
      have hen := enc_len x
      obtain ⟨E, hE⟩ : ∃ E, E = encB x.data.toList := ⟨_, rfl⟩
      have hEp := encB_pos x
      rw [← hE] at hen hEp
      obtain ⟨M, hM1, HM⟩ : ∃ M : Nat, (M : Int) ≤ 3000001 ∧ Hid (M = E.length) := ⟨E.length, by omega, Lib.hid rfl⟩
      have hMp : 0 < M := by rw [HM.out]; exact hEp
      have hk2 : (k : Int) ≤ 1000 := by omega
      have b1 : n + M ≤ maxLen := by unfold maxLen; omega
      have b2 : (n + M) * 1 ≤ 140737488355328 := by omega
      have HX := Lib.hid hx
      have HE := Lib.hid hE
      clear hx hE hen hEp
      have hcall : ∀ w, Calls Tryd.prog 50 #[.string x] w fun e w' => ∃ (bb cc : Nat) (rr : List Value), e = .returned (.slice (some ⟨bb, 0, none⟩) M cc) ∧ Sees w w' [⟨bb, 5, bytesV E ++ rr⟩] := fun w => (refbytes_any x w (by omega)).mono fun e w' h => by
        obtain ⟨v, Lv, h1, h2, h3⟩ := h
        rw [← HE.out, ← HM.out] at h3
        obtain ⟨bb, cc, rr, e1, e2⟩ := h3.row_of hMp
        subst e2
        exact ⟨bb, cc, rr, by rw [h1, e1], h2⟩
      go_wp2_with (first | (refine wpl_run rfl (run_load_plain rfl p_str rfl (hL.old hc1)) ?_; simp only [Act.put, List.setIfInBounds_toArray, List.set_cons_succ, List.set_cons_zero]) | (go_at_call 50; refine (hcall _).mono ?_; rintro e w ⟨bb, cc, rr, rfl, hMM⟩; replace hL := hL.join hMM; clear hMM) | (refine wpl_append (P0 := [_]) hL rfl hV _ _ _ rfl rfl [.int .u8 0] 1 u_bytes i_u8 rfl ⟨bb, 0, none⟩ M cc (bytesV E) rfl (by rw [bytesV_length, HM.out, Nat.mul_one]) (fun j y hy => hL.row (.head _) j y (app_left hy)) (bytesV_one _) b1 b2 ?_; clear hL hV; intro v w Lv hL hV; simp only [Act.put, List.setIfInBounds_toArray, List.set_cons_succ, List.set_cons_zero]))
      obtain ⟨a2, cap2, rfl⟩ := hV.shape
      refine ⟨⟨k + 1, n + M, a2, cap2, Lv, by omega, rfl, rfl, ?_, ?_, hL.forget (List.sublist_cons_self _ _)⟩, ?_⟩
      · have : ((k + 1 : Nat) : Int) = (k : Int) + 1 := by omega
        rw [this]; omega
      · rw [List.take_succ_eq_append_getElem hlt, List.flatMap_append, ← List.cons_append, bytesV_append, HX.out]
        simp only [List.flatMap_cons, List.flatMap_nil, List.append_nil]
        rw [← HE.out]
        exact hV
      · simp [intOf]; omega
    · obtain rfl : k = l.length := by omega
      go_wp2
      go_ret
      have e1 : inB tag l = c :: (l.take l.length).flatMap fun t => encB t.data.toList := by rw [List.take_length, HC.out]; rfl
      have hn1 : n = (inB tag l).length := by
        have := hV.len
        rw [← e1, bytesV_length] at this
        omega
      rw [← e1, hn1] at hV
      rw [hn1]
      first | exact ⟨_, rfl, Lv, by simpa using hL, hV⟩ | exact ⟨_, Lv, rfl, by simpa using hL, hV⟩
set_option maxHeartbeats 1000000 in
theorem refof_any (tag : Int) (v : Value) (l : List ByteArray) (w0 : World) (hR : Rd w0 v l.length 1 (strV l)) (hl : l.length ≤ 1000) (hs : ∀ t ∈ l, t.size ≤ 1000000) (hb : (inB tag l).length ≤ 1000000) (hT : TabR w0) :
    Calls Tryd.prog 35 #[.int .i64 tag, v] w0 fun e w' => e = .returned (.agg (digV (inB tag l)).toArray) ∧ Below w0.heap.size w0 w' := by
  have hL := Sees.refl w0
  obtain ⟨I, hI⟩ : ∃ I, I = inB tag l := ⟨_, rfl⟩
  have hin := fun w (hL : Sees w0 w []) => refinput_any tag v l w (hR.sees hL) hl hs
  rw [← hI] at hin hb ⊢
  clear hI hR
  have hd1 := rowF_one 16 (fun i => Value.int .u8 (outB ((sm0.add I).add (padL I.length)).st i)) fun _ => rfl
  have hd2 : (digV I).length = 16 := rowF_len _ _
  obtain ⟨D, hD⟩ : ∃ D, D = digV I := ⟨_, rfl⟩
  have hsh := fun (v : Value) A c w (h1 : v = .slice A I.length c) h2 h3 hT => refshort_any v A c I w h1 h2 h3 hb hT
  rw [← hD] at hd2 ⊢
  have hd1 : ∀ u ∈ D, u.one1 = true := by rw [hD]; exact hd1
  simp only [← hD] at hsh
  clear hD
  go_enter Tryd.func35, Tryd.ntmps35
  go_wp2_with (first | (refine wpl_alloc hL rfl _ rfl _ z_16 ?_; clear hL; intro b w hL; simp only [Act.put, List.setIfInBounds_toArray, List.set_cons_succ, List.set_cons_zero]) | (go_at_call 36; refine (hin _ (hL.forget (List.nil_sublist _))).mono ?_; rintro e w ⟨v2, Lv, rfl, hM, hV⟩; obtain ⟨A, c, rfl, hc1, hC⟩ := sl_C hV hM (fun x hx => hx); replace hL := hL.call hM.below; clear hM hV) | (go_at_call 49; refine (hsh _ A c _ rfl hC hc1 (hT.since hL)).mono ?_; rintro e w ⟨rfl, hb⟩; replace hL := hL.call hb; clear hb hC) | (refine wpl_strow hL rfl _ _ _ rfl _ rfl _ rfl _ s_16 _ rfl _ _ _ (by first | exact .here | exact .there .here | exact .there (.there .here) | exact .there (.there (.there .here)) | exact .there (.there (.there (.there .here))) | exact .pre (.here) | exact .pre (.there .here) | exact .pre (.there (.there .here))) hd1 hd2 (by exact rowF_len _ _) ?_; clear hL; intro w hL; simp only [Act.put, List.setIfInBounds_toArray, List.set_cons_succ, List.set_cons_zero]))
  refine bodyPost_cell rfl a_16 rfl rfl hL (by first | exact .head _ | exact .tail _ (.head _) | exact .tail _ (.tail _ (.head _)) | exact .tail _ (.tail _ (.tail _ (.head _))) | exact .tail _ (.tail _ (.tail _ (.tail _ (.head _)))) | exact .tail _ (.tail _ (.tail _ (.tail _ (.tail _ (.head _))))) | exact List.mem_append_right _ (.head _) | exact List.mem_append_right _ (.tail _ (.head _)) | exact List.mem_append_right _ (.tail _ (.tail _ (.head _))) | exact List.mem_append_right _ (.tail _ (.tail _ (.tail _ (.head _)))) | exact .tail _ (List.mem_append_right _ (.head _)) | exact .tail _ (List.mem_append_right _ (.tail _ (.head _))) | exact .tail _ (List.mem_append_right _ (.tail _ (.tail _ (.head _)))) | exact .tail _ (List.mem_append_right _ (.tail _ (.tail _ (.tail _ (.head _))))) | exact .tail _ (.tail _ (List.mem_append_right _ (.head _))) | exact .tail _ (.tail _ (List.mem_append_right _ (.tail _ (.head _)))) | exact .tail _ (.tail _ (List.mem_append_right _ (.tail _ (.tail _ (.head _))))) | exact .tail _ (.tail _ (List.mem_append_right _ (.tail _ (.tail _ (.tail _ (.head _))))))) hd2 ⟨rfl, hL.below⟩
end Go.Proofs.YtkkmkfkgmioblaaDoor
