/- The specification's SHA-256: the padded message, the hash. -/
import Derived.Test.YtkkmkfkgmioblaaDoorRefSha
import Derived.Test.YtkkmkfkgmioblaaDoorKd
import Derived.Test.YtkkmkfkgmioblaaDoorP6
set_option linter.unusedVariables false
set_option linter.unusedSimpArgs false
namespace Go.Proofs.YtkkmkfkgmioblaaDoor
open Go Go.RowKit Go.Lx Go.Proofs.YtkkmkfkgmioblaaDoor.P Go.Proofs.YtkkmkfkgmioblaaDoorW.PrintWords Go.Proofs.YtkkmkfkgmioblaaDoorW.PrintLast
attribute [local irreducible] Calls

theorem ofBytes_append (l m : List UInt8) : ofBytes (l ++ m) = ofBytes l ++ ofBytes m := by unfold ofBytes; rw [List.map_append]
theorem ofBytes_cons (c : UInt8) (l : List UInt8) : ofBytes (c :: l) = (c.toNat : Int) :: ofBytes l := rfl
theorem wrap_small (q : Nat) (h : q ≤ 10000) : wrap64 ((q : Int) + 1) = ((q + 1 : Nat) : Int) := by unfold wrap64; omega
theorem shift_amt (q : Nat) (h : q < 8) : wrap64 (56 - wrap64 (8 * (q : Int))) = ((56 - 8 * q : Nat) : Int) := by unfold wrap64; omega
theorem pad_l1 (m : Nat) (d : Nat) : ∀ (k : Nat) (acc : List Int) (q : Nat), 8 - q = d → q ≤ 8 → d < k → acc.length ≤ 2000000 + q →
    antiquaryref02_padded.l1 k acc (m : Int) (q : Int) = some (acc ++ (List.range' q d).map fun i => ((m / 2 ^ (56 - 8 * i) % 256 : Nat) : Int)) := by
  induction d with
  | zero =>
    intro k acc q hd hq hk hac
    obtain ⟨k, rfl⟩ : ∃ m, k = m + 1 := ⟨k - 1, by omega⟩
    simp only [antiquaryref02_padded.l1]
    rw [if_neg (by omega)]
    simp
  | succ d ih =>
    intro k acc q hd hq hk hac
    obtain ⟨k, rfl⟩ : ∃ m, k = m + 1 := ⟨k - 1, by omega⟩
    have c1 : ((q : Int) < 8) := by omega
    have c2 : acc.length < 140737488355328 := by omega
    have c3 : (acc ++ [((m / 2 ^ (56 - 8 * q) % 256 : Nat) : Int)]).length ≤ 2000000 + (q + 1) := by rw [List.length_append, List.length_singleton]; omega
    have ih' := ih k (acc ++ [((m / 2 ^ (56 - 8 * q) % 256 : Nat) : Int)]) (q + 1) (by omega) (by omega) (by omega) c3
    have e0 := shift_amt q (by omega)
    have e1 := wrap_small q (by omega)
    simp only [antiquaryref02_padded.l1]
    rw [if_pos c1, e0, if_pos (Int.natCast_nonneg _), if_pos c2, e1]
    have e2 : shr .u64 (m : Int) ((56 - 8 * q : Nat) : Int) % 256 = ((m / 2 ^ (56 - 8 * q) % 256 : Nat) : Int) := by
      unfold shr
      rw [Int.toNat_natCast, show min (56 - 8 * q) IntKind.u64.bits = 56 - 8 * q from Nat.min_eq_left (by show 56 - 8 * q ≤ 64; omega)]
      rw [Int.natCast_emod, Int.natCast_ediv, Int.natCast_pow]
      rfl
    rw [e2, ih', List.range'_succ, List.map_cons, List.append_assoc]
    rfl
theorem ofBytes_be8 (m : Nat) : ofBytes (be8 m 8) = (List.range' 0 8).map fun i => ((m / 2 ^ (56 - 8 * i) % 256 : Nat) : Int) := by
  unfold ofBytes be8
  rw [List.map_map, List.range_eq_range']
  apply List.map_congr_left
  intro i _
  simp only [Function.comp, UInt8.toNat_ofNat']
theorem pad_l0 (x : List Int) (n : Nat) (hx : x.length = n) (hn : n ≤ 1000000) (d : Nat) : ∀ (k : Nat) (acc : List Int) (j : Nat), padZ n - j = d → j ≤ padZ n → d + 10 < k → acc.length = n + 1 + j →
    antiquaryref02_padded.l0 k x acc = some (acc ++ List.replicate d 0 ++ ofBytes (be8 (8 * n) 8)) := by
  have hz := padZ_spec n
  induction d with
  | zero =>
    intro k acc j hd hj hk hac
    obtain ⟨k, rfl⟩ : ∃ m, k = m + 1 := ⟨k - 1, by omega⟩
    have c1 : ((acc.length : Int) % 64) = 56 := by omega
    have e1 : IntKind.u64.wrap (8 * IntKind.u64.wrap ((x.length : Int))) = ((8 * n : Nat) : Int) := by rw [wrap_u64, wrap_u64, hx]; omega
    have := pad_l1 (8 * n) 8 k acc 0 rfl (by omega) (by omega) (by omega)
    simp only [antiquaryref02_padded.l0]
    rw [if_pos c1, e1]
    rw [show ((0 : Nat) : Int) = 0 from rfl] at this
    rw [this, ofBytes_be8]
    simp
  | succ d ih =>
    intro k acc j hd hj hk hac
    obtain ⟨k, rfl⟩ : ∃ m, k = m + 1 := ⟨k - 1, by omega⟩
    have c1 : ¬ ((acc.length : Int) % 64) = 56 := by
      rw [hac]
      unfold padZ at hd
      omega
    have c2 : acc.length < 140737488355328 := by omega
    have := ih k (acc ++ [0]) (j + 1) (by omega) (by omega) (by omega) (by rw [List.length_append, List.length_singleton]; omega)
    simp only [antiquaryref02_padded.l0]
    rw [if_neg c1, if_pos c2, this, List.replicate_succ]
    simp
theorem padded_f (l : List UInt8) (hn : l.length ≤ 1000000) : antiquaryref02_padded.f 200 (ofBytes l) = some (ofBytes (l ++ padL l.length)) := by
  have hz := padZ_spec l.length
  unfold antiquaryref02_padded.f
  have hl : (ofBytes l).length = l.length := ofBytes_length l
  rw [Option.bind_some, if_pos (by rw [hl]; simp; omega), Option.bind_some, if_pos (by rw [List.nil_append, hl]; omega), List.nil_append]
  have := pad_l0 (ofBytes l) l.length hl hn (padZ l.length) 200 (ofBytes l ++ [128]) 0 rfl (by omega) (by omega) (by rw [List.length_append, hl]; rfl)
  rw [this]
  have e0 : ofBytes (List.replicate (padZ l.length) 0) = List.replicate (padZ l.length) 0 := by unfold ofBytes; rw [List.map_replicate]; rfl
  unfold padL
  rw [ofBytes_append, List.cons_append, ofBytes_cons, ofBytes_append, e0]
  simp

/-- whole blocks, one after the other -/
def chunks (s : St) (l : List UInt8) : Nat → St
  | 0 => s
  | q + 1 => compr (chunks s l q) ((l.drop (64 * q)).take 64)
theorem w32_ffff (a : BitVec 32) : bits .xor .u32 (w32 a) 4294967295 = w32 (~~~a) := by
  have e : (4294967295 : Int) = w32 (BitVec.allOnes 32) := by decide
  rw [e, w32_xor, BitVec.xor_allOnes]
theorem tabR_cell {w : World} (h : TabR w) (t : Nat) (ht : t < 64) : ∀ w2, Since w w2 → w2.cell? ⟨0, t, none⟩ = some (W32 (kc t)) := fun w2 h2 => (h.below h2) t ht
theorem en_padded : enterable Tryd.prog 44 = true := by kernel_rfl
def s0 : St := ⟨0x6a09e667, 0xbb67ae85, 0x3c6ef372, 0xa54ff53a, 0x510e527f, 0x9b05688c, 0x1f83d9ab, 0x5be0cd19⟩
theorem padded_any (v : Value) (A : Option Addr) (c : Nat) (l : List UInt8) (w0 : World) (hv : v = .slice A l.length c) (hR : (Kd.int .u8).C w0 A (ofBytes l).length (ofBytes l)) (hc : l.length ≤ c) (hn : l.length ≤ 1000000) :
    Calls Tryd.prog 44 #[v] w0 fun e w' => ∃ (g c' N : Nat) (m : List UInt8) (rest : List Value), e = .returned (.slice (some ⟨g, 0, none⟩) N c') ∧ Hid (m = l ++ padL l.length) ∧ Hid (N = m.length) ∧ N ≤ c' ∧ (N : Int) ≤ 1100000 ∧ Sees w0 w' [⟨g, 5, bytesV m ++ rest⟩] := by
  subst hv
  have h := antiquaryref02_padded.calls 200 A c (ofBytes l) _ w0 hR (by rw [ofBytes_length]; exact hc) (padded_f l hn)
  rw [ofBytes_length] at h
  refine h.mono ?_
  rintro e w' ⟨v, rfl, hv, hb⟩
  have hz := padZ_spec l.length
  have hpl : (padL l.length).length = padZ l.length + 9 := by unfold padL be8; simp
  obtain ⟨Lv, hV, hS⟩ := sl_of_R hv hb
  have e : (ofBytes (l ++ padL l.length)).map (Value.int .u8) = bytesV (l ++ padL l.length) := by unfold ofBytes bytesV; rw [List.map_map]; rfl
  rw [e, ofBytes_length] at hV
  cases hV with
  | nil _ hn0 _ _ => rw [List.length_append, hpl] at hn0; omega
  | row b cap rest hv' hx hc1 hn1 hm1 hl1 =>
    subst hl1
    exact ⟨b, cap, _, _, rest, by rw [hv'], Lib.hid rfl, Lib.hid rfl, hn1, by rw [List.length_append, hpl]; omega, hS⟩
set_option maxRecDepth 100000 in
set_option maxHeartbeats 8000000 in
theorem refsum_any (v : Value) (A : Option Addr) (c : Nat) (l : List UInt8) (w0 : World) (hv : v = .slice A l.length c) (hR : (Kd.int .u8).C w0 A (ofBytes l).length (ofBytes l)) (hc : l.length ≤ c) (hn : l.length ≤ 1000000) (hT : TabR w0) :
    Calls Tryd.prog 30 #[v] w0 fun e w' => e = .returned (.agg (outV (chunks s0 (l ++ padL l.length) ((l ++ padL l.length).length / 64))).toArray) ∧ Below w0.heap.size w0 w' := by
  subst hv
  have hL := Sees.refl w0
  go_enter Tryd.func30, Tryd.ntmps30
  go_wp2_with (first | (refine wpl_alloc hL rfl _ rfl _ z_32 ?_; clear hL; intro b w hL; simp only [Act.put, List.setIfInBounds_toArray, List.set_cons_succ, List.set_cons_zero]) | (refine wpl_alloc hL rfl _ rfl _ z_8 ?_; clear hL; intro b w hL; simp only [Act.put, List.setIfInBounds_toArray, List.set_cons_succ, List.set_cons_zero]) | (refine wpl_run rfl (run_build_op (t := 50) rfl (cells := s0.v8.toArray) (by kernel_rfl)) ?_; simp only [Act.put, List.setIfInBounds_toArray, List.set_cons_succ, List.set_cons_zero]) | (refine wpl_strow hL rfl _ _ _ rfl _ rfl _ rfl _ s_8 _ rfl _ _ _ (by first | exact .here | exact .there .here | exact .there (.there .here) | exact .there (.there (.there .here)) | exact .there (.there (.there (.there .here))) | exact .pre (.here) | exact .pre (.there .here) | exact .pre (.there (.there .here))) (by repeat (first | exact all1_nil | refine all1_cons rfl ?_)) (by rfl) (by rfl) ?_; clear hL; intro w hL; simp only [Act.put, List.setIfInBounds_toArray, List.set_cons_succ, List.set_cons_zero]) | (go_at_call 44; refine (padded_any _ A c l _ rfl (Kd.C_below hR hL.below) hc hn).mono ?_; rintro e w ⟨g, c', N, m, rest, rfl, HM, HN, hNc, hN1, hM⟩; replace hL := hL.join hM; clear hM))
  rename_i br _ _ _ _ _
  obtain ⟨b8, rfl⟩ : ∃ b8, b8 = b := ⟨_, rfl⟩
  have hN64 : Hid (N = 64 * (N / 64)) := Lib.hid (by
    have hz := padZ_spec l.length
    have hpl : (padL l.length).length = padZ l.length + 9 := by unfold padL be8; simp
    have h1 := HN.out
    rw [HM.out, List.length_append, hpl] at h1
    omega)
  have hNc2 : (N : Int) ≤ (c' : Int) := by omega
  clear hR hc
  go_loopw [5] (fun i wr => ∃ (q a : Nat), Hid (a = 64 * q) ∧ (a : Int) ≤ (N : Int) ∧ i = .int .i64 a ∧ Sees w0 wr [⟨g, 5, bytesV m ++ rest⟩, ⟨b8, 50, (chunks s0 m q).v8⟩, ⟨br, 47, rowF 32 fun _ => .int .u8 0⟩]) (fun i _ => N - (intOf i).toNat)
  case atStart => exact ⟨0, 0, Lib.hid rfl, by omega, rfl, hL⟩
  case round =>
    clear hL
    obtain ⟨q, a, ha, haN, rfl, hL⟩ := hrel
    obtain ⟨s, hs⟩ : ∃ s, s = chunks s0 m q := ⟨_, rfl⟩
    rw [← hs] at hL
    have HSt := Lib.hid hs
    clear hs
    by_cases hlt : a < N
    · have h64 : (a : Int) + 64 ≤ (N : Int) := by have := ha.out; have := hN64.out; omega
      have h64c : (a : Int) + 64 ≤ (c' : Int) := by omega
      have hw1 : IntKind.i64.wrap ((a : Int) + 64) = (a : Int) + 64 := by rw [IntKind.wrap_i64]; omega
      obtain ⟨bs, hbs⟩ : ∃ bs, bs = (m.drop a).take 64 := ⟨_, rfl⟩
      have hbl : bs.length = 64 := by rw [hbs, List.length_take, List.length_drop]; have := HN.out; omega
      have hbc : ∀ j x, (bytesV bs)[j]? = some x → (bytesV m ++ rest)[a + j]? = some x := by
        intro j x hx
        have hj : j < 64 := by
          rcases Nat.lt_or_ge j 64 with h | h
          · exact h
          · rw [List.getElem?_eq_none (by rw [bytesV_length, hbl]; exact h)] at hx; cases hx
        have := HN.out
        rw [List.getElem?_append_left (by rw [bytesV_length]; omega)]
        unfold bytesV at hx ⊢
        rw [List.getElem?_map] at hx ⊢
        rw [hbs, List.getElem?_take, if_pos hj, List.getElem?_drop] at hx
        exact hx
      have HB := Lib.hid hbs
      clear hbs
      go_wp2_with (first | (go_at_call 45; refine (refwords_any _ _ bs _ hbl (by omega) (hL.part (by first | exact .head _ | exact .tail _ (.head _) | exact .tail _ (.tail _ (.head _)) | exact .tail _ (.tail _ (.tail _ (.head _))) | exact .tail _ (.tail _ (.tail _ (.tail _ (.head _)))) | exact .tail _ (.tail _ (.tail _ (.tail _ (.tail _ (.head _))))) | exact List.mem_append_right _ (.head _) | exact List.mem_append_right _ (.tail _ (.head _)) | exact List.mem_append_right _ (.tail _ (.tail _ (.head _))) | exact List.mem_append_right _ (.tail _ (.tail _ (.tail _ (.head _)))) | exact .tail _ (List.mem_append_right _ (.head _)) | exact .tail _ (List.mem_append_right _ (.tail _ (.head _))) | exact .tail _ (List.mem_append_right _ (.tail _ (.tail _ (.head _)))) | exact .tail _ (List.mem_append_right _ (.tail _ (.tail _ (.tail _ (.head _))))) | exact .tail _ (.tail _ (List.mem_append_right _ (.head _))) | exact .tail _ (.tail _ (List.mem_append_right _ (.tail _ (.head _)))) | exact .tail _ (.tail _ (List.mem_append_right _ (.tail _ (.tail _ (.head _))))) | exact .tail _ (.tail _ (List.mem_append_right _ (.tail _ (.tail _ (.tail _ (.head _))))))) hbc)).mono ?_; rintro e w ⟨rfl, hb⟩; replace hL := hL.call hb; clear hb) | (refine wpl_alloc hL rfl _ rfl _ z_w ?_; clear hL; intro bw w hL; simp only [Act.put, List.setIfInBounds_toArray, List.set_cons_succ, List.set_cons_zero]) | (refine wpl_strow hL rfl _ _ _ rfl _ rfl _ rfl _ s_w _ rfl _ _ _ (by first | exact .here | exact .there .here | exact .there (.there .here) | exact .there (.there (.there .here)) | exact .there (.there (.there (.there .here))) | exact .pre (.here) | exact .pre (.there .here) | exact .pre (.there (.there .here))) (rowF_one _ _ fun _ => rfl) (by rfl) (by rfl) ?_; clear hL; intro w hL; simp only [Act.put, List.setIfInBounds_toArray, List.set_cons_succ, List.set_cons_zero]) | (refine wpl_run rfl (run_load_row hL rfl a_8 rfl (by first | exact .head _ | exact .tail _ (.head _) | exact .tail _ (.tail _ (.head _)) | exact .tail _ (.tail _ (.tail _ (.head _))) | exact .tail _ (.tail _ (.tail _ (.tail _ (.head _)))) | exact .tail _ (.tail _ (.tail _ (.tail _ (.tail _ (.head _))))) | exact List.mem_append_right _ (.head _) | exact List.mem_append_right _ (.tail _ (.head _)) | exact List.mem_append_right _ (.tail _ (.tail _ (.head _))) | exact List.mem_append_right _ (.tail _ (.tail _ (.tail _ (.head _)))) | exact .tail _ (List.mem_append_right _ (.head _)) | exact .tail _ (List.mem_append_right _ (.tail _ (.head _))) | exact .tail _ (List.mem_append_right _ (.tail _ (.tail _ (.head _)))) | exact .tail _ (List.mem_append_right _ (.tail _ (.tail _ (.tail _ (.head _))))) | exact .tail _ (.tail _ (List.mem_append_right _ (.head _))) | exact .tail _ (.tail _ (List.mem_append_right _ (.tail _ (.head _)))) | exact .tail _ (.tail _ (List.mem_append_right _ (.tail _ (.tail _ (.head _))))) | exact .tail _ (.tail _ (List.mem_append_right _ (.tail _ (.tail _ (.tail _ (.head _))))))) (by rfl)) ?_; simp only [Act.put, List.setIfInBounds_toArray, List.set_cons_succ, List.set_cons_zero]) | (refine wpl_alloc hL rfl _ rfl _ z_8 ?_; clear hL; intro bv w hL; simp only [Act.put, List.setIfInBounds_toArray, List.set_cons_succ, List.set_cons_zero]) | (refine wpl_strow hL rfl _ _ _ rfl _ rfl _ rfl _ s_8 _ rfl _ _ _ (by first | exact .here | exact .there .here | exact .there (.there .here) | exact .there (.there (.there .here)) | exact .there (.there (.there (.there .here))) | exact .pre (.here) | exact .pre (.there .here) | exact .pre (.there (.there .here))) (by repeat (first | exact all1_nil | refine all1_cons rfl ?_)) (by rfl) (by rfl) ?_; clear hL; intro w hL; simp only [Act.put, List.setIfInBounds_toArray, List.set_cons_succ, List.set_cons_zero]))
      go_loopw [8] (fun i wr => ∃ (t : Nat) (r : St), t ≤ 64 ∧ i = .int .i64 t ∧ Hid (r = rounds bs s t) ∧ Sees w0 wr [⟨bv, 50, r.v8⟩, ⟨bw, 73, rowF 64 fun j => W32 (wv bs j)⟩, ⟨g, 5, bytesV m ++ rest⟩, ⟨b8, 50, s.v8⟩, ⟨br, 47, rowF 32 fun _ => .int .u8 0⟩]) (fun i _ => 64 - (intOf i).toNat)
      case atStart => exact ⟨0, s, Nat.zero_le _, rfl, Lib.hid rfl, hL⟩
      case round =>
        clear hL
        obtain ⟨t, r, ht, rfl, hr, hL⟩ := hrel
        by_cases hlt : t < 64
        · go_wp2
          refine wp_region_lex [(.val, _), (.old, _), (.val, _), (.old, _), (.ext, _), (.val, _), (.old, _), (.ext, _), (.val, _), (.val, _), (.old, _), (.ext, _), (.val, _), (.val, _), (.val, _), (.old, _), (.val, _), (.old, _), (.val, _), (.val, _), (.old, _), (.val, _), (.val, _), (.old, _), (.val, _), (.val, _), (.val, _), (.val, _), (.val, _), (.old, _), (.val, _), (.val, _), (.val, _), (.old, _), (.val, _), (.val, _)] rfl mixed (by kernel_rfl) ?_
          replace hL := hL.drew
          have hI := hL
          have hS : Since wr.drew wr.drew := Below.refl _ _
          have hG := tabR_cell (hT.since hL) t hlt
          repeat (first | (refine wpLex_old rfl hS _ (fun w2 hS2 => run_load_plain rfl p_u32 rfl (hG w2 hS2)) ?_; simp only [Act.put, List.setIfInBounds_toArray, List.set_cons_succ, List.set_cons_zero]) | (refine wpLex_old rfl hS _ (fun w2 hS2 => run_load_plain rfl p_u32 rfl ((hI.call hS2).at (by first | exact .head _ | exact .tail _ (.head _) | exact .tail _ (.tail _ (.head _)) | exact .tail _ (.tail _ (.tail _ (.head _))) | exact .tail _ (.tail _ (.tail _ (.tail _ (.head _)))) | exact .tail _ (.tail _ (.tail _ (.tail _ (.tail _ (.head _))))) | exact List.mem_append_right _ (.head _) | exact List.mem_append_right _ (.tail _ (.head _)) | exact List.mem_append_right _ (.tail _ (.tail _ (.head _))) | exact List.mem_append_right _ (.tail _ (.tail _ (.tail _ (.head _)))) | exact .tail _ (List.mem_append_right _ (.head _)) | exact .tail _ (List.mem_append_right _ (.tail _ (.head _))) | exact .tail _ (List.mem_append_right _ (.tail _ (.tail _ (.head _)))) | exact .tail _ (List.mem_append_right _ (.tail _ (.tail _ (.tail _ (.head _))))) | exact .tail _ (.tail _ (List.mem_append_right _ (.head _))) | exact .tail _ (.tail _ (List.mem_append_right _ (.tail _ (.head _)))) | exact .tail _ (.tail _ (List.mem_append_right _ (.tail _ (.tail _ (.head _))))) | exact .tail _ (.tail _ (List.mem_append_right _ (.tail _ (.tail _ (.tail _ (.head _))))))) (rowF_at 64 _ t hlt))) ?_; simp only [Act.put, List.setIfInBounds_toArray, List.set_cons_succ, List.set_cons_zero]) | (refine wpLex_old rfl hS _ (fun w2 hS2 => run_load_plain rfl p_u32 rfl ((hI.call hS2).at (by first | exact .head _ | exact .tail _ (.head _) | exact .tail _ (.tail _ (.head _)) | exact .tail _ (.tail _ (.tail _ (.head _))) | exact .tail _ (.tail _ (.tail _ (.tail _ (.head _)))) | exact .tail _ (.tail _ (.tail _ (.tail _ (.tail _ (.head _))))) | exact List.mem_append_right _ (.head _) | exact List.mem_append_right _ (.tail _ (.head _)) | exact List.mem_append_right _ (.tail _ (.tail _ (.head _))) | exact List.mem_append_right _ (.tail _ (.tail _ (.tail _ (.head _)))) | exact .tail _ (List.mem_append_right _ (.head _)) | exact .tail _ (List.mem_append_right _ (.tail _ (.head _))) | exact .tail _ (List.mem_append_right _ (.tail _ (.tail _ (.head _)))) | exact .tail _ (List.mem_append_right _ (.tail _ (.tail _ (.tail _ (.head _))))) | exact .tail _ (.tail _ (List.mem_append_right _ (.head _))) | exact .tail _ (.tail _ (List.mem_append_right _ (.tail _ (.head _)))) | exact .tail _ (.tail _ (List.mem_append_right _ (.tail _ (.tail _ (.head _))))) | exact .tail _ (.tail _ (List.mem_append_right _ (.tail _ (.tail _ (.tail _ (.head _))))))) (by rfl))) ?_; simp only [Act.put, List.setIfInBounds_toArray, List.set_cons_succ, List.set_cons_zero]) | (refine xx_call en_refrotr rfl hS rfl rfl rfl (refrotr_any _ _ _ (by decide) (by decide)) ?_; rintro e w ⟨rfl, hb⟩; replace hS := hS.trans (hb.mono hS.size); refine ⟨_, rfl, hS, ?_⟩; replace hL := hL.call hb; clear hb; simp only [Act.put, List.setIfInBounds_toArray, List.set_cons_succ, List.set_cons_zero]) | (refine wpLex_val rfl _ (fun w2 => by (go_simp; (try simp only [w32_and, w32_xor, w32_ffff, w32_add, w32_addm]); (try rfl))) ?_; simp only [Act.put, List.setIfInBounds_toArray, List.set_cons_succ, List.set_cons_zero]))
          refine wpLex_nil ?_
          obtain ⟨X, hX⟩ : ∃ X, X = r.x (kc t) (wv bs t) := ⟨_, rfl⟩
          rw [show r.h + (rotr r.e 6 ^^^ rotr r.e 11 ^^^ rotr r.e 25) + (r.e &&& r.f ^^^ ~~~r.e &&& r.g) + kc t + wv bs t = X from hX.symm]
          have HX := Lib.hid hX
          clear hX hS hI hG
          go_wp2
          refine wp_region_lex [(.val, _), (.old, _), (.ext, _), (.val, _), (.old, _), (.ext, _), (.val, _), (.val, _), (.old, _), (.ext, _), (.val, _), (.val, _), (.old, _), (.val, _), (.old, _), (.val, _), (.val, _), (.old, _), (.val, _), (.old, _), (.val, _), (.val, _), (.val, _), (.old, _), (.val, _), (.old, _), (.val, _), (.val, _), (.val, _), (.val, _)] rfl mixed (by kernel_rfl) ?_
          replace hL := hL.drew
          have hI := hL
          have hS : Since w.drew w.drew := Below.refl _ _
          repeat (first | (refine wpLex_old rfl hS _ (fun w2 hS2 => run_load_plain rfl p_u32 rfl ((hI.call hS2).at (by first | exact .head _ | exact .tail _ (.head _) | exact .tail _ (.tail _ (.head _)) | exact .tail _ (.tail _ (.tail _ (.head _))) | exact .tail _ (.tail _ (.tail _ (.tail _ (.head _)))) | exact .tail _ (.tail _ (.tail _ (.tail _ (.tail _ (.head _))))) | exact List.mem_append_right _ (.head _) | exact List.mem_append_right _ (.tail _ (.head _)) | exact List.mem_append_right _ (.tail _ (.tail _ (.head _))) | exact List.mem_append_right _ (.tail _ (.tail _ (.tail _ (.head _)))) | exact .tail _ (List.mem_append_right _ (.head _)) | exact .tail _ (List.mem_append_right _ (.tail _ (.head _))) | exact .tail _ (List.mem_append_right _ (.tail _ (.tail _ (.head _)))) | exact .tail _ (List.mem_append_right _ (.tail _ (.tail _ (.tail _ (.head _))))) | exact .tail _ (.tail _ (List.mem_append_right _ (.head _))) | exact .tail _ (.tail _ (List.mem_append_right _ (.tail _ (.head _)))) | exact .tail _ (.tail _ (List.mem_append_right _ (.tail _ (.tail _ (.head _))))) | exact .tail _ (.tail _ (List.mem_append_right _ (.tail _ (.tail _ (.tail _ (.head _))))))) (by rfl))) ?_; simp only [Act.put, List.setIfInBounds_toArray, List.set_cons_succ, List.set_cons_zero]) | (refine xx_call en_refrotr rfl hS rfl rfl rfl (refrotr_any _ _ _ (by decide) (by decide)) ?_; rintro e w ⟨rfl, hb⟩; replace hS := hS.trans (hb.mono hS.size); refine ⟨_, rfl, hS, ?_⟩; replace hL := hL.call hb; clear hb; simp only [Act.put, List.setIfInBounds_toArray, List.set_cons_succ, List.set_cons_zero]) | (refine wpLex_val rfl _ (fun w2 => by (go_simp; (try simp only [w32_and, w32_xor, w32_add, w32_addm]); (try rfl))) ?_; simp only [Act.put, List.setIfInBounds_toArray, List.set_cons_succ, List.set_cons_zero]))
          refine wpLex_nil ?_
          obtain ⟨Y, hY⟩ : ∃ Y, Y = r.y := ⟨_, rfl⟩
          rw [show (rotr r.a 2 ^^^ rotr r.a 13 ^^^ rotr r.a 22) + (r.a &&& r.b ^^^ r.a &&& r.c ^^^ r.b &&& r.c) = Y from hY.symm]
          have HY := Lib.hid hY
          clear hY hS hI
          go_wp2_with (first | (refine wpl_run rfl (run_load_plain rfl p_u32 rfl (hL.at (by first | exact .head _ | exact .tail _ (.head _) | exact .tail _ (.tail _ (.head _)) | exact .tail _ (.tail _ (.tail _ (.head _))) | exact .tail _ (.tail _ (.tail _ (.tail _ (.head _)))) | exact .tail _ (.tail _ (.tail _ (.tail _ (.tail _ (.head _))))) | exact List.mem_append_right _ (.head _) | exact List.mem_append_right _ (.tail _ (.head _)) | exact List.mem_append_right _ (.tail _ (.tail _ (.head _))) | exact List.mem_append_right _ (.tail _ (.tail _ (.tail _ (.head _)))) | exact .tail _ (List.mem_append_right _ (.head _)) | exact .tail _ (List.mem_append_right _ (.tail _ (.head _))) | exact .tail _ (List.mem_append_right _ (.tail _ (.tail _ (.head _)))) | exact .tail _ (List.mem_append_right _ (.tail _ (.tail _ (.tail _ (.head _))))) | exact .tail _ (.tail _ (List.mem_append_right _ (.head _))) | exact .tail _ (.tail _ (List.mem_append_right _ (.tail _ (.head _)))) | exact .tail _ (.tail _ (List.mem_append_right _ (.tail _ (.tail _ (.head _))))) | exact .tail _ (.tail _ (List.mem_append_right _ (.tail _ (.tail _ (.tail _ (.head _))))))) (by rfl))) ?_; simp only [Act.put, List.setIfInBounds_toArray, List.set_cons_succ, List.set_cons_zero]) | (refine wpl_strow hL rfl _ _ _ rfl _ rfl _ rfl _ s_8 _ rfl _ _ _ (by first | exact .here | exact .there .here | exact .there (.there .here) | exact .there (.there (.there .here)) | exact .there (.there (.there (.there .here))) | exact .pre (.here) | exact .pre (.there .here) | exact .pre (.there (.there .here))) (by repeat (first | exact all1_nil | refine all1_cons rfl ?_)) (by rfl) (by rfl) ?_; clear hL; intro w hL; simp only [Act.put, List.setIfInBounds_toArray, List.set_cons_succ, List.set_cons_zero]))
          rw [w32_addm r.d X, w32_addm X Y] at hL
          go_roundw
          case rel =>
            refine ⟨t + 1, r.rnd (kc t) (wv bs t), by omega, by rfl, Lib.hid (by rw [hr.out]; rfl), ?_⟩
            have e1 := HX.out
            have e2 := HY.out
            subst e1; subst e2
            exact hL
          case measure => simp [intOf]; omega
        · obtain rfl : t = 64 := by omega
          go_wp2
          rw [v8_eq, v8_eq] at hL
          go_loopw [11] (fun i wr => ∃ (q : Nat) (f : Nat → BitVec 32), q ≤ 8 ∧ i = .int .i64 q ∧ Hid (∀ j, f j = if j < q then s.at j + r.at j else s.at j) ∧ Sees w0 wr [⟨bv, 50, rowF 8 fun j => W32 (r.at j)⟩, ⟨bw, 73, rowF 64 fun j => W32 (wv bs j)⟩, ⟨g, 5, bytesV m ++ rest⟩, ⟨b8, 50, rowF 8 fun j => W32 (f j)⟩, ⟨br, 47, rowF 32 fun _ => .int .u8 0⟩]) (fun i _ => 8 - (intOf i).toNat)
          case atStart => exact ⟨0, s.at, by omega, rfl, Lib.hid (fun j => by rw [if_neg (by omega)]), hL⟩
          case round =>
            clear hL
            obtain ⟨p, f, hp, rfl, hf, hL⟩ := hrel
            by_cases hp8 : p < 8
            · have g0 : f p = s.at p := by rw [hf.out p, if_neg (by omega)]
              have G0 := Lib.hid g0
              clear g0
              go_wp2
              refine wp_region_lex [(.val, _), (.val, _), (.val, _), (.calm, _), (.val, _), (.val, _), (.calm, _), (.val, _), (.val, _), (.eff, _)] rfl mixed (by kernel_rfl) ?_
              replace hL := hL.drew
              repeat (first | (refine wpLex_calm rfl _ (run_load_plain rfl p_u32 rfl (hL.at (by first | exact .head _ | exact .tail _ (.head _) | exact .tail _ (.tail _ (.head _)) | exact .tail _ (.tail _ (.tail _ (.head _))) | exact .tail _ (.tail _ (.tail _ (.tail _ (.head _)))) | exact .tail _ (.tail _ (.tail _ (.tail _ (.tail _ (.head _))))) | exact List.mem_append_right _ (.head _) | exact List.mem_append_right _ (.tail _ (.head _)) | exact List.mem_append_right _ (.tail _ (.tail _ (.head _))) | exact List.mem_append_right _ (.tail _ (.tail _ (.tail _ (.head _)))) | exact .tail _ (List.mem_append_right _ (.head _)) | exact .tail _ (List.mem_append_right _ (.tail _ (.head _))) | exact .tail _ (List.mem_append_right _ (.tail _ (.tail _ (.head _)))) | exact .tail _ (List.mem_append_right _ (.tail _ (.tail _ (.tail _ (.head _))))) | exact .tail _ (.tail _ (List.mem_append_right _ (.head _))) | exact .tail _ (.tail _ (List.mem_append_right _ (.tail _ (.head _)))) | exact .tail _ (.tail _ (List.mem_append_right _ (.tail _ (.tail _ (.head _))))) | exact .tail _ (.tail _ (List.mem_append_right _ (.tail _ (.tail _ (.tail _ (.head _))))))) (rowF_at _ _ _ (by omega)))) ?_; simp only [Act.put, List.setIfInBounds_toArray, List.set_cons_succ, List.set_cons_zero]) | (refine x_set1 hL rfl _ _ _ rfl _ _ rfl _ rfl s_u32 rfl rfl _ _ _ _ (by first | exact .here | exact .there .here | exact .there (.there .here) | exact .there (.there (.there .here)) | exact .there (.there (.there (.there .here))) | exact .pre (.here) | exact .pre (.there .here) | exact .pre (.there (.there .here))) (by rw [rowF_len]; omega) (rowF_set 8 _ (fun j => W32 (if j = p then s.at p + r.at p else f j)) p _ (by omega) (by simp only [if_true]; exact congrArg (fun z => W32 (z + r.at p)) G0.out.symm) (fun j _ hne => by simp only [if_neg hne])) ?_; clear hL; intro w hL; simp only [Act.put, List.setIfInBounds_toArray, List.set_cons_succ, List.set_cons_zero]) | (refine wpLex_val rfl _ (fun w2 => by (go_simp; (try simp only [w32_add, w32_addm]); (try rfl))) ?_; simp only [Act.put, List.setIfInBounds_toArray, List.set_cons_succ, List.set_cons_zero]))
              refine wpLex_nil ?_
              go_wp2
              go_roundw
              case rel =>
                refine ⟨p + 1, fun j => if j = p then s.at p + r.at p else f j, by omega, by rfl, Lib.hid (fun j => ?_), hL⟩
                by_cases h : j = p
                · simp only [if_pos h]; rw [if_pos (by omega), h]
                · simp only [if_neg h]; rw [hf.out j]
                  by_cases h2 : j < p
                  · rw [if_pos h2, if_pos (by omega)]
                  · rw [if_neg h2, if_neg (by omega)]
              case measure => simp [intOf]; omega
            · obtain rfl : p = 8 := by omega
              go_wp2
              go_roundw
              case rel =>
                refine ⟨q + 1, a + 64, Lib.hid (by rw [ha.out]; omega), by omega, by rfl, ?_⟩
                have e1 : (chunks s0 m (q + 1)).v8 = rowF 8 fun j => W32 (f j) := by
                  show (compr (chunks s0 m q) ((m.drop (64 * q)).take 64)).v8 = _
                  rw [v8_eq, ← ha.out, ← HB.out, ← HSt.out]
                  exact rowF_congr 8 _ _ (fun j hj => by
                    simp only [hf.out j]
                    rw [if_pos hj]
                    show W32 ((s.add (rounds bs s 64)).at j) = _
                    rw [add_at _ _ _ hj, hr.out])
                rw [e1]
                exact hL.forget (.cons _ (.cons _ (List.Sublist.refl _)))
              case measure => simp [intOf]; omega
    · obtain rfl : a = N := by omega
      have hso : Hid (outV (chunks s0 (l ++ padL l.length) ((l ++ padL l.length).length / 64)) = outV s) := Lib.hid (by
        rw [← HM.out, ← HN.out, HSt.out]
        congr 2
        have := ha.out; omega)
      clear hlt haN hNc2 hNc
      go_wp2_with (first | (refine wpl_alloc hL rfl _ rfl _ z_32 ?_; clear hL; intro bo w hL; simp only [Act.put, List.setIfInBounds_toArray, List.set_cons_succ, List.set_cons_zero]))
      go_loopw [13] (fun i wr => ∃ (q : Nat) (f : Nat → Int), q ≤ 32 ∧ i = .int .i64 q ∧ Hid (∀ j, f j = if j < q then outB s j else 0) ∧
        Sees w0 wr [⟨bo, 47, rowF 32 fun j => .int .u8 (f j)⟩, ⟨g, 5, bytesV m ++ rest⟩, ⟨b8, 50, s.v8⟩, ⟨br, 47, rowF 32 fun _ => .int .u8 0⟩]) (fun i _ => 32 - (intOf i).toNat)
      case atStart => exact ⟨0, fun _ => 0, by decide, rfl, Lib.hid (fun j => by simp), hL⟩
      case round =>
        clear hL
        obtain ⟨q, f, hq32, rfl, hf, hL⟩ := hrel
        by_cases hq' : q < 32
        · obtain ⟨D, hD0, hD1, HD⟩ : ∃ D : Nat, 0 ≤ (D : Int) ∧ (D : Int) < 8 ∧ Hid (D = q / 4) := ⟨q / 4, by omega, by omega, Lib.hid rfl⟩
          obtain ⟨E, hE0, hE1, HE⟩ : ∃ E : Nat, 0 ≤ (E : Int) ∧ (E : Int) < 4 ∧ Hid (E = q % 4) := ⟨q % 4, by omega, by omega, Lib.hid rfl⟩
          have d1 : (q : Int).tdiv 4 = (D : Int) := by rw [Int.tdiv_eq_ediv_of_nonneg (by omega), HD.out]; omega
          have d2 : (q : Int) / 4 = (D : Int) := by rw [HD.out]; omega
          have e1 : (q : Int).tmod 4 = (E : Int) := by rw [Int.tmod_eq_emod_of_nonneg (by omega), HE.out]; omega
          have e2 : (q : Int) % 4 = (E : Int) := by rw [HE.out]; omega
          obtain ⟨S, hS0, hS1, HS⟩ : ∃ S : Int, 0 ≤ S ∧ S ≤ 24 ∧ Hid (S = 24 - 8 * (E : Int)) := ⟨24 - 8 * (E : Int), by omega, by omega, Lib.hid rfl⟩
          have eS : (24 : Int) - 8 * (E : Int) = S := HS.out.symm
          have hD8 : D < 8 := by omega
          have hval : Hid (Value.int IntKind.u8 (outB s q) = Value.int IntKind.u8 (w32 (s.at D) / 2 ^ S.toNat % 256)) := Lib.hid (by
            unfold outB
            rw [← HD.out, ← HE.out, show S.toNat = 24 - 8 * E from by rw [HS.out]; omega])
          rw [v8_eq] at hL
          go_wp2_with (first | (refine wpl_run rfl (run_load_plain rfl p_u32 rfl (hL.at (by first | exact .head _ | exact .tail _ (.head _) | exact .tail _ (.tail _ (.head _)) | exact .tail _ (.tail _ (.tail _ (.head _))) | exact .tail _ (.tail _ (.tail _ (.tail _ (.head _)))) | exact .tail _ (.tail _ (.tail _ (.tail _ (.tail _ (.head _))))) | exact List.mem_append_right _ (.head _) | exact List.mem_append_right _ (.tail _ (.head _)) | exact List.mem_append_right _ (.tail _ (.tail _ (.head _))) | exact List.mem_append_right _ (.tail _ (.tail _ (.tail _ (.head _)))) | exact .tail _ (List.mem_append_right _ (.head _)) | exact .tail _ (List.mem_append_right _ (.tail _ (.head _))) | exact .tail _ (List.mem_append_right _ (.tail _ (.tail _ (.head _)))) | exact .tail _ (List.mem_append_right _ (.tail _ (.tail _ (.tail _ (.head _))))) | exact .tail _ (.tail _ (List.mem_append_right _ (.head _))) | exact .tail _ (.tail _ (List.mem_append_right _ (.tail _ (.head _)))) | exact .tail _ (.tail _ (List.mem_append_right _ (.tail _ (.tail _ (.head _))))) | exact .tail _ (.tail _ (List.mem_append_right _ (.tail _ (.tail _ (.tail _ (.head _))))))) (rowF_at 8 _ _ hD8))) ?_; simp only [Act.put, List.setIfInBounds_toArray, List.set_cons_succ, List.set_cons_zero]) | (refine wpl_set1 hL rfl _ _ _ rfl _ _ rfl _ rfl s_u8 rfl rfl _ _ _ _ (by first | exact .here | exact .there .here | exact .there (.there .here) | exact .there (.there (.there .here)) | exact .there (.there (.there (.there .here))) | exact .pre (.here) | exact .pre (.there .here) | exact .pre (.there (.there .here))) (by rw [rowF_len]; exact hq') (rowF_set 32 _ (fun j => .int .u8 (if j = q then outB s q else f j)) q _ hq' (by simp only [if_true]; exact hval.out) (fun j _ hne => by simp only [if_neg hne])) ?_; clear hL; intro w hL; simp only [Act.put, List.setIfInBounds_toArray, List.set_cons_succ, List.set_cons_zero]))
          rw [← v8_eq] at hL
          refine ⟨⟨q + 1, fun j => if j = q then outB s q else f j, by omega, rfl, Lib.hid (fun j => ?_), hL⟩, ?_⟩
          · by_cases h : j = q
            · simp only [if_pos h]; rw [if_pos (by omega), h]
            · simp only [if_neg h]; rw [hf.out j]
              by_cases h2 : j < q
              · rw [if_pos h2, if_pos (by omega)]
              · rw [if_neg h2, if_neg (by omega)]
          · simp [intOf]; omega
        · obtain rfl : q = 32 := by omega
          go_wp2_with (first | (refine wpl_run rfl (run_load_row hL rfl a_32 rfl (by first | exact .head _ | exact .tail _ (.head _) | exact .tail _ (.tail _ (.head _)) | exact .tail _ (.tail _ (.tail _ (.head _))) | exact .tail _ (.tail _ (.tail _ (.tail _ (.head _)))) | exact .tail _ (.tail _ (.tail _ (.tail _ (.tail _ (.head _))))) | exact List.mem_append_right _ (.head _) | exact List.mem_append_right _ (.tail _ (.head _)) | exact List.mem_append_right _ (.tail _ (.tail _ (.head _))) | exact List.mem_append_right _ (.tail _ (.tail _ (.tail _ (.head _)))) | exact .tail _ (List.mem_append_right _ (.head _)) | exact .tail _ (List.mem_append_right _ (.tail _ (.head _))) | exact .tail _ (List.mem_append_right _ (.tail _ (.tail _ (.head _)))) | exact .tail _ (List.mem_append_right _ (.tail _ (.tail _ (.tail _ (.head _))))) | exact .tail _ (.tail _ (List.mem_append_right _ (.head _))) | exact .tail _ (.tail _ (List.mem_append_right _ (.tail _ (.head _)))) | exact .tail _ (.tail _ (List.mem_append_right _ (.tail _ (.tail _ (.head _))))) | exact .tail _ (.tail _ (List.mem_append_right _ (.tail _ (.tail _ (.tail _ (.head _))))))) (by rfl)) ?_; simp only [Act.put, List.setIfInBounds_toArray, List.set_cons_succ, List.set_cons_zero]) | (refine wpl_strow hL rfl _ _ _ rfl _ rfl _ rfl _ s_32 _ rfl _ _ _ (by first | exact .here | exact .there .here | exact .there (.there .here) | exact .there (.there (.there .here)) | exact .there (.there (.there (.there .here))) | exact .pre (.here) | exact .pre (.there .here) | exact .pre (.there (.there .here))) (rowF_one _ _ fun _ => rfl) (by rfl) (by rfl) ?_; clear hL; intro w hL; simp only [Act.put, List.setIfInBounds_toArray, List.set_cons_succ, List.set_cons_zero]))
          refine bodyPost_cell rfl a_32 rfl rfl hL (by first | exact .head _ | exact .tail _ (.head _) | exact .tail _ (.tail _ (.head _)) | exact .tail _ (.tail _ (.tail _ (.head _))) | exact .tail _ (.tail _ (.tail _ (.tail _ (.head _)))) | exact .tail _ (.tail _ (.tail _ (.tail _ (.tail _ (.head _))))) | exact List.mem_append_right _ (.head _) | exact List.mem_append_right _ (.tail _ (.head _)) | exact List.mem_append_right _ (.tail _ (.tail _ (.head _))) | exact List.mem_append_right _ (.tail _ (.tail _ (.tail _ (.head _)))) | exact .tail _ (List.mem_append_right _ (.head _)) | exact .tail _ (List.mem_append_right _ (.tail _ (.head _))) | exact .tail _ (List.mem_append_right _ (.tail _ (.tail _ (.head _)))) | exact .tail _ (List.mem_append_right _ (.tail _ (.tail _ (.tail _ (.head _))))) | exact .tail _ (.tail _ (List.mem_append_right _ (.head _))) | exact .tail _ (.tail _ (List.mem_append_right _ (.tail _ (.head _)))) | exact .tail _ (.tail _ (List.mem_append_right _ (.tail _ (.tail _ (.head _))))) | exact .tail _ (.tail _ (List.mem_append_right _ (.tail _ (.tail _ (.tail _ (.head _))))))) (rowF_len _ _) ⟨?_, hL.below⟩
          rw [hso.out]
          unfold outV
          rw [rowF_congr 32 (fun j => .int .u8 (f j)) (fun j => .int .u8 (outB s j)) (fun j hj => by simp only [hf.out j, if_pos hj])]
theorem en_refsum : enterable Tryd.prog 30 = true := by kernel_rfl
end Go.Proofs.YtkkmkfkgmioblaaDoor
