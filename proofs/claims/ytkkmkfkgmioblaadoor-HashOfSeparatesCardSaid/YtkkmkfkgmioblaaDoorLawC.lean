/- The laws of the hash chapter over streams: the check's. -/
import Derived.Test.YtkkmkfkgmioblaaDoorLawB
set_option linter.unusedVariables false
set_option linter.unusedSimpArgs false
namespace Go.Proofs.YtkkmkfkgmioblaaDoor
open Go Go.RowKit Go.Lx CrcMath Go.Proofs.YtkkmkfkgmioblaaDoorW.PrintWords
attribute [local irreducible] Calls

theorem addB_app (r : BitVec 40) (a b : List UInt8) : addB r (a ++ b) = addB (addB r a) b := by unfold addB; rw [List.foldl_append]
theorem addB_cat (l : List ByteArray) (k : Nat) (h : k < l.length) : addB (BitVec.allOnes 40) (cat (l.take (k + 1))) = addB (addB (BitVec.allOnes 40) (cat (l.take k))) (l[k]).data.toList := by
  rw [cat_succ l k h, addB_app]
theorem rd_take {w : World} {a : Option Addr} {c : Nat} {l : List ByteArray} (h : Rd w (.slice a l.length c) l.length 1 (strV l)) (k : Nat) (hk : k ≤ l.length) : Rd w (.slice a k c) (l.take k).length 1 (strV (l.take k)) := by
  obtain ⟨⟨a', cap, e, hc⟩, hn⟩ := h
  cases e
  refine ⟨⟨a, c, by rw [List.length_take]; congr 1; omega, fun hne => ?_⟩, by simp [strV]⟩
  have hne' : strV l ≠ [] := by
    intro h0
    apply hne
    have := congrArg List.length h0
    simp [strV] at this ⊢
    simp [this]
  obtain ⟨ad, e1, e2⟩ := hc hne'
  refine ⟨ad, e1, fun j x hj => e2 j x ?_⟩
  have hjl : j < k := by
    have := (List.getElem?_eq_some_iff.1 hj).1
    simp [strV] at this
    omega
  unfold strV at hj ⊢
  rw [List.map_take, List.getElem?_take] at hj
  simpa [hjl] using hj

set_option maxHeartbeats 4000000 in
theorem crcstreams_any (a : Option Addr) (cap : Nat) (l : List ByteArray) (o : ByteArray) (at_ : Int) (w0 : World) (hR0 : Rd w0 (.slice a l.length cap) l.length 1 (strV l)) (hl : l.length ≤ 9223372036854775807) (hcap : l.length ≤ cap) (ha : 0 ≤ at_ ∧ at_ ≤ 255) (ho : o.size ≤ 9223372036854775807) (hT : Tab w0) :
    Calls Tryd.prog 4 #[.slice a l.length cap, .string o, .int .u8 at_] w0 fun e w' => e = .returned (.bool true) ∧ Below w0.heap.size w0 w' := by
  have hR := hR0
  obtain ⟨⟨a', cap', e0, hcells⟩, -⟩ := hR0
  cases e0
  have hL := Sees.refl w0
  obtain ⟨K, hK, hK2⟩ : ∃ K : Nat, at_ % ((l.length : Int) + 1) = (K : Int) ∧ K ≤ l.length := by
    have h1 := Int.emod_nonneg at_ (show ((l.length : Int) + 1) ≠ 0 by omega)
    have h2 := Int.emod_lt_of_pos at_ (show 0 < ((l.length : Int) + 1) by omega)
    exact ⟨(at_ % ((l.length : Int) + 1)).toNat, by omega, by omega⟩
  by_cases hF : fewB l = true
  · obtain ⟨h12, hs⟩ := fewB_true hF
    by_cases h4 : o.size ≤ 400
    · have t1 : decide ((o.size : Int) > 400) = false := by simp; omega
      have t2 : decide ((400 : Int) < (o.size : Int)) = false := by simp; omega
      have t3 : decide (400 < o.size) = false := by simp; omega
      have hfew := fun w (hL : Sees w0 w []) => few_any _ l w (hR.sees hL) (by omega)
      rw [hF] at hfew
      clear hF
      go_enter Tryd.func4, Tryd.ntmps4
      go_wp2_with (first | (go_at_call 15; refine (sanity_any _ (hT.since hL)).mono ?_; rintro e w ⟨rfl, hb⟩; replace hL := hL.call hb; clear hb) | (go_at_call 18; refine (hfew _ hL).mono ?_; rintro e w ⟨rfl, rfl⟩) | (go_at_call 19; refine (beginCrc_any _).mono ?_; rintro e w ⟨rfl, hb⟩; replace hL := hL.call hb; clear hb) | (refine wpl_alloc hL rfl _ rfl _ z_crc ?_; clear hL; intro b w hL; simp only [Act.put, List.setIfInBounds_toArray, List.set_cons_succ, List.set_cons_zero]) | (refine wpl_strow hL rfl _ _ _ rfl _ rfl _ rfl _ s_crc _ rfl _ _ _ (by first | exact .here | exact .there .here | exact .there (.there .here) | exact .there (.there (.there .here)) | exact .there (.there (.there (.there .here))) | exact .pre (.here) | exact .pre (.there .here) | exact .pre (.there (.there .here))) (by repeat (first | exact all1_nil | refine all1_cons rfl ?_)) (by rfl) (by rfl) ?_; clear hL; intro w hL; simp only [Act.put, List.setIfInBounds_toArray, List.set_cons_succ, List.set_cons_zero]))
      obtain ⟨bc, rfl⟩ : ∃ bc, bc = b := ⟨_, rfl⟩
      go_loopw [10] (fun i wr => ∃ k : Nat, k ≤ K ∧ i = .int .i64 k ∧ Sees w0 wr [⟨bc, 30, [reg (addB (BitVec.allOnes 40) (cat (l.take k)))]⟩]) (fun i _ => K - (intOf i).toNat)
      case atStart => exact ⟨0, Nat.zero_le _, rfl, hL⟩
      case round =>
        clear hL
        obtain ⟨k, hk, rfl, hL⟩ := hrel
        generalize hr : addB (BitVec.allOnes 40) (cat (l.take k)) = r at hL
        have HR := Lib.hid hr
        clear hr
        by_cases hlt : k < K
        · have hlt' : k < l.length := by omega
          obtain ⟨ad, rfl, hcc⟩ := hcells (by intro h; have := congrArg List.length h; simp [strV] at this; subst this; simp at hlt')
          have hc1 := hcc k _ (strV_at l k hlt')
          generalize hx : l[k] = x at hc1
          have hxs : x.size ≤ 400 := by rw [← hx]; exact hs _ (List.getElem_mem _)
          have HX := Lib.hid hx
          clear hx
          go_wp2
          refine wp_region_lex [(.calm, _), (.val, _), (.val, _), (.val, _), (.calm, _), (.eff, _), (.eff, _)] rfl mixed (by kernel_rfl) ?_
          replace hL := hL.drew
          repeat (first | (refine wpLex_calm rfl _ (run_load_row hL rfl a_crc rfl (by first | exact .head _ | exact .tail _ (.head _) | exact .tail _ (.tail _ (.head _)) | exact .tail _ (.tail _ (.tail _ (.head _))) | exact .tail _ (.tail _ (.tail _ (.tail _ (.head _)))) | exact .tail _ (.tail _ (.tail _ (.tail _ (.tail _ (.head _))))) | exact List.mem_append_right _ (.head _) | exact List.mem_append_right _ (.tail _ (.head _)) | exact List.mem_append_right _ (.tail _ (.tail _ (.head _))) | exact List.mem_append_right _ (.tail _ (.tail _ (.tail _ (.head _)))) | exact .tail _ (List.mem_append_right _ (.head _)) | exact .tail _ (List.mem_append_right _ (.tail _ (.head _))) | exact .tail _ (List.mem_append_right _ (.tail _ (.tail _ (.head _)))) | exact .tail _ (List.mem_append_right _ (.tail _ (.tail _ (.tail _ (.head _))))) | exact .tail _ (.tail _ (List.mem_append_right _ (.head _))) | exact .tail _ (.tail _ (List.mem_append_right _ (.tail _ (.head _)))) | exact .tail _ (.tail _ (List.mem_append_right _ (.tail _ (.tail _ (.head _))))) | exact .tail _ (.tail _ (List.mem_append_right _ (.tail _ (.tail _ (.tail _ (.head _))))))) (by rfl)) ?_; simp only [Act.put, List.setIfInBounds_toArray, List.set_cons_succ, List.set_cons_zero]) | (refine wpLex_calm rfl _ (run_load_plain rfl p_str rfl (hL.old hc1)) ?_; simp only [Act.put, List.setIfInBounds_toArray, List.set_cons_succ, List.set_cons_zero]) | (refine x_call en_add rfl rfl rfl rfl (add_any r x _ (by omega) (hT.since hL)) ?_; rintro e w ⟨rfl, hb⟩; refine ⟨_, rfl, ?_⟩; replace hL := hL.call hb; clear hb; simp only [Act.put, List.setIfInBounds_toArray, List.set_cons_succ, List.set_cons_zero]) | (refine x_strow hL rfl _ _ _ rfl _ rfl _ rfl _ s_crc _ rfl _ _ _ (by first | exact .here | exact .there .here | exact .there (.there .here) | exact .there (.there (.there .here)) | exact .there (.there (.there (.there .here))) | exact .pre (.here) | exact .pre (.there .here) | exact .pre (.there (.there .here))) (by repeat (first | exact all1_nil | refine all1_cons rfl ?_)) (by rfl) (by rfl) ?_; clear hL; intro w hL; simp only [Act.put, List.setIfInBounds_toArray, List.set_cons_succ, List.set_cons_zero]) | (refine wpLex_val rfl _ (fun w2 => by (go_simp; try rfl)) ?_; simp only [Act.put, List.setIfInBounds_toArray, List.set_cons_succ, List.set_cons_zero]))
          refine wpLex_nil ?_
          go_wp2
          refine ⟨⟨k + 1, by omega, rfl, ?_⟩, ?_⟩
          · rw [addB_cat l k hlt', HR.out, HX.out]; exact hL
          · simp [intOf]; omega
        · obtain rfl : k = K := by omega
          go_wp2_with (first | (refine wpl_run rfl (run_load_row hL rfl a_crc rfl (by first | exact .head _ | exact .tail _ (.head _) | exact .tail _ (.tail _ (.head _)) | exact .tail _ (.tail _ (.tail _ (.head _))) | exact .tail _ (.tail _ (.tail _ (.tail _ (.head _)))) | exact .tail _ (.tail _ (.tail _ (.tail _ (.tail _ (.head _))))) | exact List.mem_append_right _ (.head _) | exact List.mem_append_right _ (.tail _ (.head _)) | exact List.mem_append_right _ (.tail _ (.tail _ (.head _))) | exact List.mem_append_right _ (.tail _ (.tail _ (.tail _ (.head _)))) | exact .tail _ (List.mem_append_right _ (.head _)) | exact .tail _ (List.mem_append_right _ (.tail _ (.head _))) | exact .tail _ (List.mem_append_right _ (.tail _ (.tail _ (.head _)))) | exact .tail _ (List.mem_append_right _ (.tail _ (.tail _ (.tail _ (.head _))))) | exact .tail _ (.tail _ (List.mem_append_right _ (.head _))) | exact .tail _ (.tail _ (List.mem_append_right _ (.tail _ (.head _)))) | exact .tail _ (.tail _ (List.mem_append_right _ (.tail _ (.tail _ (.head _))))) | exact .tail _ (.tail _ (List.mem_append_right _ (.tail _ (.tail _ (.tail _ (.head _))))))) (by rfl)) ?_; simp only [Act.put, List.setIfInBounds_toArray, List.set_cons_succ, List.set_cons_zero]) | (refine wpl_alloc hL rfl _ rfl _ z_crc ?_; clear hL; intro b w hL; simp only [Act.put, List.setIfInBounds_toArray, List.set_cons_succ, List.set_cons_zero]) | (refine wpl_strow hL rfl _ _ _ rfl _ rfl _ rfl _ s_crc _ rfl _ _ _ (by first | exact .here | exact .there .here | exact .there (.there .here) | exact .there (.there (.there .here)) | exact .there (.there (.there (.there .here))) | exact .pre (.here) | exact .pre (.there .here) | exact .pre (.there (.there .here))) (by repeat (first | exact all1_nil | refine all1_cons rfl ?_)) (by rfl) (by rfl) ?_; clear hL; intro w hL; simp only [Act.put, List.setIfInBounds_toArray, List.set_cons_succ, List.set_cons_zero]))
          obtain ⟨be, rfl⟩ : ∃ be, be = b := ⟨_, rfl⟩
          go_loopw [12] (fun i wr => ∃ k2 : Nat, k2 ≤ l.length ∧ i = .int .i64 k2 ∧ Sees w0 wr [⟨be, 30, [reg r]⟩, ⟨bc, 30, [reg (addB (BitVec.allOnes 40) (cat (l.take k2)))]⟩]) (fun i _ => l.length - (intOf i).toNat)
          case atStart => exact ⟨k, hK2, rfl, by rw [HR.out]; exact hL⟩
          case round =>
            clear hL
            obtain ⟨k2, hk2, rfl, hL⟩ := hrel
            generalize hr2 : addB (BitVec.allOnes 40) (cat (l.take k2)) = r2 at hL
            have HR2 := Lib.hid hr2
            clear hr2
            by_cases hlt2 : k2 < l.length
            · obtain ⟨ad, rfl, hcc⟩ := hcells (by intro h; have := congrArg List.length h; simp [strV] at this; subst this; simp at hlt2)
              have hc1 := hcc k2 _ (strV_at l k2 hlt2)
              generalize hx : l[k2] = x at hc1
              have hxs : x.size ≤ 400 := by rw [← hx]; exact hs _ (List.getElem_mem _)
              have HX := Lib.hid hx
              clear hx
              go_wp2
              refine wp_region_lex [(.calm, _), (.val, _), (.val, _), (.val, _), (.calm, _), (.eff, _), (.eff, _)] rfl mixed (by kernel_rfl) ?_
              replace hL := hL.drew
              repeat (first | (refine wpLex_calm rfl _ (run_load_row hL rfl a_crc rfl (by first | exact .head _ | exact .tail _ (.head _) | exact .tail _ (.tail _ (.head _)) | exact .tail _ (.tail _ (.tail _ (.head _))) | exact .tail _ (.tail _ (.tail _ (.tail _ (.head _)))) | exact .tail _ (.tail _ (.tail _ (.tail _ (.tail _ (.head _))))) | exact List.mem_append_right _ (.head _) | exact List.mem_append_right _ (.tail _ (.head _)) | exact List.mem_append_right _ (.tail _ (.tail _ (.head _))) | exact List.mem_append_right _ (.tail _ (.tail _ (.tail _ (.head _)))) | exact .tail _ (List.mem_append_right _ (.head _)) | exact .tail _ (List.mem_append_right _ (.tail _ (.head _))) | exact .tail _ (List.mem_append_right _ (.tail _ (.tail _ (.head _)))) | exact .tail _ (List.mem_append_right _ (.tail _ (.tail _ (.tail _ (.head _))))) | exact .tail _ (.tail _ (List.mem_append_right _ (.head _))) | exact .tail _ (.tail _ (List.mem_append_right _ (.tail _ (.head _)))) | exact .tail _ (.tail _ (List.mem_append_right _ (.tail _ (.tail _ (.head _))))) | exact .tail _ (.tail _ (List.mem_append_right _ (.tail _ (.tail _ (.tail _ (.head _))))))) (by rfl)) ?_; simp only [Act.put, List.setIfInBounds_toArray, List.set_cons_succ, List.set_cons_zero]) | (refine wpLex_calm rfl _ (run_load_plain rfl p_str rfl (hL.old hc1)) ?_; simp only [Act.put, List.setIfInBounds_toArray, List.set_cons_succ, List.set_cons_zero]) | (refine x_call en_add rfl rfl rfl rfl (add_any r2 x _ (by omega) (hT.since hL)) ?_; rintro e w ⟨rfl, hb⟩; refine ⟨_, rfl, ?_⟩; replace hL := hL.call hb; clear hb; simp only [Act.put, List.setIfInBounds_toArray, List.set_cons_succ, List.set_cons_zero]) | (refine x_strow hL rfl _ _ _ rfl _ rfl _ rfl _ s_crc _ rfl _ _ _ (by first | exact .here | exact .there .here | exact .there (.there .here) | exact .there (.there (.there .here)) | exact .there (.there (.there (.there .here))) | exact .pre (.here) | exact .pre (.there .here) | exact .pre (.there (.there .here))) (by repeat (first | exact all1_nil | refine all1_cons rfl ?_)) (by rfl) (by rfl) ?_; clear hL; intro w hL; simp only [Act.put, List.setIfInBounds_toArray, List.set_cons_succ, List.set_cons_zero]) | (refine wpLex_val rfl _ (fun w2 => by (go_simp; try rfl)) ?_; simp only [Act.put, List.setIfInBounds_toArray, List.set_cons_succ, List.set_cons_zero]))
              refine wpLex_nil ?_
              go_wp2
              refine ⟨⟨k2 + 1, by omega, rfl, ?_⟩, ?_⟩
              · rw [addB_cat l k2 hlt2, HR2.out, HX.out]; exact hL
              · simp [intOf]; omega
            · obtain rfl : k2 = l.length := by omega
              have hR1 : r2 = addB (BitVec.allOnes 40) (cat l) := by rw [← HR2.out, List.take_length]
              obtain ⟨r3, hr3⟩ : ∃ r3, r3 = addB r o.data.toList := ⟨_, rfl⟩
              obtain ⟨W, hW⟩ : ∃ W, W = joinS l := ⟨_, rfl⟩
              obtain ⟨V, hV⟩ : ∃ V, V = joinS (l.take k) := ⟨_, rfl⟩
              have hWs : W.size ≤ 4800 := by
                rw [hW, joinS_size]
                have := cat_len l 400 hs
                omega
              have hVs : V.size ≤ 4800 := by
                rw [hV, joinS_size]
                have := cat_len (l.take k) 400 fun t ht => hs t (List.mem_of_mem_take ht)
                rw [List.length_take] at this
                have : min k l.length ≤ 12 := by omega
                omega
              have hVo : ¬ 9223372036854775807 < V.size + o.size := by omega
              obtain ⟨C1, HC1⟩ : ∃ C1 : Int, Hid (C1 = ((r2 ^^^ BitVec.allOnes 40).toNat : Int)) := ⟨_, Lib.hid rfl⟩
              obtain ⟨C2, HC2⟩ : ∃ C2 : Int, Hid (C2 = ((r ^^^ BitVec.allOnes 40).toNat : Int)) := ⟨_, Lib.hid rfl⟩
              obtain ⟨C3, HC3⟩ : ∃ C3 : Int, Hid (C3 = ((r3 ^^^ BitVec.allOnes 40).toNat : Int)) := ⟨_, Lib.hid rfl⟩
              have hv1 : ∀ w, Calls Tryd.prog 22 #[.agg #[reg r2]] w fun e w' => e = .returned (.int .i64 C1) ∧ Below w.heap.size w w' := fun w => by
                rw [HC1.out]; exact value_any r2 w
              have hv2 : ∀ w, Calls Tryd.prog 22 #[.agg #[reg r]] w fun e w' => e = .returned (.int .i64 C2) ∧ Below w.heap.size w w' := fun w => by
                rw [HC2.out]; exact value_any r w
              have hv3 : ∀ w, Calls Tryd.prog 22 #[.agg #[reg r3]] w fun e w' => e = .returned (.int .i64 C3) ∧ Below w.heap.size w w' := fun w => by
                rw [HC3.out]; exact value_any r3 w
              have hadd : ∀ w, Tab w → Calls Tryd.prog 20 #[.agg #[reg r], .string o] w fun e w' => e = .returned (.agg #[reg r3]) ∧ Below w.heap.size w w' := fun w hT => by
                rw [hr3]; exact add_any r o w (by omega) hT
              have hb1 : ∀ v w, Rd w v W.size 1 (bytesV W.data.toList) → Tab w → Calls Tryd.prog 16 #[v] w fun e w' => e = .returned (.int .i64 C1) ∧ Below w.heap.size w w' := fun v w hR hT => by
                have := crc40_any v W.data.toList w hR (by rw [Array.length_toList]; show W.size ≤ _; omega) hT
                rw [HC1.out, hR1]
                rw [hW] at this
                exact this
              have hb2 : ∀ v w, Rd w v V.size 1 (bytesV V.data.toList) → Tab w → Calls Tryd.prog 16 #[v] w fun e w' => e = .returned (.int .i64 C2) ∧ Below w.heap.size w w' := fun v w hR hT => by
                have := crc40_any v V.data.toList w hR (by rw [Array.length_toList]; show V.size ≤ _; omega) hT
                rw [HC2.out, ← HR.out]
                rw [hV] at this
                exact this
              have hb3 : ∀ v w, Rd w v (V ++ o).size 1 (bytesV (V ++ o).data.toList) → Tab w → Calls Tryd.prog 16 #[v] w fun e w' => e = .returned (.int .i64 C3) ∧ Below w.heap.size w w' := fun v w hR hT => by
                have := crc40_any v (V ++ o).data.toList w hR (by rw [Array.length_toList]; show (V ++ o).size ≤ _; rw [ByteArray.size_append]; omega) hT
                rw [HC3.out, hr3, ← HR.out]
                rw [ByteArray.data_append, Array.toList_append, hV] at this
                unfold crcB at this
                rw [addB_app] at this
                exact this
              have hj1 : ∀ w L, Sees w0 w L → Calls Tryd.prog 21 #[.slice a l.length cap] w fun e w' => e = .returned (.string W) ∧ w' = w := fun w L hL => by
                rw [hW]; exact joined_any _ l w (hR.sees hL) h12 hs
              have hj2 : ∀ w L, Sees w0 w L → Calls Tryd.prog 21 #[.slice a k cap] w fun e w' => e = .returned (.string V) ∧ w' = w := fun w L hL => by
                rw [hV]; exact joined_any _ (l.take k) w (rd_take (hR.sees hL) k hK2) (by rw [List.length_take]; omega) fun t ht => hs t (List.mem_of_mem_take ht)
              clear hW hV hr3 hR1
              go_wp2_with (first | (refine wpl_run rfl (run_load_row hL rfl a_crc rfl (by first | exact .head _ | exact .tail _ (.head _) | exact .tail _ (.tail _ (.head _)) | exact .tail _ (.tail _ (.tail _ (.head _))) | exact .tail _ (.tail _ (.tail _ (.tail _ (.head _)))) | exact .tail _ (.tail _ (.tail _ (.tail _ (.tail _ (.head _))))) | exact List.mem_append_right _ (.head _) | exact List.mem_append_right _ (.tail _ (.head _)) | exact List.mem_append_right _ (.tail _ (.tail _ (.head _))) | exact List.mem_append_right _ (.tail _ (.tail _ (.tail _ (.head _)))) | exact .tail _ (List.mem_append_right _ (.head _)) | exact .tail _ (List.mem_append_right _ (.tail _ (.head _))) | exact .tail _ (List.mem_append_right _ (.tail _ (.tail _ (.head _)))) | exact .tail _ (List.mem_append_right _ (.tail _ (.tail _ (.tail _ (.head _))))) | exact .tail _ (.tail _ (List.mem_append_right _ (.head _))) | exact .tail _ (.tail _ (List.mem_append_right _ (.tail _ (.head _)))) | exact .tail _ (.tail _ (List.mem_append_right _ (.tail _ (.tail _ (.head _))))) | exact .tail _ (.tail _ (List.mem_append_right _ (.tail _ (.tail _ (.tail _ (.head _))))))) (by rfl)) ?_; simp only [Act.put, List.setIfInBounds_toArray, List.set_cons_succ, List.set_cons_zero]) | (go_at_call 20; refine (hadd _ (hT.since hL)).mono ?_; rintro e w ⟨rfl, hb⟩; replace hL := hL.call hb; clear hb) | (refine wpl_alloc hL rfl _ rfl _ z_crc ?_; clear hL; intro b w hL; simp only [Act.put, List.setIfInBounds_toArray, List.set_cons_succ, List.set_cons_zero]) | (refine wpl_strow hL rfl _ _ _ rfl _ rfl _ rfl _ s_crc _ rfl _ _ _ (by first | exact .here | exact .there .here | exact .there (.there .here) | exact .there (.there (.there .here)) | exact .there (.there (.there (.there .here))) | exact .pre (.here) | exact .pre (.there .here) | exact .pre (.there (.there .here))) (by repeat (first | exact all1_nil | refine all1_cons rfl ?_)) (by rfl) (by rfl) ?_; clear hL; intro w hL; simp only [Act.put, List.setIfInBounds_toArray, List.set_cons_succ, List.set_cons_zero]) | (go_at_call 21; refine ((hj1 _ _ hL)).mono ?_; rintro e w ⟨rfl, rfl⟩) | (go_at_call 21; refine ((hj2 _ _ hL)).mono ?_; rintro e w ⟨rfl, rfl⟩) | (go_at_call 22; refine (hv1 _).mono ?_; rintro e w ⟨rfl, hb⟩; replace hL := hL.call hb; clear hb) | (go_at_call 22; refine (hv2 _).mono ?_; rintro e w ⟨rfl, hb⟩; replace hL := hL.call hb; clear hb) | (go_at_call 22; refine (hv3 _).mono ?_; rintro e w ⟨rfl, hb⟩; replace hL := hL.call hb; clear hb) | (refine wpl_toBytes hL rfl u_string u_bytes u_u8 rfl rfl ?_; clear hL; intro v w hL hRv; simp only [Act.put, List.setIfInBounds_toArray, List.set_cons_succ, List.set_cons_zero]) | (go_at_call 16; refine (hb1 _ _ hRv (hT.since hL)).mono ?_; rintro e w ⟨rfl, hb⟩; replace hL := hL.call hb; clear hb) | (go_at_call 16; refine (hb2 _ _ hRv (hT.since hL)).mono ?_; rintro e w ⟨rfl, hb⟩; replace hL := hL.call hb; clear hb) | (go_at_call 16; refine (hb3 _ _ hRv (hT.since hL)).mono ?_; rintro e w ⟨rfl, hb⟩; replace hL := hL.call hb; clear hb))
              go_ret
              exact ⟨rfl, hL.below⟩
    · have t1 : decide ((o.size : Int) > 400) = true := by simp; omega
      have t2 : decide ((400 : Int) < (o.size : Int)) = true := by simp; omega
      have t3 : decide (400 < o.size) = true := by simp; omega
      have hfew := fun w (hL : Sees w0 w []) => few_any _ l w (hR.sees hL) (by omega)
      rw [hF] at hfew
      clear hF
      go_enter Tryd.func4, Tryd.ntmps4
      go_wp2_with (first | (go_at_call 15; refine (sanity_any _ (hT.since hL)).mono ?_; rintro e w ⟨rfl, hb⟩; replace hL := hL.call hb; clear hb) | (go_at_call 18; refine (hfew _ hL).mono ?_; rintro e w ⟨rfl, rfl⟩))
      go_ret
      exact ⟨rfl, hL.below⟩
  · have hF : fewB l = false := by simpa using hF
    have hfew := fun w (hL : Sees w0 w []) => few_any _ l w (hR.sees hL) (by omega)
    rw [hF] at hfew
    clear hF
    go_enter Tryd.func4, Tryd.ntmps4
    go_wp2_with (first | (go_at_call 15; refine (sanity_any _ (hT.since hL)).mono ?_; rintro e w ⟨rfl, hb⟩; replace hL := hL.call hb; clear hb) | (go_at_call 18; refine (hfew _ hL).mono ?_; rintro e w ⟨rfl, rfl⟩))
    go_ret
    exact ⟨rfl, hL.below⟩
end Go.Proofs.YtkkmkfkgmioblaaDoor
namespace Go.Proofs.YtkkmkfkgmioblaaDoor.P
open Go Go.RowKit Go.Lx Go.Proofs.YtkkmkfkgmioblaaDoor Go.Proofs.YtkkmkfkgmioblaaDoorW.PrintWords
theorem antiquarylaw02_HashCrcStreams.walk (_ : True) (a0 : Option Addr) (len0 cap0 : Nat) (z0 : List ByteArray) (a1 : ByteArray) (a2 : Int) (w : World) (w0 : len0 = z0.length ∧ z0.length ≤ cap0 ∧ Kd.string.C w a0 z0.length z0) (w1 : a1.size ≤ 140737488351232) (w2 : (Lit.int .u8 a2).wf = true) (hT : Tab w) :
    Calls Tryd.prog 4 #[.slice a0 len0 cap0, .string a1, .int .u8 a2] w fun e w' => e = .returned (.bool true) ∧ Below w.heap.size w w' := by
  obtain ⟨rfl, hc, hC⟩ := w0
  have hl : z0.length ≤ 12 ∨ 12 < z0.length := by omega
  refine crcstreams_any a0 cap0 z0 a1 a2 w (rd_of_C hC) hC.2.1 hc ?_ (by omega) hT
  simp [Lit.wf, IntKind.min, IntKind.max, IntKind.signed, IntKind.bits] at w2
  omega
end Go.Proofs.YtkkmkfkgmioblaaDoor.P
