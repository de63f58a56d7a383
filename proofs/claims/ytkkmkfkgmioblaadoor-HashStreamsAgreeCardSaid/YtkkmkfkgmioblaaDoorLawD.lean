/- The laws of the hash chapter over streams: the hash's. -/
import Derived.Test.YtkkmkfkgmioblaaDoorLawC
set_option linter.unusedVariables false
set_option linter.unusedSimpArgs false
namespace Go.Proofs.YtkkmkfkgmioblaaDoor
open Go Go.RowKit Go.Lx CrcMath Go.Proofs.YtkkmkfkgmioblaaDoorW.PrintWords
attribute [local irreducible] Calls

theorem sm_cat (l : List ByteArray) (k : Nat) (h : k < l.length) : sm0.add (cat (l.take (k + 1))) = (sm0.add (cat (l.take k))).add (l[k]).data.toList := by
  rw [cat_succ l k h, Sm.add_append]
theorem cat_bound (l : List ByteArray) (k : Nat) (h12 : l.length ≤ 12) (hs : ∀ t ∈ l, t.size ≤ 400) : (cat (l.take k)).length ≤ 4800 := by
  have := cat_len (l.take k) 400 fun t ht => hs t (List.mem_of_mem_take ht)
  rw [List.length_take] at this
  have : min k l.length ≤ 12 := by omega
  omega
set_option maxHeartbeats 4000000 in
theorem streams_any (a : Option Addr) (cap : Nat) (l : List ByteArray) (o : ByteArray) (at_ : Int) (w0 : World) (hR0 : Rd w0 (.slice a l.length cap) l.length 1 (strV l)) (hl : l.length ≤ 9223372036854775807) (hcap : l.length ≤ cap) (ha : 0 ≤ at_ ∧ at_ ≤ 255) (ho : o.size ≤ 9223372036854775807) (hT : Tab w0) :
    Calls Tryd.prog 12 #[.slice a l.length cap, .string o, .int .u8 at_] w0 fun e w' => e = .returned (.bool true) ∧ Below w0.heap.size w0 w' := by
  have hR := hR0
  obtain ⟨⟨a', cap', e0, hcells⟩, -⟩ := hR0
  cases e0
  have hL := Sees.refl w0
  obtain ⟨K, hK, hK2⟩ : ∃ K : Nat, at_ % ((l.length : Int) + 1) = (K : Int) ∧ K ≤ l.length := by
    have h1 := Int.emod_nonneg at_ (show ((l.length : Int) + 1) ≠ 0 by omega)
    have h2 := Int.emod_lt_of_pos at_ (show 0 < ((l.length : Int) + 1) by omega)
    exact ⟨(at_ % ((l.length : Int) + 1)).toNat, by omega, by omega⟩
  by_cases hF : fewB l = true
  · obtain ⟨h12, hs⟩ := fewB_true hF
    by_cases h4 : o.size ≤ 400
    · have t1 : decide ((o.size : Int) > 400) = false := by simp; omega
      have t2 : decide ((400 : Int) < (o.size : Int)) = false := by simp; omega
      have t3 : decide (400 < o.size) = false := by simp; omega
      have hfew := fun w (hL : Sees w0 w []) => few_any _ l w (hR.sees hL) (by omega)
      rw [hF] at hfew
      clear hF
      go_enter Tryd.func12, Tryd.ntmps12
      go_wp2_with (first | (go_at_call 15; refine (sanity_any _ (hT.since hL)).mono ?_; rintro e w ⟨rfl, hb⟩; replace hL := hL.call hb; clear hb) | (go_at_call 18; refine (hfew _ hL).mono ?_; rintro e w ⟨rfl, rfl⟩) | (go_at_call 31; refine (begin_any _).mono ?_; rintro e w ⟨rfl, hb⟩; replace hL := hL.call hb; clear hb) | (refine wpl_alloc hL rfl _ rfl _ z_s ?_; clear hL; intro b w hL; simp only [Act.put, List.setIfInBounds_toArray, List.set_cons_succ, List.set_cons_zero]) | (refine wpl_strow hL rfl _ _ _ rfl _ rfl _ rfl _ s_s _ rfl _ _ _ (by first | exact .here | exact .there .here | exact .there (.there .here) | exact .there (.there (.there .here)) | exact .there (.there (.there (.there .here))) | exact .pre (.here) | exact .pre (.there .here) | exact .pre (.there (.there .here))) (rowS_one _ _ _) (by rfl) (by rfl) ?_; clear hL; intro w hL; simp only [Act.put, List.setIfInBounds_toArray, List.set_cons_succ, List.set_cons_zero]))
      obtain ⟨bc, rfl⟩ : ∃ bc, bc = b := ⟨_, rfl⟩
      go_loopw [10] (fun i wr => ∃ k : Nat, k ≤ K ∧ i = .int .i64 k ∧ Sees w0 wr [⟨bc, 53, (sm0.add (cat (l.take k))).row⟩]) (fun i _ => K - (intOf i).toNat)
      case atStart => exact ⟨0, Nat.zero_le _, rfl, hL⟩
      case round =>
        clear hL
        obtain ⟨k, hk, rfl, hL⟩ := hrel
        generalize hr : sm0.add (cat (l.take k)) = r at hL
        have hrb : r.blk.length = 64 := by rw [← hr]; exact sm0_blk _
        have hrn : r.n ≤ 4800 := by rw [← hr, sm0_n]; exact cat_bound l k h12 hs
        have HR := Lib.hid hr
        clear hr
        by_cases hlt : k < K
        · have hlt' : k < l.length := by omega
          obtain ⟨ad, rfl, hcc⟩ := hcells (by intro h; have := congrArg List.length h; simp [strV] at this; subst this; simp at hlt')
          have hc1 := hcc k _ (strV_at l k hlt')
          generalize hx : l[k] = x at hc1
          have hxs : x.size ≤ 400 := by rw [← hx]; exact hs _ (List.getElem_mem _)
          have HX := Lib.hid hx
          clear hx
          go_wp2
          refine wp_region_lex [(.calm, _), (.val, _), (.val, _), (.val, _), (.calm, _), (.eff, _), (.eff, _)] rfl mixed (by kernel_rfl) ?_
          replace hL := hL.drew
          repeat (first | (refine wpLex_calm rfl _ (run_load_row hL rfl a_s rfl (by first | exact .head _ | exact .tail _ (.head _) | exact .tail _ (.tail _ (.head _)) | exact .tail _ (.tail _ (.tail _ (.head _))) | exact .tail _ (.tail _ (.tail _ (.tail _ (.head _)))) | exact .tail _ (.tail _ (.tail _ (.tail _ (.tail _ (.head _))))) | exact List.mem_append_right _ (.head _) | exact List.mem_append_right _ (.tail _ (.head _)) | exact List.mem_append_right _ (.tail _ (.tail _ (.head _))) | exact List.mem_append_right _ (.tail _ (.tail _ (.tail _ (.head _)))) | exact .tail _ (List.mem_append_right _ (.head _)) | exact .tail _ (List.mem_append_right _ (.tail _ (.head _))) | exact .tail _ (List.mem_append_right _ (.tail _ (.tail _ (.head _)))) | exact .tail _ (List.mem_append_right _ (.tail _ (.tail _ (.tail _ (.head _))))) | exact .tail _ (.tail _ (List.mem_append_right _ (.head _))) | exact .tail _ (.tail _ (List.mem_append_right _ (.tail _ (.head _)))) | exact .tail _ (.tail _ (List.mem_append_right _ (.tail _ (.tail _ (.head _))))) | exact .tail _ (.tail _ (List.mem_append_right _ (.tail _ (.tail _ (.tail _ (.head _))))))) (rowS_len _ _ _ hrb)) ?_; simp only [Act.put, List.setIfInBounds_toArray, List.set_cons_succ, List.set_cons_zero]) | (refine wpLex_calm rfl _ (run_load_plain rfl p_str rfl (hL.old hc1)) ?_; simp only [Act.put, List.setIfInBounds_toArray, List.set_cons_succ, List.set_cons_zero]) | (refine x_call en_sadd rfl rfl rfl rfl (sadd_any r x _ hrb (by omega) (hT.since hL)) ?_; rintro e w ⟨rfl, hb⟩; refine ⟨_, rfl, ?_⟩; replace hL := hL.call hb; clear hb; simp only [Act.put, List.setIfInBounds_toArray, List.set_cons_succ, List.set_cons_zero]) | (refine x_strow hL rfl _ _ _ rfl _ rfl _ rfl _ s_s _ rfl _ _ _ (by first | exact .here | exact .there .here | exact .there (.there .here) | exact .there (.there (.there .here)) | exact .there (.there (.there (.there .here))) | exact .pre (.here) | exact .pre (.there .here) | exact .pre (.there (.there .here))) (rowS_one _ _ _) (rowS_len _ _ _ (by rw [Sm.blk_len]; exact hrb)) (rowS_len _ _ _ hrb) ?_; clear hL; intro w hL; simp only [Act.put, List.setIfInBounds_toArray, List.set_cons_succ, List.set_cons_zero]) | (refine wpLex_val rfl _ (fun w2 => by (go_simp; try rfl)) ?_; simp only [Act.put, List.setIfInBounds_toArray, List.set_cons_succ, List.set_cons_zero]))
          refine wpLex_nil ?_
          go_wp2
          refine ⟨⟨k + 1, by omega, rfl, ?_⟩, ?_⟩
          · rw [sm_cat l k hlt', HR.out, HX.out]; exact hL
          · simp [intOf]; omega
        · obtain rfl : k = K := by omega
          go_wp2_with (first | (refine wpl_run rfl (run_load_row hL rfl a_s rfl (by first | exact .head _ | exact .tail _ (.head _) | exact .tail _ (.tail _ (.head _)) | exact .tail _ (.tail _ (.tail _ (.head _))) | exact .tail _ (.tail _ (.tail _ (.tail _ (.head _)))) | exact .tail _ (.tail _ (.tail _ (.tail _ (.tail _ (.head _))))) | exact List.mem_append_right _ (.head _) | exact List.mem_append_right _ (.tail _ (.head _)) | exact List.mem_append_right _ (.tail _ (.tail _ (.head _))) | exact List.mem_append_right _ (.tail _ (.tail _ (.tail _ (.head _)))) | exact .tail _ (List.mem_append_right _ (.head _)) | exact .tail _ (List.mem_append_right _ (.tail _ (.head _))) | exact .tail _ (List.mem_append_right _ (.tail _ (.tail _ (.head _)))) | exact .tail _ (List.mem_append_right _ (.tail _ (.tail _ (.tail _ (.head _))))) | exact .tail _ (.tail _ (List.mem_append_right _ (.head _))) | exact .tail _ (.tail _ (List.mem_append_right _ (.tail _ (.head _)))) | exact .tail _ (.tail _ (List.mem_append_right _ (.tail _ (.tail _ (.head _))))) | exact .tail _ (.tail _ (List.mem_append_right _ (.tail _ (.tail _ (.tail _ (.head _))))))) (rowS_len _ _ _ hrb)) ?_; simp only [Act.put, List.setIfInBounds_toArray, List.set_cons_succ, List.set_cons_zero]) | (refine wpl_alloc hL rfl _ rfl _ z_s ?_; clear hL; intro b w hL; simp only [Act.put, List.setIfInBounds_toArray, List.set_cons_succ, List.set_cons_zero]) | (refine wpl_strow hL rfl _ _ _ rfl _ rfl _ rfl _ s_s _ rfl _ _ _ (by first | exact .here | exact .there .here | exact .there (.there .here) | exact .there (.there (.there .here)) | exact .there (.there (.there (.there .here))) | exact .pre (.here) | exact .pre (.there .here) | exact .pre (.there (.there .here))) (rowS_one _ _ _) (rowS_len _ _ _ hrb) (by rfl) ?_; clear hL; intro w hL; simp only [Act.put, List.setIfInBounds_toArray, List.set_cons_succ, List.set_cons_zero]))
          obtain ⟨be, rfl⟩ : ∃ be, be = b := ⟨_, rfl⟩
          go_loopw [12] (fun i wr => ∃ k2 : Nat, k2 ≤ l.length ∧ i = .int .i64 k2 ∧ Sees w0 wr [⟨be, 53, r.row⟩, ⟨bc, 53, (sm0.add (cat (l.take k2))).row⟩]) (fun i _ => l.length - (intOf i).toNat)
          case atStart => exact ⟨k, hK2, rfl, by rw [HR.out]; exact hL⟩
          case round =>
            clear hL
            obtain ⟨k2, hk2, rfl, hL⟩ := hrel
            generalize hr2 : sm0.add (cat (l.take k2)) = r2 at hL
            have hr2b : r2.blk.length = 64 := by rw [← hr2]; exact sm0_blk _
            have hr2n : r2.n ≤ 4800 := by rw [← hr2, sm0_n]; exact cat_bound l k2 h12 hs
            have HR2 := Lib.hid hr2
            clear hr2
            by_cases hlt2 : k2 < l.length
            · obtain ⟨ad, rfl, hcc⟩ := hcells (by intro h; have := congrArg List.length h; simp [strV] at this; subst this; simp at hlt2)
              have hc1 := hcc k2 _ (strV_at l k2 hlt2)
              generalize hx : l[k2] = x at hc1
              have hxs : x.size ≤ 400 := by rw [← hx]; exact hs _ (List.getElem_mem _)
              have HX := Lib.hid hx
              clear hx
              go_wp2
              refine wp_region_lex [(.calm, _), (.val, _), (.val, _), (.val, _), (.calm, _), (.eff, _), (.eff, _)] rfl mixed (by kernel_rfl) ?_
              replace hL := hL.drew
              repeat (first | (refine wpLex_calm rfl _ (run_load_row hL rfl a_s rfl (by first | exact .head _ | exact .tail _ (.head _) | exact .tail _ (.tail _ (.head _)) | exact .tail _ (.tail _ (.tail _ (.head _))) | exact .tail _ (.tail _ (.tail _ (.tail _ (.head _)))) | exact .tail _ (.tail _ (.tail _ (.tail _ (.tail _ (.head _))))) | exact List.mem_append_right _ (.head _) | exact List.mem_append_right _ (.tail _ (.head _)) | exact List.mem_append_right _ (.tail _ (.tail _ (.head _))) | exact List.mem_append_right _ (.tail _ (.tail _ (.tail _ (.head _)))) | exact .tail _ (List.mem_append_right _ (.head _)) | exact .tail _ (List.mem_append_right _ (.tail _ (.head _))) | exact .tail _ (List.mem_append_right _ (.tail _ (.tail _ (.head _)))) | exact .tail _ (List.mem_append_right _ (.tail _ (.tail _ (.tail _ (.head _))))) | exact .tail _ (.tail _ (List.mem_append_right _ (.head _))) | exact .tail _ (.tail _ (List.mem_append_right _ (.tail _ (.head _)))) | exact .tail _ (.tail _ (List.mem_append_right _ (.tail _ (.tail _ (.head _))))) | exact .tail _ (.tail _ (List.mem_append_right _ (.tail _ (.tail _ (.tail _ (.head _))))))) (rowS_len _ _ _ hr2b)) ?_; simp only [Act.put, List.setIfInBounds_toArray, List.set_cons_succ, List.set_cons_zero]) | (refine wpLex_calm rfl _ (run_load_plain rfl p_str rfl (hL.old hc1)) ?_; simp only [Act.put, List.setIfInBounds_toArray, List.set_cons_succ, List.set_cons_zero]) | (refine x_call en_sadd rfl rfl rfl rfl (sadd_any r2 x _ hr2b (by omega) (hT.since hL)) ?_; rintro e w ⟨rfl, hb⟩; refine ⟨_, rfl, ?_⟩; replace hL := hL.call hb; clear hb; simp only [Act.put, List.setIfInBounds_toArray, List.set_cons_succ, List.set_cons_zero]) | (refine x_strow hL rfl _ _ _ rfl _ rfl _ rfl _ s_s _ rfl _ _ _ (by first | exact .here | exact .there .here | exact .there (.there .here) | exact .there (.there (.there .here)) | exact .there (.there (.there (.there .here))) | exact .pre (.here) | exact .pre (.there .here) | exact .pre (.there (.there .here))) (rowS_one _ _ _) (rowS_len _ _ _ (by rw [Sm.blk_len]; exact hr2b)) (rowS_len _ _ _ hr2b) ?_; clear hL; intro w hL; simp only [Act.put, List.setIfInBounds_toArray, List.set_cons_succ, List.set_cons_zero]) | (refine wpLex_val rfl _ (fun w2 => by (go_simp; try rfl)) ?_; simp only [Act.put, List.setIfInBounds_toArray, List.set_cons_succ, List.set_cons_zero]))
              refine wpLex_nil ?_
              go_wp2
              refine ⟨⟨k2 + 1, by omega, rfl, ?_⟩, ?_⟩
              · rw [sm_cat l k2 hlt2, HR2.out, HX.out]; exact hL
              · simp [intOf]; omega
            · obtain rfl : k2 = l.length := by omega
              have hR1 : r2 = sm0.add (cat l) := by rw [← HR2.out, List.take_length]
              obtain ⟨r3, hr3⟩ : ∃ r3, r3 = r.add o.data.toList := ⟨_, rfl⟩
              have hr3b : r3.blk.length = 64 := by rw [hr3, Sm.blk_len]; exact hrb
              have hr3n : r3.n ≤ 5200 := by
                rw [hr3, Sm.n_add, Array.length_toList]
                have : o.data.size = o.size := rfl
                omega
              obtain ⟨W, hW⟩ : ∃ W, W = joinS l := ⟨_, rfl⟩
              obtain ⟨V, hV⟩ : ∃ V, V = joinS (l.take k) := ⟨_, rfl⟩
              have hWs : W.size ≤ 4800 := by
                rw [hW, joinS_size]
                have := cat_len l 400 hs
                omega
              have hVs : V.size ≤ 4800 := by
                rw [hV, joinS_size]
                have := cat_len (l.take k) 400 fun t ht => hs t (List.mem_of_mem_take ht)
                rw [List.length_take] at this
                have : min k l.length ≤ 12 := by omega
                omega
              have hVo : ¬ 9223372036854775807 < V.size + o.size := by omega
              obtain ⟨H1, hH1⟩ : ∃ H, H = shaOut r2 := ⟨_, rfl⟩
              have hv1 : ∀ w, Tab w → Calls Tryd.prog 33 #[.agg r2.row.toArray] w fun e w' => e = .returned (.agg H1.toArray) ∧ Below w.heap.size w w' := fun w hT => by
                rw [hH1]; exact ssum_any r2 w hr2b (by omega) hT
              have hl1 : Hid (H1.length = 32) := Lib.hid (by rw [hH1]; exact outV_len _)
              have ho1 : ∀ u ∈ H1, u.one1 = true := by rw [hH1]; exact outV_one _
              have heq1 : ∀ w, (Op.equalIn 10000 47 (.agg H1.toArray) (.agg H1.toArray)).run Tryd.prog w = .ok true w := by rw [hH1]; exact out_same _
              obtain ⟨H2, hH2⟩ : ∃ H, H = shaOut r := ⟨_, rfl⟩
              have hv2 : ∀ w, Tab w → Calls Tryd.prog 33 #[.agg r.row.toArray] w fun e w' => e = .returned (.agg H2.toArray) ∧ Below w.heap.size w w' := fun w hT => by
                rw [hH2]; exact ssum_any r w hrb (by omega) hT
              have hl2 : Hid (H2.length = 32) := Lib.hid (by rw [hH2]; exact outV_len _)
              have ho2 : ∀ u ∈ H2, u.one1 = true := by rw [hH2]; exact outV_one _
              have heq2 : ∀ w, (Op.equalIn 10000 47 (.agg H2.toArray) (.agg H2.toArray)).run Tryd.prog w = .ok true w := by rw [hH2]; exact out_same _
              obtain ⟨H3, hH3⟩ : ∃ H, H = shaOut r3 := ⟨_, rfl⟩
              have hv3 : ∀ w, Tab w → Calls Tryd.prog 33 #[.agg r3.row.toArray] w fun e w' => e = .returned (.agg H3.toArray) ∧ Below w.heap.size w w' := fun w hT => by
                rw [hH3]; exact ssum_any r3 w hr3b (by omega) hT
              have hl3 : Hid (H3.length = 32) := Lib.hid (by rw [hH3]; exact outV_len _)
              have ho3 : ∀ u ∈ H3, u.one1 = true := by rw [hH3]; exact outV_one _
              have heq3 : ∀ w, (Op.equalIn 10000 47 (.agg H3.toArray) (.agg H3.toArray)).run Tryd.prog w = .ok true w := by rw [hH3]; exact out_same _
              have hadd : ∀ w, Tab w → Calls Tryd.prog 32 #[.agg r.row.toArray, .string o] w fun e w' => e = .returned (.agg r3.row.toArray) ∧ Below w.heap.size w w' := fun w hT => by
                rw [hr3]; exact sadd_any r o w hrb (by omega) hT
              have hb1 : ∀ v w, Rd w v W.size 1 (bytesV W.data.toList) → Tab w → Calls Tryd.prog 29 #[v] w fun e w' => e = .returned (.agg H1.toArray) ∧ Below w.heap.size w w' := fun v w hR hT => by
                have := sum_any v W.data.toList w hR (by rw [Array.length_toList]; show W.size ≤ _; omega) hT
                rw [hH1, hR1]
                rw [hW] at this
                exact this
              have hb2 : ∀ v w, Rd w v V.size 1 (bytesV V.data.toList) → Tab w → Calls Tryd.prog 29 #[v] w fun e w' => e = .returned (.agg H2.toArray) ∧ Below w.heap.size w w' := fun v w hR hT => by
                have := sum_any v V.data.toList w hR (by rw [Array.length_toList]; show V.size ≤ _; omega) hT
                rw [hH2, ← HR.out]
                rw [hV] at this
                exact this
              have hb3 : ∀ v w, Rd w v (V ++ o).size 1 (bytesV (V ++ o).data.toList) → Tab w → Calls Tryd.prog 29 #[v] w fun e w' => e = .returned (.agg H3.toArray) ∧ Below w.heap.size w w' := fun v w hR hT => by
                have := sum_any v (V ++ o).data.toList w hR (by rw [Array.length_toList]; show (V ++ o).size ≤ _; rw [ByteArray.size_append]; omega) hT
                rw [hH3, hr3, ← HR.out]
                rw [ByteArray.data_append, Array.toList_append, hV] at this
                unfold shaV at this
                rw [Sm.add_append] at this
                exact this
              have hj1 : ∀ w L, Sees w0 w L → Calls Tryd.prog 21 #[.slice a l.length cap] w fun e w' => e = .returned (.string W) ∧ w' = w := fun w L hL => by
                rw [hW]; exact joined_any _ l w (hR.sees hL) h12 hs
              have hj2 : ∀ w L, Sees w0 w L → Calls Tryd.prog 21 #[.slice a k cap] w fun e w' => e = .returned (.string V) ∧ w' = w := fun w L hL => by
                rw [hV]; exact joined_any _ (l.take k) w (rd_take (hR.sees hL) k hK2) (by rw [List.length_take]; omega) fun t ht => hs t (List.mem_of_mem_take ht)
              clear hW hV hr3 hR1 hH1 hH2 hH3
              go_wp2_with (first | (refine wpl_run rfl (run_load_row hL rfl a_s rfl (by first | exact .head _ | exact .tail _ (.head _) | exact .tail _ (.tail _ (.head _)) | exact .tail _ (.tail _ (.tail _ (.head _))) | exact .tail _ (.tail _ (.tail _ (.tail _ (.head _)))) | exact .tail _ (.tail _ (.tail _ (.tail _ (.tail _ (.head _))))) | exact List.mem_append_right _ (.head _) | exact List.mem_append_right _ (.tail _ (.head _)) | exact List.mem_append_right _ (.tail _ (.tail _ (.head _))) | exact List.mem_append_right _ (.tail _ (.tail _ (.tail _ (.head _)))) | exact .tail _ (List.mem_append_right _ (.head _)) | exact .tail _ (List.mem_append_right _ (.tail _ (.head _))) | exact .tail _ (List.mem_append_right _ (.tail _ (.tail _ (.head _)))) | exact .tail _ (List.mem_append_right _ (.tail _ (.tail _ (.tail _ (.head _))))) | exact .tail _ (.tail _ (List.mem_append_right _ (.head _))) | exact .tail _ (.tail _ (List.mem_append_right _ (.tail _ (.head _)))) | exact .tail _ (.tail _ (List.mem_append_right _ (.tail _ (.tail _ (.head _))))) | exact .tail _ (.tail _ (List.mem_append_right _ (.tail _ (.tail _ (.tail _ (.head _))))))) (rowS_len _ _ _ hrb)) ?_; simp only [Act.put, List.setIfInBounds_toArray, List.set_cons_succ, List.set_cons_zero]) | (refine wpl_run rfl (run_load_row hL rfl a_s rfl (by first | exact .head _ | exact .tail _ (.head _) | exact .tail _ (.tail _ (.head _)) | exact .tail _ (.tail _ (.tail _ (.head _))) | exact .tail _ (.tail _ (.tail _ (.tail _ (.head _)))) | exact .tail _ (.tail _ (.tail _ (.tail _ (.tail _ (.head _))))) | exact List.mem_append_right _ (.head _) | exact List.mem_append_right _ (.tail _ (.head _)) | exact List.mem_append_right _ (.tail _ (.tail _ (.head _))) | exact List.mem_append_right _ (.tail _ (.tail _ (.tail _ (.head _)))) | exact .tail _ (List.mem_append_right _ (.head _)) | exact .tail _ (List.mem_append_right _ (.tail _ (.head _))) | exact .tail _ (List.mem_append_right _ (.tail _ (.tail _ (.head _)))) | exact .tail _ (List.mem_append_right _ (.tail _ (.tail _ (.tail _ (.head _))))) | exact .tail _ (.tail _ (List.mem_append_right _ (.head _))) | exact .tail _ (.tail _ (List.mem_append_right _ (.tail _ (.head _)))) | exact .tail _ (.tail _ (List.mem_append_right _ (.tail _ (.tail _ (.head _))))) | exact .tail _ (.tail _ (List.mem_append_right _ (.tail _ (.tail _ (.tail _ (.head _))))))) (rowS_len _ _ _ hr2b)) ?_; simp only [Act.put, List.setIfInBounds_toArray, List.set_cons_succ, List.set_cons_zero]) | (refine wpl_run rfl (run_load_row hL rfl a_s rfl (by first | exact .head _ | exact .tail _ (.head _) | exact .tail _ (.tail _ (.head _)) | exact .tail _ (.tail _ (.tail _ (.head _))) | exact .tail _ (.tail _ (.tail _ (.tail _ (.head _)))) | exact .tail _ (.tail _ (.tail _ (.tail _ (.tail _ (.head _))))) | exact List.mem_append_right _ (.head _) | exact List.mem_append_right _ (.tail _ (.head _)) | exact List.mem_append_right _ (.tail _ (.tail _ (.head _))) | exact List.mem_append_right _ (.tail _ (.tail _ (.tail _ (.head _)))) | exact .tail _ (List.mem_append_right _ (.head _)) | exact .tail _ (List.mem_append_right _ (.tail _ (.head _))) | exact .tail _ (List.mem_append_right _ (.tail _ (.tail _ (.head _)))) | exact .tail _ (List.mem_append_right _ (.tail _ (.tail _ (.tail _ (.head _))))) | exact .tail _ (.tail _ (List.mem_append_right _ (.head _))) | exact .tail _ (.tail _ (List.mem_append_right _ (.tail _ (.head _)))) | exact .tail _ (.tail _ (List.mem_append_right _ (.tail _ (.tail _ (.head _))))) | exact .tail _ (.tail _ (List.mem_append_right _ (.tail _ (.tail _ (.tail _ (.head _))))))) (rowS_len _ _ _ hr3b)) ?_; simp only [Act.put, List.setIfInBounds_toArray, List.set_cons_succ, List.set_cons_zero]) | (go_at_call 32; refine (hadd _ (hT.since hL)).mono ?_; rintro e w ⟨rfl, hb⟩; replace hL := hL.call hb; clear hb) | (refine wpl_alloc hL rfl _ rfl _ z_s ?_; clear hL; intro b w hL; simp only [Act.put, List.setIfInBounds_toArray, List.set_cons_succ, List.set_cons_zero]) | (refine wpl_strow hL rfl _ _ _ rfl _ rfl _ rfl _ s_s _ rfl _ _ _ (by first | exact .here | exact .there .here | exact .there (.there .here) | exact .there (.there (.there .here)) | exact .there (.there (.there (.there .here))) | exact .pre (.here) | exact .pre (.there .here) | exact .pre (.there (.there .here))) (rowS_one _ _ _) (rowS_len _ _ _ hr3b) (by rfl) ?_; clear hL; intro w hL; simp only [Act.put, List.setIfInBounds_toArray, List.set_cons_succ, List.set_cons_zero]) | (go_at_call 21; refine ((hj1 _ _ hL)).mono ?_; rintro e w ⟨rfl, rfl⟩) | (go_at_call 21; refine ((hj2 _ _ hL)).mono ?_; rintro e w ⟨rfl, rfl⟩) | (go_at_call 33; refine (hv1 _ (hT.since hL)).mono ?_; rintro e w ⟨rfl, hb⟩; replace hL := hL.call hb; clear hb) | (go_at_call 33; refine (hv2 _ (hT.since hL)).mono ?_; rintro e w ⟨rfl, hb⟩; replace hL := hL.call hb; clear hb) | (go_at_call 33; refine (hv3 _ (hT.since hL)).mono ?_; rintro e w ⟨rfl, hb⟩; replace hL := hL.call hb; clear hb) | (refine wpl_toBytes hL rfl u_string u_bytes u_u8 rfl rfl ?_; clear hL; intro v w hL hRv; simp only [Act.put, List.setIfInBounds_toArray, List.set_cons_succ, List.set_cons_zero]) | (go_at_call 29; refine (hb1 _ _ hRv (hT.since hL)).mono ?_; rintro e w ⟨rfl, hb⟩; replace hL := hL.call hb; clear hb) | (go_at_call 29; refine (hb2 _ _ hRv (hT.since hL)).mono ?_; rintro e w ⟨rfl, hb⟩; replace hL := hL.call hb; clear hb) | (go_at_call 29; refine (hb3 _ _ hRv (hT.since hL)).mono ?_; rintro e w ⟨rfl, hb⟩; replace hL := hL.call hb; clear hb))
              go_ret
              exact ⟨rfl, hL.below⟩
    · have t1 : decide ((o.size : Int) > 400) = true := by simp; omega
      have t2 : decide ((400 : Int) < (o.size : Int)) = true := by simp; omega
      have t3 : decide (400 < o.size) = true := by simp; omega
      have hfew := fun w (hL : Sees w0 w []) => few_any _ l w (hR.sees hL) (by omega)
      rw [hF] at hfew
      clear hF
      go_enter Tryd.func12, Tryd.ntmps12
      go_wp2_with (first | (go_at_call 15; refine (sanity_any _ (hT.since hL)).mono ?_; rintro e w ⟨rfl, hb⟩; replace hL := hL.call hb; clear hb) | (go_at_call 18; refine (hfew _ hL).mono ?_; rintro e w ⟨rfl, rfl⟩))
      go_ret
      exact ⟨rfl, hL.below⟩
  · have hF : fewB l = false := by simpa using hF
    have hfew := fun w (hL : Sees w0 w []) => few_any _ l w (hR.sees hL) (by omega)
    rw [hF] at hfew
    clear hF
    go_enter Tryd.func12, Tryd.ntmps12
    go_wp2_with (first | (go_at_call 15; refine (sanity_any _ (hT.since hL)).mono ?_; rintro e w ⟨rfl, hb⟩; replace hL := hL.call hb; clear hb) | (go_at_call 18; refine (hfew _ hL).mono ?_; rintro e w ⟨rfl, rfl⟩))
    go_ret
    exact ⟨rfl, hL.below⟩
end Go.Proofs.YtkkmkfkgmioblaaDoor
namespace Go.Proofs.YtkkmkfkgmioblaaDoor.P
open Go Go.RowKit Go.Lx Go.Proofs.YtkkmkfkgmioblaaDoor Go.Proofs.YtkkmkfkgmioblaaDoorW.PrintWords
theorem antiquarylaw02_HashStreamsAgree.walk (_ : True) (a0 : Option Addr) (len0 cap0 : Nat) (z0 : List ByteArray) (a1 : ByteArray) (a2 : Int) (w : World) (w0 : len0 = z0.length ∧ z0.length ≤ cap0 ∧ Kd.string.C w a0 z0.length z0) (w1 : a1.size ≤ 140737488351232) (w2 : (Lit.int .u8 a2).wf = true) (hT : Tab w) :
    Calls Tryd.prog 12 #[.slice a0 len0 cap0, .string a1, .int .u8 a2] w fun e w' => e = .returned (.bool true) ∧ Below w.heap.size w w' := by
  obtain ⟨rfl, hc, hC⟩ := w0
  have hl : z0.length ≤ 12 ∨ 12 < z0.length := by omega
  refine streams_any a0 cap0 z0 a1 a2 w (rd_of_C hC) hC.2.1 hc ?_ (by omega) hT
  simp [Lit.wf, IntKind.min, IntKind.max, IntKind.signed, IntKind.bits] at w2
  omega
end Go.Proofs.YtkkmkfkgmioblaaDoor.P
