/- The law of the hash chapter over two inputs, walked. -/
import Derived.Test.YtkkmkfkgmioblaaDoorLawF
set_option linter.unusedVariables false
set_option linter.unusedSimpArgs false
namespace Go.Proofs.YtkkmkfkgmioblaaDoor
open Go Go.RowKit Go.Lx CrcMath Go.Proofs.YtkkmkfkgmioblaaDoorW.PrintWords
attribute [local irreducible] Calls
theorem e_2u8 : plainVar Tryd.prog 5 = true := p_u8
/-- the first k strings are the same -/
def eqTo (a b : List ByteArray) (k : Nat) : Prop := ∀ j, j < k → a[j]? = b[j]?
theorem eqTo_succ (a b : List ByteArray) (k : Nat) : eqTo a b (k + 1) ↔ (eqTo a b k ∧ a[k]? = b[k]?) := by
  unfold eqTo
  constructor
  · exact fun h => ⟨fun j hj => h j (by omega), h k (by omega)⟩
  · rintro ⟨h1, h2⟩ j hj
    by_cases e : j = k
    · rw [e]; exact h2
    · exact h1 j (by omega)
theorem eqTo_all (a b : List ByteArray) (h : a.length = b.length) : eqTo a b a.length ↔ a = b := by
  constructor
  · intro he
    apply List.ext_getElem? 
    intro j
    by_cases hj : j < a.length
    · exact he j hj
    · rw [List.getElem?_eq_none (by omega), List.getElem?_eq_none (by omega)]
  · rintro rfl; exact fun _ _ => rfl

theorem open7 {w0 w : World} {x1 x2 x3 x4 x5 x6 x7 : Blk} (h : Sees w0 w [x1, x2, x3, x4, x5, x6, x7]) : ∃ L, x1 ∈ L ∧ x2 ∈ L ∧ x3 ∈ L ∧ x4 ∈ L ∧ x5 ∈ L ∧ x6 ∈ L ∧ Sees w0 w L :=
  ⟨_, .head _, .tail _ (.head _), .tail _ (.tail _ (.head _)), .tail _ (.tail _ (.tail _ (.head _))), .tail _ (.tail _ (.tail _ (.tail _ (.head _)))), .tail _ (.tail _ (.tail _ (.tail _ (.tail _ (.head _))))), h⟩

set_option maxRecDepth 100000 in
set_option maxHeartbeats 16000000 in
theorem sep_core (t0 t1 : Int) (l m : List ByteArray) (pa pb : Option Addr) (ca cb : Nat) (w0 : World) (ht0 : 0 ≤ t0 ∧ t0 ≤ 255) (ht1 : 0 ≤ t1 ∧ t1 ≤ 255) (hRa : Rd w0 (.slice pa l.length ca) l.length 1 (strV l)) (hRb : Rd w0 (.slice pb m.length cb) m.length 1 (strV m)) (hT : Tab w0)
    (hl12 : l.length ≤ 12) (hls : ∀ t ∈ l, t.size ≤ 400) (hm12 : m.length ≤ 12) (hms : ∀ t ∈ m, t.size ≤ 400)
    (hfa : ∀ w, Sees w0 w [] → Calls Tryd.prog 18 #[.slice pa l.length ca] w fun e w' => e = .returned (.bool true) ∧ w' = w)
    (hfb : ∀ w, Sees w0 w [] → Calls Tryd.prog 18 #[.slice pb m.length cb] w fun e w' => e = .returned (.bool true) ∧ w' = w) :
    Calls Tryd.prog 14 #[.agg #[.int .u8 t0, .int .u8 t1], .slice pa l.length ca, .slice pb m.length cb] w0 fun e w' => e = .returned (.bool true) ∧ Below w0.heap.size w0 w' := by
  have hL := Sees.refl w0
  obtain ⟨T0, hT0⟩ : ∃ T0 : Prop, T0 ↔ (t0 = t1 ∧ l.length = m.length) := ⟨_, Iff.rfl⟩
  have hlen : T0 → l.length = m.length := fun h => (hT0.1 h).2
  obtain ⟨X, hX⟩ : ∃ X, X = inB t0 l := ⟨_, rfl⟩
  obtain ⟨Y, hY⟩ : ∃ Y, Y = inB t1 m := ⟨_, rfl⟩
  have hXY : Hid (X = Y ↔ (T0 ∧ l = m)) := Lib.hid (by
    rw [hX, hY, inB_free t0 t1 l m ht0 ht1, hT0]
    constructor
    · rintro ⟨h1, h2⟩; exact ⟨⟨h1, by rw [h2]⟩, h2⟩
    · rintro ⟨⟨h1, -⟩, h2⟩; exact ⟨h1, h2⟩)
  have hXl : X.length ≤ 14413 := by rw [hX]; exact inB_bound t0 l hl12 hls
  have hYl : Y.length ≤ 14413 := by rw [hY]; exact inB_bound t1 m hm12 hms
  have hls' : ∀ t ∈ l, t.size ≤ 1000000 := fun t ht => Nat.le_trans (hls t ht) (by decide)
  have hms' : ∀ t ∈ m, t.size ≤ 1000000 := fun t ht => Nat.le_trans (hms t ht) (by decide)
  have hin1 : ∀ w L, Sees w0 w L → Calls Tryd.prog 36 #[.int .i64 t0, .slice pa l.length ca] w fun e w' => ∃ (bb cc : Nat) (rr : List Value), e = .returned (.slice (some ⟨bb, 0, none⟩) X.length cc) ∧ Sees w w' [⟨bb, 5, bytesV X ++ rr⟩] := fun w L hL => by
    rw [hX]; exact input_row t0 _ l w (hRa.sees hL) hl12 hls
  have hin2 : ∀ w L, Sees w0 w L → Calls Tryd.prog 36 #[.int .i64 t1, .slice pb m.length cb] w fun e w' => ∃ (bb cc : Nat) (rr : List Value), e = .returned (.slice (some ⟨bb, 0, none⟩) Y.length cc) ∧ Sees w w' [⟨bb, 5, bytesV Y ++ rr⟩] := fun w L hL => by
    rw [hY]; exact input_row t1 _ m w (hRb.sees hL) hm12 hms
  obtain ⟨f, hf⟩ : ∃ f, f = outB ((sm0.add X).add (padL X.length)).st := ⟨_, rfl⟩
  obtain ⟨g, hg⟩ : ∃ g, g = outB ((sm0.add Y).add (padL Y.length)).st := ⟨_, rfl⟩
  have hof1 : ∀ w L, Sees w0 w L → Calls Tryd.prog 34 #[.int .i64 t0, .slice pa l.length ca] w fun e w' => e = .returned (.agg (rowF 16 fun i => .int .u8 (f i)).toArray) ∧ Below w.heap.size w w' := fun w L hL => by
    have := of_any t0 _ l w (hRa.sees hL) (by omega) hls' (hT.since hL)
    rw [← hX] at this
    rw [hf]; exact this
  have hof2 : ∀ w L, Sees w0 w L → Calls Tryd.prog 34 #[.int .i64 t1, .slice pb m.length cb] w fun e w' => e = .returned (.agg (rowF 16 fun i => .int .u8 (g i)).toArray) ∧ Below w.heap.size w w' := fun w L hL => by
    have := of_any t1 _ m w (hRb.sees hL) (by omega) hms' (hT.since hL)
    rw [← hY] at this
    rw [hg]; exact this
  have hsum1 : ∀ v w, Rd w v X.length 1 (bytesV X) → Tab w → Calls Tryd.prog 29 #[v] w fun e w' => e = .returned (.agg (rowF 32 fun i => .int .u8 (f i)).toArray) ∧ Below w.heap.size w w' := fun v w hR hT => by
    have := sum_any v X w hR (by omega) hT
    unfold shaV shaOut outV at this
    rw [sm0_n] at this
    rw [hf]; exact this
  have hsum2 : ∀ v w, Rd w v Y.length 1 (bytesV Y) → Tab w → Calls Tryd.prog 29 #[v] w fun e w' => e = .returned (.agg (rowF 32 fun i => .int .u8 (g i)).toArray) ∧ Below w.heap.size w w' := fun v w hR hT => by
    have := sum_any v Y w hR (by omega) hT
    unfold shaV shaOut outV at this
    rw [sm0_n] at this
    rw [hg]; exact this
  obtain ⟨E, HE⟩ : ∃ E : Bool, Hid (E = (List.range 16).all fun i => f i == g i) := ⟨_, Lib.hid rfl⟩
  have heq : ∀ w, (Op.equalIn 10000 58 (.agg (rowF 16 fun i => .int .u8 (f i)).toArray) (.agg (rowF 16 fun i => .int .u8 (g i)).toArray)).run Tryd.prog w = .ok E w := by
    rw [HE.out, hf, hg]; exact dig_eq _ _
  obtain ⟨C, hC, hC0, hC1⟩ : ∃ C : List Value, [.int .u8 t0, .int .u8 t1] = C ∧ C[0]? = some (.int .u8 t0) ∧ C[1]? = some (.int .u8 t1) := ⟨_, rfl, rfl, rfl⟩
  have HC := Lib.hid hC
  clear hC hX hY hf hg
  have hcase : ∃ S0 : Bool, Hid (S0 = true ↔ T0) ∧ (((t0 == t1) = false ∧ S0 = false) ∨ (t0 = t1 ∧ ((l.length : Int) == (m.length : Int)) = S0)) := by
    by_cases h : t0 = t1
    · refine ⟨(l.length : Int) == (m.length : Int), Lib.hid ?_, .inr ⟨h, rfl⟩⟩
      rw [hT0]; simp [h]; omega
    · refine ⟨false, Lib.hid ?_, .inl ⟨by simpa using h, rfl⟩⟩
      rw [hT0]; simp [h]
  clear hT0
  have hcl := hRa
  obtain ⟨⟨pa', ca', e1, hcl⟩, -⟩ := hcl
  have hcm := hRb
  obtain ⟨⟨pb', cb', e2, hcm⟩, -⟩ := hcm
  cases e1
  cases e2
  obtain ⟨S0, HS0, ⟨d1, rfl⟩ | ⟨rfl, d2⟩⟩ := hcase
  all_goals
    go_enter Tryd.func14, Tryd.ntmps14
    go_wp2_with (first | (refine wpl_box hL rfl _ _ rfl _ rfl _ rfl ?_; clear hL; intro b w hL; simp only [Act.put, List.setIfInBounds_toArray, List.set_cons_succ, List.set_cons_zero]) | (go_at_call 15; refine (sanity_any _ (hT.since hL)).mono ?_; rintro e w ⟨rfl, hb⟩; replace hL := hL.call hb; clear hb) | (go_at_call 18; refine (hfa _ (hL.forget (List.nil_sublist _))).mono ?_; rintro e w ⟨rfl, rfl⟩) | (go_at_call 18; refine (hfb _ (hL.forget (List.nil_sublist _))).mono ?_; rintro e w ⟨rfl, rfl⟩) | (refine wpl_run rfl (run_load_plain rfl p_u8 rfl (hL.at (by first | exact .head _ | exact .tail _ (.head _) | exact .tail _ (.tail _ (.head _)) | exact .tail _ (.tail _ (.tail _ (.head _))) | exact .tail _ (.tail _ (.tail _ (.tail _ (.head _)))) | exact .tail _ (.tail _ (.tail _ (.tail _ (.tail _ (.head _))))) | exact List.mem_append_right _ (.head _) | exact List.mem_append_right _ (.tail _ (.head _)) | exact List.mem_append_right _ (.tail _ (.tail _ (.head _))) | exact List.mem_append_right _ (.tail _ (.tail _ (.tail _ (.head _)))) | exact .tail _ (List.mem_append_right _ (.head _)) | exact .tail _ (List.mem_append_right _ (.tail _ (.head _))) | exact .tail _ (List.mem_append_right _ (.tail _ (.tail _ (.head _)))) | exact .tail _ (List.mem_append_right _ (.tail _ (.tail _ (.tail _ (.head _))))) | exact .tail _ (.tail _ (List.mem_append_right _ (.head _))) | exact .tail _ (.tail _ (List.mem_append_right _ (.tail _ (.head _)))) | exact .tail _ (.tail _ (List.mem_append_right _ (.tail _ (.tail _ (.head _))))) | exact .tail _ (.tail _ (List.mem_append_right _ (.tail _ (.tail _ (.tail _ (.head _))))))) (by rfl))) ?_; simp only [Act.put, List.setIfInBounds_toArray, List.set_cons_succ, List.set_cons_zero]))
    obtain ⟨bx, rfl⟩ : ∃ bx, bx = b := ⟨_, rfl⟩
    rw [HC.out] at hL
    go_loopw [8, 9] (fun s i wr => ∃ (k : Nat) (S : Bool), k ≤ l.length ∧ i = .int .i64 k ∧ s = .bool S ∧ Hid (S = true ↔ (T0 ∧ eqTo l m k)) ∧ Sees w0 wr [⟨bx, 62, C⟩]) (fun _ i _ => l.length - (intOf i).toNat)
    case atStart => exact ⟨0, _, Nat.zero_le _, rfl, rfl, Lib.hid (by rw [HS0.out]; exact ⟨fun h => ⟨h, fun j hj => absurd hj (Nat.not_lt_zero _)⟩, fun h => h.1⟩), hL⟩
    case round =>
      clear hL
      obtain ⟨k, S, hk, rfl, rfl, HS, hL⟩ := hrel
      by_cases hlt : k < l.length
      · cases S with
        | true =>
          have hm : k < m.length := by
            have := hlen (HS.out.1 rfl).1
            omega
          obtain ⟨ad, rfl, hcc⟩ := hcl (by intro h; have := congrArg List.length h; simp [strV] at this; subst this; simp at hlt)
          obtain ⟨ae, rfl, hce⟩ := hcm (by intro h; have := congrArg List.length h; simp [strV] at this; subst this; simp at hm)
          have hc1 := hcc k _ (strV_at l k hlt)
          have hc2 := hce k _ (strV_at m k hm)
          generalize hx : l[k] = x at hc1
          generalize hy : m[k] = y at hc2
          have HX := Lib.hid hx
          have HY := Lib.hid hy
          clear hx hy
          go_wp2
          refine wp_region_lex [(.val, _), (.val, _), (.val, _), (.calm, _), (.val, _), (.val, _), (.val, _), (.calm, _), (.val, _), (.val, _)] rfl mixed (by kernel_rfl) ?_
          replace hL := hL.drew
          repeat (first | (refine wpLex_calm rfl _ (run_load_plain rfl p_str rfl (hL.old hc1)) ?_; simp only [Act.put, List.setIfInBounds_toArray, List.set_cons_succ, List.set_cons_zero]) | (refine wpLex_calm rfl _ (run_load_plain rfl p_str rfl (hL.old hc2)) ?_; simp only [Act.put, List.setIfInBounds_toArray, List.set_cons_succ, List.set_cons_zero]) | (refine wpLex_val rfl _ (fun w2 => by (go_simp; try rfl)) ?_; simp only [Act.put, List.setIfInBounds_toArray, List.set_cons_succ, List.set_cons_zero]))
          refine wpLex_nil ?_
          go_wp2
          refine ⟨⟨k + 1, _, by omega, rfl, rfl, Lib.hid ?_, hL⟩, ?_⟩
          · rw [eqTo_succ, List.getElem?_eq_getElem hlt, List.getElem?_eq_getElem hm, HX.out, HY.out]
            have := HS.out.1 (by first | rfl | trivial)
            constructor
            · intro h; exact ⟨this.1, this.2, by rw [ba_ext (a := x) (b := y) (by rw [← Lib.toList_data, ← Lib.toList_data]; simpa using h)]⟩
            · rintro ⟨-, -, h⟩
              have h : x = y := by simpa using h
              simp [h]
          · simp [intOf]; omega
        | false =>
          have hn : X ≠ Y := by
            intro h
            have := hXY.out.1 h
            exact absurd (HS.out.2 ⟨this.1, by rw [this.2]; exact fun _ _ => rfl⟩) (by simp)
          have hn1 : (X == Y) = false := by simpa using hn
          go_wp2_with (first | (refine wpl_run rfl (run_load_plain rfl p_u8 rfl (hL.at (by first | exact .head _ | exact .tail _ (.head _) | exact .tail _ (.tail _ (.head _)) | exact .tail _ (.tail _ (.tail _ (.head _))) | exact .tail _ (.tail _ (.tail _ (.tail _ (.head _)))) | exact .tail _ (.tail _ (.tail _ (.tail _ (.tail _ (.head _))))) | exact List.mem_append_right _ (.head _) | exact List.mem_append_right _ (.tail _ (.head _)) | exact List.mem_append_right _ (.tail _ (.tail _ (.head _))) | exact List.mem_append_right _ (.tail _ (.tail _ (.tail _ (.head _)))) | exact .tail _ (List.mem_append_right _ (.head _)) | exact .tail _ (List.mem_append_right _ (.tail _ (.head _))) | exact .tail _ (List.mem_append_right _ (.tail _ (.tail _ (.head _)))) | exact .tail _ (List.mem_append_right _ (.tail _ (.tail _ (.tail _ (.head _))))) | exact .tail _ (.tail _ (List.mem_append_right _ (.head _))) | exact .tail _ (.tail _ (List.mem_append_right _ (.tail _ (.head _)))) | exact .tail _ (.tail _ (List.mem_append_right _ (.tail _ (.tail _ (.head _))))) | exact .tail _ (.tail _ (List.mem_append_right _ (.tail _ (.tail _ (.tail _ (.head _))))))) hC0)) ?_; simp only [Act.put, List.setIfInBounds_toArray, List.set_cons_succ, List.set_cons_zero]) | (refine wpl_run rfl (run_load_plain rfl p_u8 rfl (hL.at (by first | exact .head _ | exact .tail _ (.head _) | exact .tail _ (.tail _ (.head _)) | exact .tail _ (.tail _ (.tail _ (.head _))) | exact .tail _ (.tail _ (.tail _ (.tail _ (.head _)))) | exact .tail _ (.tail _ (.tail _ (.tail _ (.tail _ (.head _))))) | exact List.mem_append_right _ (.head _) | exact List.mem_append_right _ (.tail _ (.head _)) | exact List.mem_append_right _ (.tail _ (.tail _ (.head _))) | exact List.mem_append_right _ (.tail _ (.tail _ (.tail _ (.head _)))) | exact .tail _ (List.mem_append_right _ (.head _)) | exact .tail _ (List.mem_append_right _ (.tail _ (.head _))) | exact .tail _ (List.mem_append_right _ (.tail _ (.tail _ (.head _)))) | exact .tail _ (List.mem_append_right _ (.tail _ (.tail _ (.tail _ (.head _))))) | exact .tail _ (.tail _ (List.mem_append_right _ (.head _))) | exact .tail _ (.tail _ (List.mem_append_right _ (.tail _ (.head _)))) | exact .tail _ (.tail _ (List.mem_append_right _ (.tail _ (.tail _ (.head _))))) | exact .tail _ (.tail _ (List.mem_append_right _ (.tail _ (.tail _ (.tail _ (.head _))))))) hC1)) ?_; simp only [Act.put, List.setIfInBounds_toArray, List.set_cons_succ, List.set_cons_zero]) | (go_at_call 36; refine (hin1 _ _ hL).mono ?_; rintro e w ⟨bb, cc, rr, rfl, hM⟩; replace hL := (show Sees _ _ (_ :: _) from hL.join hM); clear hM) | (go_at_call 36; refine (hin2 _ _ hL).mono ?_; rintro e w ⟨bb, cc, rr, rfl, hM⟩; replace hL := (show Sees _ _ (_ :: _) from hL.join hM); clear hM) | (go_at_call 34; refine (hof1 _ _ hL).mono ?_; rintro e w ⟨rfl, hb⟩; replace hL := hL.call hb; clear hb) | (go_at_call 34; refine (hof2 _ _ hL).mono ?_; rintro e w ⟨rfl, hb⟩; replace hL := hL.call hb; clear hb) | (refine wpl_alloc hL rfl _ rfl _ z_16 ?_; clear hL; intro b w hL; simp only [Act.put, List.setIfInBounds_toArray, List.set_cons_succ, List.set_cons_zero]) | (refine wpl_strow hL rfl _ _ _ rfl _ rfl _ rfl _ s_16 _ rfl _ _ _ (by first | exact .here | exact .there .here | exact .there (.there .here) | exact .there (.there (.there .here)) | exact .there (.there (.there (.there .here))) | exact .pre (.here) | exact .pre (.there .here) | exact .pre (.there (.there .here))) (rowF_one _ _ fun _ => rfl) (rowF_len _ _) (by exact rowF_len _ _) ?_; clear hL; intro w hL; simp only [Act.put, List.setIfInBounds_toArray, List.set_cons_succ, List.set_cons_zero]) | (go_at_call 29; refine (hsum1 _ _ (rd_blk hL (by first | exact .head _ | exact .tail _ (.head _) | exact .tail _ (.tail _ (.head _)) | exact .tail _ (.tail _ (.tail _ (.head _))) | exact .tail _ (.tail _ (.tail _ (.tail _ (.head _)))) | exact .tail _ (.tail _ (.tail _ (.tail _ (.tail _ (.head _))))) | exact List.mem_append_right _ (.head _) | exact List.mem_append_right _ (.tail _ (.head _)) | exact List.mem_append_right _ (.tail _ (.tail _ (.head _))) | exact List.mem_append_right _ (.tail _ (.tail _ (.tail _ (.head _)))) | exact .tail _ (List.mem_append_right _ (.head _)) | exact .tail _ (List.mem_append_right _ (.tail _ (.head _))) | exact .tail _ (List.mem_append_right _ (.tail _ (.tail _ (.head _)))) | exact .tail _ (List.mem_append_right _ (.tail _ (.tail _ (.tail _ (.head _))))) | exact .tail _ (.tail _ (List.mem_append_right _ (.head _))) | exact .tail _ (.tail _ (List.mem_append_right _ (.tail _ (.head _)))) | exact .tail _ (.tail _ (List.mem_append_right _ (.tail _ (.tail _ (.head _))))) | exact .tail _ (.tail _ (List.mem_append_right _ (.tail _ (.tail _ (.tail _ (.head _)))))))) (hT.since hL)).mono ?_; rintro e w ⟨rfl, hb⟩; replace hL := hL.call hb; clear hb) | (go_at_call 29; refine (hsum2 _ _ (rd_blk hL (by first | exact .head _ | exact .tail _ (.head _) | exact .tail _ (.tail _ (.head _)) | exact .tail _ (.tail _ (.tail _ (.head _))) | exact .tail _ (.tail _ (.tail _ (.tail _ (.head _)))) | exact .tail _ (.tail _ (.tail _ (.tail _ (.tail _ (.head _))))) | exact List.mem_append_right _ (.head _) | exact List.mem_append_right _ (.tail _ (.head _)) | exact List.mem_append_right _ (.tail _ (.tail _ (.head _))) | exact List.mem_append_right _ (.tail _ (.tail _ (.tail _ (.head _)))) | exact .tail _ (List.mem_append_right _ (.head _)) | exact .tail _ (List.mem_append_right _ (.tail _ (.head _))) | exact .tail _ (List.mem_append_right _ (.tail _ (.tail _ (.head _)))) | exact .tail _ (List.mem_append_right _ (.tail _ (.tail _ (.tail _ (.head _))))) | exact .tail _ (.tail _ (List.mem_append_right _ (.head _))) | exact .tail _ (.tail _ (List.mem_append_right _ (.tail _ (.head _)))) | exact .tail _ (.tail _ (List.mem_append_right _ (.tail _ (.tail _ (.head _))))) | exact .tail _ (.tail _ (List.mem_append_right _ (.tail _ (.tail _ (.tail _ (.head _)))))))) (hT.since hL)).mono ?_; rintro e w ⟨rfl, hb⟩; replace hL := hL.call hb; clear hb) | (refine wpl_alloc hL rfl _ rfl _ z_32 ?_; clear hL; intro b w hL; simp only [Act.put, List.setIfInBounds_toArray, List.set_cons_succ, List.set_cons_zero]) | (refine wpl_strow hL rfl _ _ _ rfl _ rfl _ rfl _ s_32 _ rfl _ _ _ (by first | exact .here | exact .there .here | exact .there (.there .here) | exact .there (.there (.there .here)) | exact .there (.there (.there (.there .here))) | exact .pre (.here) | exact .pre (.there .here) | exact .pre (.there (.there .here))) (rowF_one _ _ fun _ => rfl) (rowF_len _ _) (by exact rowF_len _ _) ?_; clear hL; intro w hL; simp only [Act.put, List.setIfInBounds_toArray, List.set_cons_succ, List.set_cons_zero]))
          obtain ⟨L, m15, m14, m13, m12, mY, mX, hL⟩ := open7 hL
          go_loopw [16, 17] (fun s i wr => ∃ (q : Nat) (c : Bool), q ≤ 16 ∧ i = .int .i64 q ∧ s = .bool c ∧ Hid (c = true ↔ ∀ j, j < q → f j = g j) ∧ Sees w0 wr L) (fun _ i _ => 16 - (intOf i).toNat)
          case atStart => exact ⟨0, true, by decide, rfl, rfl, Lib.hid (by simp), hL⟩
          case round =>
            clear hL
            obtain ⟨q, c, hq, rfl, rfl, HQ, hL⟩ := hrel
            by_cases hq16 : q < 16
            · have hq32 : q < 32 := by omega
              have i0 : 0 ≤ (q : Int) := by omega
              have i1 : (q : Int) < 32 := by omega
              cases c with
              | true =>
                go_wp2
                refine wp_region_lex [(.val, _), (.val, _), (.val, _), (.val, _), (.calm, _), (.val, _), (.val, _), (.calm, _), (.val, _), (.val, _), (.val, _)] rfl mixed (by kernel_rfl) ?_
                replace hL := hL.drew
                repeat (first | (refine wpLex_calm rfl _ (run_load_plain rfl p_u8 rfl (hL.at m14 (rowF_at 32 _ _ hq32))) ?_; simp only [Act.put, List.setIfInBounds_toArray, List.set_cons_succ, List.set_cons_zero]) | (refine wpLex_calm rfl _ (run_load_plain rfl p_u8 rfl (hL.at m15 (rowF_at 32 _ _ hq32))) ?_; simp only [Act.put, List.setIfInBounds_toArray, List.set_cons_succ, List.set_cons_zero]) | (refine wpLex_val rfl _ (fun w2 => by (go_simp; try rfl)) ?_; simp only [Act.put, List.setIfInBounds_toArray, List.set_cons_succ, List.set_cons_zero]))
                refine wpLex_nil ?_
                go_wp2
                refine ⟨⟨q + 1, _, by omega, rfl, rfl, Lib.hid ?_, hL⟩, ?_⟩
                · have := HQ.out.1 (by first | rfl | trivial)
                  constructor
                  · intro h j hj
                    by_cases e : j = q
                    · rw [e]; simpa using h
                    · exact this j (by omega)
                  · intro h
                    have := h q (by omega)
                    simpa using this
                · simp [intOf]; omega
              | false =>
                go_wp2
                refine wp_region_lex [(.val, _), (.val, _), (.val, _), (.val, _), (.calm, _), (.val, _), (.val, _), (.calm, _), (.val, _), (.val, _), (.val, _)] rfl mixed (by kernel_rfl) ?_
                replace hL := hL.drew
                (refine wpLex_val rfl _ (fun w2 => by (go_simp; try rfl)) ?_; simp only [Act.put, List.setIfInBounds_toArray, List.set_cons_succ, List.set_cons_zero])
                (refine wpLex_val rfl _ (fun w2 => by (go_simp; try rfl)) ?_; simp only [Act.put, List.setIfInBounds_toArray, List.set_cons_succ, List.set_cons_zero])
                iterate 7 (refine wpLex_skip rfl ?_; simp only [Act.put, List.setIfInBounds_toArray, List.set_cons_succ, List.set_cons_zero])
                (refine wpLex_val rfl _ (fun w2 => by (go_simp; try rfl)) ?_; simp only [Act.put, List.setIfInBounds_toArray, List.set_cons_succ, List.set_cons_zero])
                (refine wpLex_val rfl _ (fun w2 => by (go_simp; try rfl)) ?_; simp only [Act.put, List.setIfInBounds_toArray, List.set_cons_succ, List.set_cons_zero])
                refine wpLex_nil ?_
                go_wp2
                refine ⟨⟨q + 1, false, by omega, rfl, rfl, Lib.hid ?_, hL⟩, ?_⟩
                · constructor
                  · intro h; simp at h
                  · intro h
                    exact HQ.out.2 fun j hj => h j (by omega)
                · simp [intOf]; omega
            · obtain rfl : q = 16 := by omega
              obtain rfl : E = c := by
                rw [HE.out, Bool.eq_iff_iff, HQ.out]
                simp
              go_wp2_with (first | (refine wpl_run rfl (exec_toString u_bytes u_u8 u_string (rd_blk hL mX) rfl rfl) ?_; simp only [Act.put, List.setIfInBounds_toArray, List.set_cons_succ, List.set_cons_zero]) | (refine wpl_run rfl (exec_toString u_bytes u_u8 u_string (rd_blk hL mY) rfl rfl) ?_; simp only [Act.put, List.setIfInBounds_toArray, List.set_cons_succ, List.set_cons_zero]) | (refine wpl_run rfl (run_load_row hL rfl a_16 rfl m12 (rowF_len _ _)) ?_; simp only [Act.put, List.setIfInBounds_toArray, List.set_cons_succ, List.set_cons_zero]) | (refine wpl_run rfl (run_load_row hL rfl a_16 rfl m13 (rowF_len _ _)) ?_; simp only [Act.put, List.setIfInBounds_toArray, List.set_cons_succ, List.set_cons_zero]))
              go_ret
              exact ⟨rfl, hL.below⟩
      · cases S with
        | true =>
          obtain rfl : X = Y := hXY.out.2 (by
            have h := HS.out.1 (by first | rfl | trivial)
            have hk : k = l.length := by omega
            rw [hk] at h
            exact ⟨h.1, (eqTo_all l m (hlen h.1)).1 h.2⟩)
          go_wp2_with (first | (refine wpl_run rfl (run_load_plain rfl p_u8 rfl (hL.at (by first | exact .head _ | exact .tail _ (.head _) | exact .tail _ (.tail _ (.head _)) | exact .tail _ (.tail _ (.tail _ (.head _))) | exact .tail _ (.tail _ (.tail _ (.tail _ (.head _)))) | exact .tail _ (.tail _ (.tail _ (.tail _ (.tail _ (.head _))))) | exact List.mem_append_right _ (.head _) | exact List.mem_append_right _ (.tail _ (.head _)) | exact List.mem_append_right _ (.tail _ (.tail _ (.head _))) | exact List.mem_append_right _ (.tail _ (.tail _ (.tail _ (.head _)))) | exact .tail _ (List.mem_append_right _ (.head _)) | exact .tail _ (List.mem_append_right _ (.tail _ (.head _))) | exact .tail _ (List.mem_append_right _ (.tail _ (.tail _ (.head _)))) | exact .tail _ (List.mem_append_right _ (.tail _ (.tail _ (.tail _ (.head _))))) | exact .tail _ (.tail _ (List.mem_append_right _ (.head _))) | exact .tail _ (.tail _ (List.mem_append_right _ (.tail _ (.head _)))) | exact .tail _ (.tail _ (List.mem_append_right _ (.tail _ (.tail _ (.head _))))) | exact .tail _ (.tail _ (List.mem_append_right _ (.tail _ (.tail _ (.tail _ (.head _))))))) hC0)) ?_; simp only [Act.put, List.setIfInBounds_toArray, List.set_cons_succ, List.set_cons_zero]) | (refine wpl_run rfl (run_load_plain rfl p_u8 rfl (hL.at (by first | exact .head _ | exact .tail _ (.head _) | exact .tail _ (.tail _ (.head _)) | exact .tail _ (.tail _ (.tail _ (.head _))) | exact .tail _ (.tail _ (.tail _ (.tail _ (.head _)))) | exact .tail _ (.tail _ (.tail _ (.tail _ (.tail _ (.head _))))) | exact List.mem_append_right _ (.head _) | exact List.mem_append_right _ (.tail _ (.head _)) | exact List.mem_append_right _ (.tail _ (.tail _ (.head _))) | exact List.mem_append_right _ (.tail _ (.tail _ (.tail _ (.head _)))) | exact .tail _ (List.mem_append_right _ (.head _)) | exact .tail _ (List.mem_append_right _ (.tail _ (.head _))) | exact .tail _ (List.mem_append_right _ (.tail _ (.tail _ (.head _)))) | exact .tail _ (List.mem_append_right _ (.tail _ (.tail _ (.tail _ (.head _))))) | exact .tail _ (.tail _ (List.mem_append_right _ (.head _))) | exact .tail _ (.tail _ (List.mem_append_right _ (.tail _ (.head _)))) | exact .tail _ (.tail _ (List.mem_append_right _ (.tail _ (.tail _ (.head _))))) | exact .tail _ (.tail _ (List.mem_append_right _ (.tail _ (.tail _ (.tail _ (.head _))))))) hC1)) ?_; simp only [Act.put, List.setIfInBounds_toArray, List.set_cons_succ, List.set_cons_zero]) | (go_at_call 36; refine (hin1 _ _ hL).mono ?_; rintro e w ⟨bb, cc, rr, rfl, hM⟩; replace hL := (show Sees _ _ (_ :: _) from hL.join hM); clear hM) | (go_at_call 36; refine (hin2 _ _ hL).mono ?_; rintro e w ⟨bb, cc, rr, rfl, hM⟩; replace hL := (show Sees _ _ (_ :: _) from hL.join hM); clear hM) | (refine wpl_run rfl (exec_toString u_bytes u_u8 u_string (rd_blk hL (by first | exact .head _ | exact .tail _ (.head _) | exact .tail _ (.tail _ (.head _)) | exact .tail _ (.tail _ (.tail _ (.head _))) | exact .tail _ (.tail _ (.tail _ (.tail _ (.head _)))) | exact .tail _ (.tail _ (.tail _ (.tail _ (.tail _ (.head _))))) | exact List.mem_append_right _ (.head _) | exact List.mem_append_right _ (.tail _ (.head _)) | exact List.mem_append_right _ (.tail _ (.tail _ (.head _))) | exact List.mem_append_right _ (.tail _ (.tail _ (.tail _ (.head _)))) | exact .tail _ (List.mem_append_right _ (.head _)) | exact .tail _ (List.mem_append_right _ (.tail _ (.head _))) | exact .tail _ (List.mem_append_right _ (.tail _ (.tail _ (.head _)))) | exact .tail _ (List.mem_append_right _ (.tail _ (.tail _ (.tail _ (.head _))))) | exact .tail _ (.tail _ (List.mem_append_right _ (.head _))) | exact .tail _ (.tail _ (List.mem_append_right _ (.tail _ (.head _)))) | exact .tail _ (.tail _ (List.mem_append_right _ (.tail _ (.tail _ (.head _))))) | exact .tail _ (.tail _ (List.mem_append_right _ (.tail _ (.tail _ (.tail _ (.head _)))))))) rfl rfl) ?_; simp only [Act.put, List.setIfInBounds_toArray, List.set_cons_succ, List.set_cons_zero]))
          go_ret
          exact ⟨rfl, hL.below⟩
        | false =>
          have hn : X ≠ Y := by
            intro h
            have := hXY.out.1 h
            exact absurd (HS.out.2 ⟨this.1, by rw [this.2]; exact fun _ _ => rfl⟩) (by simp)
          have hn1 : (X == Y) = false := by simpa using hn
          go_wp2_with (first | (refine wpl_run rfl (run_load_plain rfl p_u8 rfl (hL.at (by first | exact .head _ | exact .tail _ (.head _) | exact .tail _ (.tail _ (.head _)) | exact .tail _ (.tail _ (.tail _ (.head _))) | exact .tail _ (.tail _ (.tail _ (.tail _ (.head _)))) | exact .tail _ (.tail _ (.tail _ (.tail _ (.tail _ (.head _))))) | exact List.mem_append_right _ (.head _) | exact List.mem_append_right _ (.tail _ (.head _)) | exact List.mem_append_right _ (.tail _ (.tail _ (.head _))) | exact List.mem_append_right _ (.tail _ (.tail _ (.tail _ (.head _)))) | exact .tail _ (List.mem_append_right _ (.head _)) | exact .tail _ (List.mem_append_right _ (.tail _ (.head _))) | exact .tail _ (List.mem_append_right _ (.tail _ (.tail _ (.head _)))) | exact .tail _ (List.mem_append_right _ (.tail _ (.tail _ (.tail _ (.head _))))) | exact .tail _ (.tail _ (List.mem_append_right _ (.head _))) | exact .tail _ (.tail _ (List.mem_append_right _ (.tail _ (.head _)))) | exact .tail _ (.tail _ (List.mem_append_right _ (.tail _ (.tail _ (.head _))))) | exact .tail _ (.tail _ (List.mem_append_right _ (.tail _ (.tail _ (.tail _ (.head _))))))) hC0)) ?_; simp only [Act.put, List.setIfInBounds_toArray, List.set_cons_succ, List.set_cons_zero]) | (refine wpl_run rfl (run_load_plain rfl p_u8 rfl (hL.at (by first | exact .head _ | exact .tail _ (.head _) | exact .tail _ (.tail _ (.head _)) | exact .tail _ (.tail _ (.tail _ (.head _))) | exact .tail _ (.tail _ (.tail _ (.tail _ (.head _)))) | exact .tail _ (.tail _ (.tail _ (.tail _ (.tail _ (.head _))))) | exact List.mem_append_right _ (.head _) | exact List.mem_append_right _ (.tail _ (.head _)) | exact List.mem_append_right _ (.tail _ (.tail _ (.head _))) | exact List.mem_append_right _ (.tail _ (.tail _ (.tail _ (.head _)))) | exact .tail _ (List.mem_append_right _ (.head _)) | exact .tail _ (List.mem_append_right _ (.tail _ (.head _))) | exact .tail _ (List.mem_append_right _ (.tail _ (.tail _ (.head _)))) | exact .tail _ (List.mem_append_right _ (.tail _ (.tail _ (.tail _ (.head _))))) | exact .tail _ (.tail _ (List.mem_append_right _ (.head _))) | exact .tail _ (.tail _ (List.mem_append_right _ (.tail _ (.head _)))) | exact .tail _ (.tail _ (List.mem_append_right _ (.tail _ (.tail _ (.head _))))) | exact .tail _ (.tail _ (List.mem_append_right _ (.tail _ (.tail _ (.tail _ (.head _))))))) hC1)) ?_; simp only [Act.put, List.setIfInBounds_toArray, List.set_cons_succ, List.set_cons_zero]) | (go_at_call 36; refine (hin1 _ _ hL).mono ?_; rintro e w ⟨bb, cc, rr, rfl, hM⟩; replace hL := (show Sees _ _ (_ :: _) from hL.join hM); clear hM) | (go_at_call 36; refine (hin2 _ _ hL).mono ?_; rintro e w ⟨bb, cc, rr, rfl, hM⟩; replace hL := (show Sees _ _ (_ :: _) from hL.join hM); clear hM) | (go_at_call 34; refine (hof1 _ _ hL).mono ?_; rintro e w ⟨rfl, hb⟩; replace hL := hL.call hb; clear hb) | (go_at_call 34; refine (hof2 _ _ hL).mono ?_; rintro e w ⟨rfl, hb⟩; replace hL := hL.call hb; clear hb) | (refine wpl_alloc hL rfl _ rfl _ z_16 ?_; clear hL; intro b w hL; simp only [Act.put, List.setIfInBounds_toArray, List.set_cons_succ, List.set_cons_zero]) | (refine wpl_strow hL rfl _ _ _ rfl _ rfl _ rfl _ s_16 _ rfl _ _ _ (by first | exact .here | exact .there .here | exact .there (.there .here) | exact .there (.there (.there .here)) | exact .there (.there (.there (.there .here))) | exact .pre (.here) | exact .pre (.there .here) | exact .pre (.there (.there .here))) (rowF_one _ _ fun _ => rfl) (rowF_len _ _) (by exact rowF_len _ _) ?_; clear hL; intro w hL; simp only [Act.put, List.setIfInBounds_toArray, List.set_cons_succ, List.set_cons_zero]) | (go_at_call 29; refine (hsum1 _ _ (rd_blk hL (by first | exact .head _ | exact .tail _ (.head _) | exact .tail _ (.tail _ (.head _)) | exact .tail _ (.tail _ (.tail _ (.head _))) | exact .tail _ (.tail _ (.tail _ (.tail _ (.head _)))) | exact .tail _ (.tail _ (.tail _ (.tail _ (.tail _ (.head _))))) | exact List.mem_append_right _ (.head _) | exact List.mem_append_right _ (.tail _ (.head _)) | exact List.mem_append_right _ (.tail _ (.tail _ (.head _))) | exact List.mem_append_right _ (.tail _ (.tail _ (.tail _ (.head _)))) | exact .tail _ (List.mem_append_right _ (.head _)) | exact .tail _ (List.mem_append_right _ (.tail _ (.head _))) | exact .tail _ (List.mem_append_right _ (.tail _ (.tail _ (.head _)))) | exact .tail _ (List.mem_append_right _ (.tail _ (.tail _ (.tail _ (.head _))))) | exact .tail _ (.tail _ (List.mem_append_right _ (.head _))) | exact .tail _ (.tail _ (List.mem_append_right _ (.tail _ (.head _)))) | exact .tail _ (.tail _ (List.mem_append_right _ (.tail _ (.tail _ (.head _))))) | exact .tail _ (.tail _ (List.mem_append_right _ (.tail _ (.tail _ (.tail _ (.head _)))))))) (hT.since hL)).mono ?_; rintro e w ⟨rfl, hb⟩; replace hL := hL.call hb; clear hb) | (go_at_call 29; refine (hsum2 _ _ (rd_blk hL (by first | exact .head _ | exact .tail _ (.head _) | exact .tail _ (.tail _ (.head _)) | exact .tail _ (.tail _ (.tail _ (.head _))) | exact .tail _ (.tail _ (.tail _ (.tail _ (.head _)))) | exact .tail _ (.tail _ (.tail _ (.tail _ (.tail _ (.head _))))) | exact List.mem_append_right _ (.head _) | exact List.mem_append_right _ (.tail _ (.head _)) | exact List.mem_append_right _ (.tail _ (.tail _ (.head _))) | exact List.mem_append_right _ (.tail _ (.tail _ (.tail _ (.head _)))) | exact .tail _ (List.mem_append_right _ (.head _)) | exact .tail _ (List.mem_append_right _ (.tail _ (.head _))) | exact .tail _ (List.mem_append_right _ (.tail _ (.tail _ (.head _)))) | exact .tail _ (List.mem_append_right _ (.tail _ (.tail _ (.tail _ (.head _))))) | exact .tail _ (.tail _ (List.mem_append_right _ (.head _))) | exact .tail _ (.tail _ (List.mem_append_right _ (.tail _ (.head _)))) | exact .tail _ (.tail _ (List.mem_append_right _ (.tail _ (.tail _ (.head _))))) | exact .tail _ (.tail _ (List.mem_append_right _ (.tail _ (.tail _ (.tail _ (.head _)))))))) (hT.since hL)).mono ?_; rintro e w ⟨rfl, hb⟩; replace hL := hL.call hb; clear hb) | (refine wpl_alloc hL rfl _ rfl _ z_32 ?_; clear hL; intro b w hL; simp only [Act.put, List.setIfInBounds_toArray, List.set_cons_succ, List.set_cons_zero]) | (refine wpl_strow hL rfl _ _ _ rfl _ rfl _ rfl _ s_32 _ rfl _ _ _ (by first | exact .here | exact .there .here | exact .there (.there .here) | exact .there (.there (.there .here)) | exact .there (.there (.there (.there .here))) | exact .pre (.here) | exact .pre (.there .here) | exact .pre (.there (.there .here))) (rowF_one _ _ fun _ => rfl) (rowF_len _ _) (by exact rowF_len _ _) ?_; clear hL; intro w hL; simp only [Act.put, List.setIfInBounds_toArray, List.set_cons_succ, List.set_cons_zero]))
          obtain ⟨L, m15, m14, m13, m12, mY, mX, hL⟩ := open7 hL
          go_loopw [16, 17] (fun s i wr => ∃ (q : Nat) (c : Bool), q ≤ 16 ∧ i = .int .i64 q ∧ s = .bool c ∧ Hid (c = true ↔ ∀ j, j < q → f j = g j) ∧ Sees w0 wr L) (fun _ i _ => 16 - (intOf i).toNat)
          case atStart => exact ⟨0, true, by decide, rfl, rfl, Lib.hid (by simp), hL⟩
          case round =>
            clear hL
            obtain ⟨q, c, hq, rfl, rfl, HQ, hL⟩ := hrel
            by_cases hq16 : q < 16
            · have hq32 : q < 32 := by omega
              have i0 : 0 ≤ (q : Int) := by omega
              have i1 : (q : Int) < 32 := by omega
              cases c with
              | true =>
                go_wp2
                refine wp_region_lex [(.val, _), (.val, _), (.val, _), (.val, _), (.calm, _), (.val, _), (.val, _), (.calm, _), (.val, _), (.val, _), (.val, _)] rfl mixed (by kernel_rfl) ?_
                replace hL := hL.drew
                repeat (first | (refine wpLex_calm rfl _ (run_load_plain rfl p_u8 rfl (hL.at m14 (rowF_at 32 _ _ hq32))) ?_; simp only [Act.put, List.setIfInBounds_toArray, List.set_cons_succ, List.set_cons_zero]) | (refine wpLex_calm rfl _ (run_load_plain rfl p_u8 rfl (hL.at m15 (rowF_at 32 _ _ hq32))) ?_; simp only [Act.put, List.setIfInBounds_toArray, List.set_cons_succ, List.set_cons_zero]) | (refine wpLex_val rfl _ (fun w2 => by (go_simp; try rfl)) ?_; simp only [Act.put, List.setIfInBounds_toArray, List.set_cons_succ, List.set_cons_zero]))
                refine wpLex_nil ?_
                go_wp2
                refine ⟨⟨q + 1, _, by omega, rfl, rfl, Lib.hid ?_, hL⟩, ?_⟩
                · have := HQ.out.1 (by first | rfl | trivial)
                  constructor
                  · intro h j hj
                    by_cases e : j = q
                    · rw [e]; simpa using h
                    · exact this j (by omega)
                  · intro h
                    have := h q (by omega)
                    simpa using this
                · simp [intOf]; omega
              | false =>
                go_wp2
                refine wp_region_lex [(.val, _), (.val, _), (.val, _), (.val, _), (.calm, _), (.val, _), (.val, _), (.calm, _), (.val, _), (.val, _), (.val, _)] rfl mixed (by kernel_rfl) ?_
                replace hL := hL.drew
                (refine wpLex_val rfl _ (fun w2 => by (go_simp; try rfl)) ?_; simp only [Act.put, List.setIfInBounds_toArray, List.set_cons_succ, List.set_cons_zero])
                (refine wpLex_val rfl _ (fun w2 => by (go_simp; try rfl)) ?_; simp only [Act.put, List.setIfInBounds_toArray, List.set_cons_succ, List.set_cons_zero])
                iterate 7 (refine wpLex_skip rfl ?_; simp only [Act.put, List.setIfInBounds_toArray, List.set_cons_succ, List.set_cons_zero])
                (refine wpLex_val rfl _ (fun w2 => by (go_simp; try rfl)) ?_; simp only [Act.put, List.setIfInBounds_toArray, List.set_cons_succ, List.set_cons_zero])
                (refine wpLex_val rfl _ (fun w2 => by (go_simp; try rfl)) ?_; simp only [Act.put, List.setIfInBounds_toArray, List.set_cons_succ, List.set_cons_zero])
                refine wpLex_nil ?_
                go_wp2
                refine ⟨⟨q + 1, false, by omega, rfl, rfl, Lib.hid ?_, hL⟩, ?_⟩
                · constructor
                  · intro h; simp at h
                  · intro h
                    exact HQ.out.2 fun j hj => h j (by omega)
                · simp [intOf]; omega
            · obtain rfl : q = 16 := by omega
              obtain rfl : E = c := by
                rw [HE.out, Bool.eq_iff_iff, HQ.out]
                simp
              go_wp2_with (first | (refine wpl_run rfl (exec_toString u_bytes u_u8 u_string (rd_blk hL mX) rfl rfl) ?_; simp only [Act.put, List.setIfInBounds_toArray, List.set_cons_succ, List.set_cons_zero]) | (refine wpl_run rfl (exec_toString u_bytes u_u8 u_string (rd_blk hL mY) rfl rfl) ?_; simp only [Act.put, List.setIfInBounds_toArray, List.set_cons_succ, List.set_cons_zero]) | (refine wpl_run rfl (run_load_row hL rfl a_16 rfl m12 (rowF_len _ _)) ?_; simp only [Act.put, List.setIfInBounds_toArray, List.set_cons_succ, List.set_cons_zero]) | (refine wpl_run rfl (run_load_row hL rfl a_16 rfl m13 (rowF_len _ _)) ?_; simp only [Act.put, List.setIfInBounds_toArray, List.set_cons_succ, List.set_cons_zero]))
              go_ret
              exact ⟨rfl, hL.below⟩
end Go.Proofs.YtkkmkfkgmioblaaDoor
