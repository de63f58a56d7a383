/- The law of the hash chapter over tags and parts. -/
import Derived.Test.YtkkmkfkgmioblaaDoorLawC
set_option linter.unusedVariables false
set_option linter.unusedSimpArgs false
namespace Go.Proofs.YtkkmkfkgmioblaaDoor
open Go Go.RowKit Go.Lx CrcMath Go.Proofs.YtkkmkfkgmioblaaDoorW.PrintWords
attribute [local irreducible] Calls

theorem dig_eq (st su : St) (w : World) : (Op.equalIn 10000 58 (.agg (rowF 16 fun i => .int .u8 (outB st i)).toArray) (.agg (rowF 16 fun i => .int .u8 (outB su i)).toArray)).run Tryd.prog w = .ok ((List.range 16).all fun i => outB st i == outB su i) w :=
  run_eq_row (P := Tryd.prog) 9998 u_dig u_u8 s_u8 (outB st) (outB su) w
theorem dig_same (l : List UInt8) (w : World) : (Op.equalIn 10000 58 (.agg (digV l).toArray) (.agg (digV l).toArray)).run Tryd.prog w = .ok true w := by
  unfold digV
  rw [dig_eq]
  congr 1
  simp only [beq_self_eq_true, List.all_eq_true]
  exact fun _ _ => trivial
theorem flat_bound : ∀ (l : List ByteArray), (∀ t ∈ l, t.size ≤ 400) → (l.flatMap fun t => encB t.data.toList).length ≤ l.length * 1201
  | [], _ => by simp
  | t :: l, h => by
    have h1 := flat_bound l (fun x hx => h x (.tail _ hx))
    have h2 := h t (.head _)
    have h3 := enc_len t
    rw [List.flatMap_cons, List.length_append, List.length_cons, Nat.add_mul]
    omega
theorem inB_bound (tag : Int) (l : List ByteArray) (h12 : l.length ≤ 12) (hs : ∀ t ∈ l, t.size ≤ 400) : (inB tag l).length ≤ 14413 := by
  unfold inB
  rw [List.length_cons]
  have := flat_bound l hs
  omega
theorem and255 (a : Int) : Go.bits BinOp.and IntKind.i64 a 255 = a % 256 := by
  unfold Go.bits
  have e2 : BitVec.ofInt IntKind.i64.bits 255 = BitVec.ofNat 64 255 := rfl
  have e3 : (BitVec.ofInt 64 a &&& BitVec.ofNat 64 255).toNat = (a % 256).toNat := by
    rw [BitVec.toNat_and, BitVec.toNat_ofInt, BitVec.toNat_ofNat, show 255 % 2 ^ 64 = 2 ^ 8 - 1 from rfl, Nat.and_two_pow_sub_one_eq_mod]
    omega
  simp only [e2]
  show IntKind.i64.wrap ((BitVec.ofInt 64 a &&& BitVec.ofNat 64 255).toNat : Int) = _
  rw [e3, IntKind.wrap_i64]
  omega
theorem tagB_low (tag : Int) : tagB (Go.bits .and .i64 tag 255) = tagB tag := by
  unfold tagB
  rw [and255, Int.emod_emod]
theorem en_refof : enterable Tryd.prog 35 = true := by kernel_rfl

set_option maxHeartbeats 2000000 in
theorem ofmatch_any (tag : Int) (a : Option Addr) (cap : Nat) (l : List ByteArray) (w0 : World) (hR : Rd w0 (.slice a l.length cap) l.length 1 (strV l)) (hl : l.length ≤ 9223372036854775807) (hT : Tab w0) (hTR : TabR w0) :
    Calls Tryd.prog 13 #[.int .i64 tag, .slice a l.length cap] w0 fun e w' => e = .returned (.bool true) ∧ Below w0.heap.size w0 w' := by
  have hL := Sees.refl w0
  by_cases hF : fewB l = true
  · obtain ⟨h12, hs⟩ := fewB_true hF
    have hfew := fun w (hL : Sees w0 w []) => few_any _ l w (hR.sees hL) (by omega)
    rw [hF] at hfew
    clear hF
    obtain ⟨D, hD⟩ : ∃ D, D = digV (inB tag l) := ⟨_, rfl⟩
    have hs' : ∀ t ∈ l, t.size ≤ 1000000 := fun t ht => Nat.le_trans (hs t ht) (by decide)
    have h1 : ∀ X w, tagB X = tagB tag → Rd w (.slice a l.length cap) l.length 1 (strV l) → Tab w → Calls Tryd.prog 34 #[.int .i64 X, .slice a l.length cap] w fun e w' => e = .returned (.agg D.toArray) ∧ Below w.heap.size w w' := fun X w hX hR hT => by
      have := of_any X _ l w hR (by omega) hs' hT
      have e : inB X l = inB tag l := by unfold inB; rw [hX]
      rw [e] at this
      rw [hD]; exact this
    have h2 : ∀ w, Rd w (.slice a l.length cap) l.length 1 (strV l) → TabR w → Calls Tryd.prog 35 #[.int .i64 tag, .slice a l.length cap] w fun e w' => e = .returned (.agg D.toArray) ∧ Below w.heap.size w w' := fun w hR hT => by
      have := refof_any tag _ l w hR (by omega) hs' (Nat.le_trans (inB_bound tag l h12 hs) (by decide)) hT
      rw [hD]; exact this
    have hl1 : Hid (D.length = 16) := Lib.hid (by rw [hD]; exact digV_len _)
    have ho1 : ∀ u ∈ D, u.one1 = true := by rw [hD]; exact digV_one _
    have heq : ∀ w, (Op.equalIn 10000 58 (.agg D.toArray) (.agg D.toArray)).run Tryd.prog w = .ok true w := by rw [hD]; exact dig_same _
    clear hD
    go_enter Tryd.func13, Tryd.ntmps13
    go_wp2_with (first | (go_at_call 15; refine (sanity_any _ (hT.since hL)).mono ?_; rintro e w ⟨rfl, hb⟩; replace hL := hL.call hb; clear hb) | (go_at_call 18; refine (hfew _ hL).mono ?_; rintro e w ⟨rfl, rfl⟩) | (go_at_call 34; refine (h1 tag _ rfl (hR.sees hL) (hT.since hL)).mono ?_; rintro e w ⟨rfl, hb⟩; replace hL := hL.call hb; clear hb) | (refine wpl_alloc hL rfl _ rfl _ z_16 ?_; clear hL; intro b w hL; simp only [Act.put, List.setIfInBounds_toArray, List.set_cons_succ, List.set_cons_zero]) | (refine wpl_strow hL rfl _ _ _ rfl _ rfl _ rfl _ s_16 _ rfl _ _ _ (by first | exact .here | exact .there .here | exact .there (.there .here) | exact .there (.there (.there .here)) | exact .there (.there (.there (.there .here))) | exact .pre (.here) | exact .pre (.there .here) | exact .pre (.there (.there .here))) ho1 hl1.out (by exact rowF_len _ _) ?_; clear hL; intro w hL; simp only [Act.put, List.setIfInBounds_toArray, List.set_cons_succ, List.set_cons_zero]))
    refine wp_region_lex [(.val, _), (.val, _), (.old, _), (.val, _), (.val, _), (.ext, _), (.val, _), (.val, _), (.val, _), (.old, _), (.val, _), (.val, _), (.val, _), (.ext, _), (.val, _), (.val, _), (.val, _)] rfl mixed (by kernel_rfl) ?_
    replace hL := hL.drew
    have hI := hL
    have hS : Since w.drew w.drew := Below.refl _ _
    have hRI := hR.sees hL
    repeat (first | (refine wpLex_old rfl hS _ (fun w2 hS2 => run_load_row (hI.call hS2) rfl a_16 rfl (by first | exact .head _ | exact .tail _ (.head _) | exact .tail _ (.tail _ (.head _)) | exact .tail _ (.tail _ (.tail _ (.head _))) | exact .tail _ (.tail _ (.tail _ (.tail _ (.head _)))) | exact .tail _ (.tail _ (.tail _ (.tail _ (.tail _ (.head _))))) | exact List.mem_append_right _ (.head _) | exact List.mem_append_right _ (.tail _ (.head _)) | exact List.mem_append_right _ (.tail _ (.tail _ (.head _))) | exact List.mem_append_right _ (.tail _ (.tail _ (.tail _ (.head _)))) | exact .tail _ (List.mem_append_right _ (.head _)) | exact .tail _ (List.mem_append_right _ (.tail _ (.head _))) | exact .tail _ (List.mem_append_right _ (.tail _ (.tail _ (.head _)))) | exact .tail _ (List.mem_append_right _ (.tail _ (.tail _ (.tail _ (.head _))))) | exact .tail _ (.tail _ (List.mem_append_right _ (.head _))) | exact .tail _ (.tail _ (List.mem_append_right _ (.tail _ (.head _)))) | exact .tail _ (.tail _ (List.mem_append_right _ (.tail _ (.tail _ (.head _))))) | exact .tail _ (.tail _ (List.mem_append_right _ (.tail _ (.tail _ (.tail _ (.head _))))))) hl1.out) ?_; simp only [Act.put, List.setIfInBounds_toArray, List.set_cons_succ, List.set_cons_zero]) | (refine xx_call en_refof rfl hS rfl rfl rfl (h2 _ (hRI.below hS) ((hTR.since hI).below hS)) ?_; rintro e w ⟨rfl, hb⟩; replace hS := hS.trans (hb.mono hS.size); refine ⟨_, rfl, hS, ?_⟩; clear hb; simp only [Act.put, List.setIfInBounds_toArray, List.set_cons_succ, List.set_cons_zero]) | (refine xx_call en_of rfl hS rfl rfl rfl (h1 _ _ ?tg (hRI.below hS) ((hT.since hI).below hS)) ?_; rotate_left; rintro e w ⟨rfl, hb⟩; replace hS := hS.trans (hb.mono hS.size); refine ⟨_, rfl, hS, ?_⟩; clear hb; simp only [Act.put, List.setIfInBounds_toArray, List.set_cons_succ, List.set_cons_zero]) | (refine wpLex_val rfl _ (fun w2 => by (go_simp; try rfl)) ?_; simp only [Act.put, List.setIfInBounds_toArray, List.set_cons_succ, List.set_cons_zero]))
    case tg => exact tagB_low tag
    refine wpLex_nil ?_
    go_wp2
    go_ret
    exact ⟨rfl, (hI.call hS).below⟩
  · have hF : fewB l = false := by simpa using hF
    have hfew := fun w (hL : Sees w0 w []) => few_any _ l w (hR.sees hL) (by omega)
    rw [hF] at hfew
    clear hF
    go_enter Tryd.func13, Tryd.ntmps13
    go_wp2_with (first | (go_at_call 15; refine (sanity_any _ (hT.since hL)).mono ?_; rintro e w ⟨rfl, hb⟩; replace hL := hL.call hb; clear hb) | (go_at_call 18; refine (hfew _ hL).mono ?_; rintro e w ⟨rfl, rfl⟩))
    go_ret
    exact ⟨rfl, hL.below⟩
end Go.Proofs.YtkkmkfkgmioblaaDoor
namespace Go.Proofs.YtkkmkfkgmioblaaDoor.P
open Go Go.RowKit Go.Lx Go.Proofs.YtkkmkfkgmioblaaDoor Go.Proofs.YtkkmkfkgmioblaaDoorW.PrintWords
theorem antiquarylaw02_HashOfMatchesSpec.walk (_ : True) (a0 : Int) (a1 : Option Addr) (len1 cap1 : Nat) (z1 : List ByteArray) (w : World) (w0 : (Lit.int .i64 a0).wf = true) (w1 : len1 = z1.length ∧ z1.length ≤ cap1 ∧ Kd.string.C w a1 z1.length z1) (hT : Tab w) (hTR : TabR w) :
    Calls Tryd.prog 13 #[.int .i64 a0, .slice a1 len1 cap1] w fun e w' => e = .returned (.bool true) ∧ Below w.heap.size w w' := by
  obtain ⟨rfl, hc, hC⟩ := w1
  exact ofmatch_any a0 a1 cap1 z1 w (rd_of_C hC) hC.2.1 hT hTR
end Go.Proofs.YtkkmkfkgmioblaaDoor.P
