/- The laws of the hash chapter that the print does not take: byte sequences against the specification. -/
import Derived.Test.YtkkmkfkgmioblaaDoorRefOf
import Derived.Test.YtkkmkfkgmioblaaDoorSane
import Derived.Test.YtkkmkfkgmioblaaDoorCrc
set_option linter.unusedVariables false
set_option linter.unusedSimpArgs false
namespace Go.Lx
open Go Go.RowKit Go.Proofs.YtkkmkfkgmioblaaDoorW.PrintWords
def slCap : Value → Nat
  | .slice _ _ c => c
  | _ => 0
section
variable {P : Program} {o : Oper} {a : Act} {w0 w : World} {K : Act → World → Prop} {Q : Exit → Act → World → Prop}
theorem wp_toBytesC {L : List Blk} (hL : Sees w0 w L) {src dst e : TypeId} (hs : P.underlying src = some .string) (hd : P.underlying dst = some (.slice e)) (he : P.underlying e = some (.int .u8)) {x : Operand} (ho : o.op = .convert src dst x) {s : ByteArray} (hx : a.eval x = .string s)
    (h : ∀ v w', Sees w0 w' L → Rd w' v s.size 1 (bytesV s.data.toList) → s.size ≤ slCap v → K (a.put o.dst v) w') : o.wp P a w K Q := by
  have hr := Lib.run_convert_string_bytes (P := P) w src dst e s hs hd he
  unfold Oper.wp execOp
  simp [ho, hx, Sem.run_bind, hr]
  refine h _ _ ⟨⟨?_, ?_, ?_, ?_, ?_⟩, hL.own, fun f hf => ?_, hL.nd⟩ ⟨⟨_, _, rfl, fun _ => ⟨_, rfl, fun j y hy => ?_⟩⟩, ?_⟩ (grownCap_ge w s.size 0 e)
  · exact hL.below.os
  · exact hL.below.tape
  · exact hL.below.output
  · rw [Lib.bytesWorld_size]; have := hL.size; omega
  · intro k hk
    rw [Lib.bytesWorld_at_old w e s k (by have := hL.size; omega)]
    exact hL.below.block k hk
  · exact (Lib.bytesWorld_at_old w e s f.b (hL.inn f hf).lt).trans (hL.inn f hf)
  · have hj : j < s.size := by
      rcases Nat.lt_or_ge j s.size with h | h
      · exact h
      · rw [List.getElem?_eq_none (by simpa [bytesV] using h)] at hy; cases hy
    have e1 : (⟨w.heap.size, 0, none⟩ : Addr).add j = ⟨w.heap.size, j, none⟩ := by unfold Addr.add; split <;> simp_all
    rw [e1, Lib.bytesWorld_cell w e s j hj]
    have := bytesV_at s.data.toList j (by simpa using hj)
    rw [this] at hy
    rw [← hy]
    have hj' : j < s.data.toList.length := by simpa using hj
    rw [List.getD_eq_getElem?_getD, List.getElem?_eq_getElem hj']
    rfl
  · rw [bytesV_length, Nat.mul_one, Array.length_toList]; rfl

end
/-- a slice of bytes that is read is read by the print's words -/
theorem rd_C {w : World} {v : Value} {n : Nat} {l : List UInt8} (h : Rd w v n 1 (bytesV l)) (hl : l.length ≤ 9223372036854775807) (hc : n ≤ slCap v) : ∃ A c, v = .slice A l.length c ∧ l.length ≤ c ∧ (Kd.int .u8).C w A (ofBytes l).length (ofBytes l) := by
  obtain ⟨⟨A, c, rfl, hcell⟩, hn⟩ := h
  have hn' : l.length = n := by simpa [bytesV] using hn
  subst hn'
  refine ⟨A, c, rfl, hc, rfl, by rw [ofBytes_length]; exact hl, fun h0 => ?_⟩
  obtain ⟨ad, e, hc2⟩ := hcell (by intro h; have := congrArg List.length h; rw [bytesV_length] at this; rw [ofBytes_length] at h0; simp at this; subst this; simp at h0)
  refine ⟨ad, e, fun j p hj => ⟨[.int .u8 p], rfl, rfl, fun i u hu => ?_⟩⟩
  have hi : i = 0 := by
    rcases i with _ | i
    · rfl
    · simp at hu
  subst hi
  obtain rfl : Value.int .u8 p = u := by simpa using hu
  rw [show (Kd.int .u8).sz = 1 from rfl, Nat.mul_one, Nat.add_zero]
  refine hc2 j _ ?_
  rw [bytesV_of, List.getElem?_map, hj]; rfl
end Go.Lx
namespace Go.Proofs.YtkkmkfkgmioblaaDoor
open Go Go.RowKit Go.Lx CrcMath Go.Proofs.YtkkmkfkgmioblaaDoorW.PrintWords
attribute [local irreducible] Calls

theorem rd_of_bytes {w : World} {A : Option Addr} {c : Nat} {l : List UInt8} (h : (Kd.int .u8).C w A (ofBytes l).length (ofBytes l)) : Rd w (.slice A l.length c) l.length 1 (bytesV l) := by
  have := rd_of_C (c := c) h
  rw [ofBytes_length, ← bytesV_of] at this
  exact this
theorem str_list (l : List UInt8) : (⟨l.toArray⟩ : ByteArray).data.toList = l := rfl
theorem crc_ref (l : List UInt8) : (runB (BitVec.allOnes 40) l ^^^ BitVec.allOnes 40) = crcB l := by unfold crcB; rw [addB_runB]

set_option maxHeartbeats 2000000 in
theorem crcmatch_any (A : Option Addr) (c : Nat) (l : List UInt8) (w0 : World) (hR : (Kd.int .u8).C w0 A (ofBytes l).length (ofBytes l)) (hl : l.length ≤ 9223372036854775807) (hT : Tab w0) :
    Calls Tryd.prog 3 #[.slice A l.length c] w0 fun e w' => e = .returned (.bool true) ∧ Below w0.heap.size w0 w' := by
  have hL := Sees.refl w0
  have hRd := rd_of_bytes (c := c) hR
  obtain ⟨C, hC1, HC⟩ : ∃ C : Nat, (C : Int) < 1099511627776 ∧ Hid ((C : Int) = ((crcB l).toNat : Int)) := ⟨(crcB l).toNat, by have := (crcB l).isLt; omega, Lib.hid rfl⟩
  have h1 : ∀ v w, Rd w v l.length 1 (bytesV l) → Tab w → Calls Tryd.prog 16 #[v] w fun e w' => e = .returned (.int .i64 (C : Int)) ∧ Below w.heap.size w w' := fun v w hR hT => by
    rw [HC.out]; exact crc40_any v l w hR hl hT
  have h2 : ∀ v w, Rd w v (⟨l.toArray⟩ : ByteArray).size 1 (bytesV (⟨l.toArray⟩ : ByteArray).data.toList) → Calls Tryd.prog 17 #[v] w fun e w' => e = .returned (.int .i64 (C : Int)) ∧ w' = w := fun v w hR => by
    have hR' : Rd w v l.length 1 (bytesV l) := hR
    have := refcrc_any v l w hR' hl
    rw [crc_ref] at this
    rw [HC.out]; exact this
  by_cases h6 : l.length ≤ 600
  · have t1 : decide ((l.length : Int) > 600) = false := by simp; omega
    have t2 : decide ((600 : Int) < (l.length : Int)) = false := by simp; omega
    have t3 : decide (600 < l.length) = false := by simp; omega
    go_enter Tryd.func3, Tryd.ntmps3
    go_wp2_with (first | (go_at_call 15; refine (sanity_any _ (hT.since hL)).mono ?_; rintro e w ⟨rfl, hb⟩; replace hL := hL.call hb; clear hb) | (refine wpl_run rfl (exec_toString u_bytes u_u8 u_string (hRd.sees hL) rfl rfl) ?_; simp only [Act.put, List.setIfInBounds_toArray, List.set_cons_succ, List.set_cons_zero]) | (go_at_call 16; refine (h1 _ _ (hRd.sees hL) (hT.since hL)).mono ?_; rintro e w ⟨rfl, hb⟩; replace hL := hL.call hb; clear hb) | (refine wpl_toBytes hL rfl u_string u_bytes u_u8 rfl rfl ?_; clear hL; intro v w hL hRv; simp only [Act.put, List.setIfInBounds_toArray, List.set_cons_succ, List.set_cons_zero]) | (go_at_call 17; refine ((h2 _ _ hRv)).mono ?_; rintro e w ⟨rfl, rfl⟩))
    go_ret
    exact ⟨rfl, hL.below⟩
  · have t1 : decide ((l.length : Int) > 600) = true := by simp; omega
    have t2 : decide ((600 : Int) < (l.length : Int)) = true := by simp; omega
    have t3 : decide (600 < l.length) = true := by simp; omega
    go_enter Tryd.func3, Tryd.ntmps3
    go_wp2_with (first | (go_at_call 15; refine (sanity_any _ (hT.since hL)).mono ?_; rintro e w ⟨rfl, hb⟩; replace hL := hL.call hb; clear hb))
    go_ret
    exact ⟨rfl, hL.below⟩
end Go.Proofs.YtkkmkfkgmioblaaDoor
namespace Go.Lx
open Go Go.RowKit
theorem xx_toBytes {P : Program} {o : Oper} {a : Act} {w wI : World} {ops : Array Oper} {QL : Act → World → Prop} {lrest : List (Cls × Oper)} (hS : Since wI w) (hw : Region.wanted o (yielded ops a.tmps) = true) {src dst e : TypeId} (hs : P.underlying src = some .string) (hd : P.underlying dst = some (.slice e)) (he : P.underlying e = some (.int .u8)) {x : Operand} (ho : o.op = .convert src dst x) {s : ByteArray} (hx : a.eval x = .string s)
    (h : ∀ v w', Since wI w' → Rd w' v s.size 1 (bytesV s.data.toList) → s.size ≤ slCap v → wpLex P wI ops QL lrest (a.put o.dst v) w') : wpLex P wI ops QL ((.ext, o) :: lrest) a w :=
  wpLex_ext hw hS fun _ hK => wp_toBytesC (⟨hS, fun _ h => (by cases h), fun _ h => (by cases h), List.nodup_nil⟩ : Sees wI w []) hs hd he ho hx fun v w' h1 h2 h3 => hK _ _ h1.below (h v w' h1.below h2 h3)
end Go.Lx
namespace Go.Proofs.YtkkmkfkgmioblaaDoor
open Go Go.RowKit Go.Lx CrcMath Go.Proofs.YtkkmkfkgmioblaaDoorW.PrintWords
attribute [local irreducible] Calls
set_option maxHeartbeats 2000000 in
theorem summatch_any (A : Option Addr) (c : Nat) (l : List UInt8) (w0 : World) (hR : (Kd.int .u8).C w0 A (ofBytes l).length (ofBytes l)) (hT : Tab w0) (hTR : TabR w0) :
    Calls Tryd.prog 11 #[.slice A l.length c] w0 fun e w' => e = .returned (.bool true) ∧ Below w0.heap.size w0 w' := by
  have hL := Sees.refl w0
  have hRd := rd_of_bytes (c := c) hR
  by_cases h6 : l.length ≤ 600
  · obtain ⟨H, hH⟩ : ∃ H, H = shaV l := ⟨_, rfl⟩
    have h1 : ∀ v w, Rd w v l.length 1 (bytesV l) → Tab w → Calls Tryd.prog 29 #[v] w fun e w' => e = .returned (.agg H.toArray) ∧ Below w.heap.size w w' := fun v w hR hT => by
      rw [hH]; exact sum_any v l w hR (by omega) hT
    have hl1 : Hid (H.length = 32) := Lib.hid (by rw [hH]; exact outV_len _)
    have ho1 : ∀ u ∈ H, u.one1 = true := by rw [hH]; exact outV_one _
    have heq : ∀ w, (Op.equalIn 10000 47 (.agg H.toArray) (.agg H.toArray)).run Tryd.prog w = .ok true w := by rw [hH]; exact out_same _
    have h2 : ∀ v w, Rd w v (⟨l.toArray⟩ : ByteArray).size 1 (bytesV (⟨l.toArray⟩ : ByteArray).data.toList) → (⟨l.toArray⟩ : ByteArray).size ≤ slCap v → TabR w → Calls Tryd.prog 30 #[v] w fun e w' => e = .returned (.agg H.toArray) ∧ Below w.heap.size w w' := fun v w hR hc hT => by
      rw [hH]
      obtain ⟨A, c, e1, e2, e3⟩ := rd_C (l := l) hR (by omega) hc
      exact refsha_any v A c l w e1 e3 e2 (by omega) hT
    clear hH
    have t1 : decide ((l.length : Int) > 600) = false := by simp; omega
    have t2 : decide ((600 : Int) < (l.length : Int)) = false := by simp; omega
    have t3 : decide (600 < l.length) = false := by simp; omega
    go_enter Tryd.func11, Tryd.ntmps11
    go_wp2_with (first | (go_at_call 15; refine (sanity_any _ (hT.since hL)).mono ?_; rintro e w ⟨rfl, hb⟩; replace hL := hL.call hb; clear hb) | (refine wpl_run rfl (exec_toString u_bytes u_u8 u_string (hRd.sees hL) rfl rfl) ?_; simp only [Act.put, List.setIfInBounds_toArray, List.set_cons_succ, List.set_cons_zero]) | (go_at_call 29; refine (h1 _ _ (hRd.sees hL) (hT.since hL)).mono ?_; rintro e w ⟨rfl, hb⟩; replace hL := hL.call hb; clear hb) | (refine wpl_alloc hL rfl _ rfl _ z_32 ?_; clear hL; intro b w hL; simp only [Act.put, List.setIfInBounds_toArray, List.set_cons_succ, List.set_cons_zero]) | (refine wpl_strow hL rfl _ _ _ rfl _ rfl _ rfl _ s_32 _ rfl _ _ _ (by first | exact .here | exact .there .here | exact .there (.there .here) | exact .there (.there (.there .here)) | exact .there (.there (.there (.there .here))) | exact .pre (.here) | exact .pre (.there .here) | exact .pre (.there (.there .here))) ho1 hl1.out (by exact rowF_len _ _) ?_; clear hL; intro w hL; simp only [Act.put, List.setIfInBounds_toArray, List.set_cons_succ, List.set_cons_zero]))
    refine wp_region_lex [(.val, _), (.val, _), (.old, _), (.val, _), (.ext, _), (.ext, _), (.val, _), (.val, _), (.val, _), (.val, _), (.old, _), (.val, _), (.val, _), (.val, _), (.val, _)] rfl mixed (by kernel_rfl) ?_
    replace hL := hL.drew
    have hI := hL
    have hS : Since w.drew w.drew := Below.refl _ _
    have hRI := hRd.sees hL
    repeat (first | (refine wpLex_old rfl hS _ (fun w2 hS2 => run_load_row (hI.call hS2) rfl a_32 rfl (by first | exact .head _ | exact .tail _ (.head _) | exact .tail _ (.tail _ (.head _)) | exact .tail _ (.tail _ (.tail _ (.head _))) | exact .tail _ (.tail _ (.tail _ (.tail _ (.head _)))) | exact .tail _ (.tail _ (.tail _ (.tail _ (.tail _ (.head _))))) | exact List.mem_append_right _ (.head _) | exact List.mem_append_right _ (.tail _ (.head _)) | exact List.mem_append_right _ (.tail _ (.tail _ (.head _))) | exact List.mem_append_right _ (.tail _ (.tail _ (.tail _ (.head _)))) | exact .tail _ (List.mem_append_right _ (.head _)) | exact .tail _ (List.mem_append_right _ (.tail _ (.head _))) | exact .tail _ (List.mem_append_right _ (.tail _ (.tail _ (.head _)))) | exact .tail _ (List.mem_append_right _ (.tail _ (.tail _ (.tail _ (.head _))))) | exact .tail _ (.tail _ (List.mem_append_right _ (.head _))) | exact .tail _ (.tail _ (List.mem_append_right _ (.tail _ (.head _)))) | exact .tail _ (.tail _ (List.mem_append_right _ (.tail _ (.tail _ (.head _))))) | exact .tail _ (.tail _ (List.mem_append_right _ (.tail _ (.tail _ (.tail _ (.head _))))))) hl1.out) ?_; simp only [Act.put, List.setIfInBounds_toArray, List.set_cons_succ, List.set_cons_zero]) | (refine xx_toBytes hS rfl u_string u_bytes u_u8 rfl rfl ?_; clear hS; intro v w hS hRv hcv; simp only [Act.put, List.setIfInBounds_toArray, List.set_cons_succ, List.set_cons_zero]) | (refine xx_call en_refsum rfl hS rfl rfl rfl (h2 _ _ hRv hcv ((hTR.since hI).below hS)) ?_; rintro e w ⟨rfl, hb⟩; replace hS := hS.trans (hb.mono hS.size); refine ⟨_, rfl, hS, ?_⟩; clear hb; simp only [Act.put, List.setIfInBounds_toArray, List.set_cons_succ, List.set_cons_zero]) | (refine wpLex_old rfl hS _ (fun w2 hS2 => exec_toString u_bytes u_u8 u_string (hRI.below hS2) rfl rfl) ?_; simp only [Act.put, List.setIfInBounds_toArray, List.set_cons_succ, List.set_cons_zero]) | (refine wpLex_val rfl _ (fun w2 => by (go_simp; try rfl)) ?_; simp only [Act.put, List.setIfInBounds_toArray, List.set_cons_succ, List.set_cons_zero]))
    refine wpLex_nil ?_
    go_wp2
    go_ret
    exact ⟨rfl, (hI.call hS).below⟩
  · have t1 : decide ((l.length : Int) > 600) = true := by simp; omega
    have t2 : decide ((600 : Int) < (l.length : Int)) = true := by simp; omega
    have t3 : decide (600 < l.length) = true := by simp; omega
    go_enter Tryd.func11, Tryd.ntmps11
    go_wp2_with (first | (go_at_call 15; refine (sanity_any _ (hT.since hL)).mono ?_; rintro e w ⟨rfl, hb⟩; replace hL := hL.call hb; clear hb))
    go_ret
    exact ⟨rfl, hL.below⟩
end Go.Proofs.YtkkmkfkgmioblaaDoor
namespace Go.Proofs.YtkkmkfkgmioblaaDoor.P
open Go Go.RowKit Go.Lx Go.Proofs.YtkkmkfkgmioblaaDoor Go.Proofs.YtkkmkfkgmioblaaDoorW.PrintWords
theorem ofBytes_wf {l : List Int} (h : ∀ x ∈ l, (Lit.int .u8 x).wf = true) : l = ofBytes (toB l) := by
  rw [ofBytes_toB l]
  rw [isB_iff]
  intro x hx
  have := h x hx
  simp [Lit.wf, IntKind.min, IntKind.max, IntKind.signed, IntKind.bits] at this
  omega
theorem antiquarylaw02_HashCrcMatchesSpec.walk (_ : True) (a0 : Option Addr) (len0 cap0 : Nat) (z0 : List Int) (w : World) (w0 : (a0 = none ∧ len0 = 0 ∧ cap0 = 0 ∧ z0 = []) ∨ ∃ x, a0 = some x ∧ len0 ≤ cap0 ∧ cap0 ≤ maxLen ∧ z0.length = cap0 ∧ (∀ i, i < z0.length → w.cell? (x.add i) = some (.int .u8 (z0.getD i 0))) ∧ ∀ n ∈ z0, (Lit.int .u8 n).wf = true) (y0 : len0 * 1 ≤ 140737488351232) (hT : Tab w) :
    Calls Tryd.prog 3 #[.slice a0 len0 cap0] w fun e w' => e = .returned (.bool true) ∧ Below w.heap.size w w' := by
  obtain ⟨l, rfl, hr, hm, hw, hc⟩ := ReadsInt.ofRowC w0
  have hC : (Kd.int .u8).C w a0 l.length l := Kd.C_of_reads (d := (0 : Int)) (h1 := fun _ => rfl) hr
  have e := ofBytes_wf hw
  rw [e] at hC
  have := crcmatch_any a0 cap0 (toB l) w hC (by rw [toB_length]; omega) hT
  rw [toB_length] at this
  exact this
theorem antiquarylaw02_HashSumMatchesSpec.walk (_ : True) (a0 : Option Addr) (len0 cap0 : Nat) (z0 : List Int) (w : World) (w0 : (a0 = none ∧ len0 = 0 ∧ cap0 = 0 ∧ z0 = []) ∨ ∃ x, a0 = some x ∧ len0 ≤ cap0 ∧ cap0 ≤ maxLen ∧ z0.length = cap0 ∧ (∀ i, i < z0.length → w.cell? (x.add i) = some (.int .u8 (z0.getD i 0))) ∧ ∀ n ∈ z0, (Lit.int .u8 n).wf = true) (_y0 : len0 * 1 ≤ 140737488351232) (hT : Tab w) (hTR : TabR w) :
    Calls Tryd.prog 11 #[.slice a0 len0 cap0] w fun e w' => e = .returned (.bool true) ∧ Below w.heap.size w w' := by
  obtain ⟨l, rfl, hr, hm, hw, hc⟩ := ReadsInt.ofRowC w0
  have hC : (Kd.int .u8).C w a0 l.length l := Kd.C_of_reads (d := (0 : Int)) (h1 := fun _ => rfl) hr
  have e := ofBytes_wf hw
  rw [e] at hC
  have := summatch_any a0 cap0 (toB l) w hC hT hTR
  rw [toB_length] at this
  exact this
end Go.Proofs.YtkkmkfkgmioblaaDoor.P
