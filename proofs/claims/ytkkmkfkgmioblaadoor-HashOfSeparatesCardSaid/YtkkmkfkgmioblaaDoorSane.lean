/- Lemmas of this session for the walks and the plain laws. -/
import Derived.Test.YtkkmkfkgmioblaaDoorSha
import Derived.Test.YtkkmkfkgmioblaaDoorCrc
import Derived.Test.YtkkmkfkgmioblaaDoorLib
set_option linter.unusedVariables false
set_option linter.unusedSimpArgs false
/- The specification's Bytes32 and Text: an array of bytes as a string. -/
namespace Go.Proofs.YtkkmkfkgmioblaaDoor
open Go Go.RowKit Go.Lx
attribute [local irreducible] Calls

/-- the bytes of an array value -/
def ofB (n : Nat) (f : Nat → Int) : List UInt8 := (List.range n).map fun i => UInt8.ofNat (f i).toNat
theorem ofB_snoc (n : Nat) (f : Nat → Int) : ofB (n + 1) f = ofB n f ++ [UInt8.ofNat (f n).toNat] := by unfold ofB; rw [List.range_succ, List.map_append]; rfl
theorem ofB_val (f : Nat → Int) (i : Nat) (h0 : 0 ≤ f i) (h1 : f i < 256) : bytesV [UInt8.ofNat (f i).toNat] = [.int .u8 (f i)] := by
  show [Value.int IntKind.u8 ((UInt8.ofNat (f i).toNat).toNat : Int)] = _
  rw [show ((UInt8.ofNat (f i).toNat).toNat : Int) = f i from by simp only [UInt8.toNat_ofNat']; omega]

set_option maxHeartbeats 1000000 in
theorem bytes32_any (f : Nat → Int) (w0 : World) (hf : ∀ i, 0 ≤ f i ∧ f i < 256) :
    Calls Tryd.prog 38 #[.agg (rowF 32 fun i => .int .u8 (f i)).toArray] w0 fun e w' => e = .returned (.string ⟨(ofB 32 f).toArray⟩) ∧ Below w0.heap.size w0 w' := by
  have hL := Sees.refl w0
  go_enter Tryd.func38, Tryd.ntmps38
  go_wp2_with (first | (refine wpl_box hL rfl _ _ rfl _ rfl _ rfl ?_; clear hL; intro b w hL; simp only [Act.put, List.setIfInBounds_toArray, List.set_cons_succ, List.set_cons_zero]))
  obtain ⟨b1, rfl⟩ : ∃ b1, b1 = b := ⟨_, rfl⟩
  go_loopw [3, 4] (fun v i wr => ∃ (q : Nat) (a : Option Addr) (cap : Nat) (Lv : List Blk), q ≤ 32 ∧ i = .int .i64 q ∧ v = .slice a q cap ∧ IsSl v 5 1 q (bytesV (ofB q f)) Lv ∧
    Sees w0 wr (Lv ++ [⟨b1, 47, rowF 32 fun i => .int .u8 (f i)⟩])) (fun _ i _ => 32 - (intOf i).toNat)
  case atStart => exact ⟨0, _, _, [], by decide, rfl, rfl, .nil rfl rfl rfl rfl, hL⟩
  case round =>
    clear hL
    obtain ⟨q, a, cap, Lv, hq, rfl, rfl, hV, hL⟩ := hrel
    by_cases hlt : q < 32
    · go_wp2_with (first | (refine wpl_run rfl (run_load_plain rfl p_u8 rfl (hL.at (by first | exact .head _ | exact .tail _ (.head _) | exact .tail _ (.tail _ (.head _)) | exact .tail _ (.tail _ (.tail _ (.head _))) | exact .tail _ (.tail _ (.tail _ (.tail _ (.head _)))) | exact .tail _ (.tail _ (.tail _ (.tail _ (.tail _ (.head _))))) | exact List.mem_append_right _ (.head _) | exact List.mem_append_right _ (.tail _ (.head _)) | exact List.mem_append_right _ (.tail _ (.tail _ (.head _))) | exact List.mem_append_right _ (.tail _ (.tail _ (.tail _ (.head _)))) | exact .tail _ (List.mem_append_right _ (.head _)) | exact .tail _ (List.mem_append_right _ (.tail _ (.head _))) | exact .tail _ (List.mem_append_right _ (.tail _ (.tail _ (.head _)))) | exact .tail _ (List.mem_append_right _ (.tail _ (.tail _ (.tail _ (.head _))))) | exact .tail _ (.tail _ (List.mem_append_right _ (.head _))) | exact .tail _ (.tail _ (List.mem_append_right _ (.tail _ (.head _)))) | exact .tail _ (.tail _ (List.mem_append_right _ (.tail _ (.tail _ (.head _))))) | exact .tail _ (.tail _ (List.mem_append_right _ (.tail _ (.tail _ (.tail _ (.head _))))))) (rowF_at 32 _ q hlt))) ?_; simp only [Act.put, List.setIfInBounds_toArray, List.set_cons_succ, List.set_cons_zero]) | (refine wpl_slice hL rfl _ _ _ rfl _ 1 u_bytes s_u8 [.int .u8 0] z_u8 (by decide) _ (EvalAll.one rfl) rfl ?_; clear hL; intro b w hL; simp only [Act.put, List.setIfInBounds_toArray, List.set_cons_succ, List.set_cons_zero]) | (refine wpl_app1 hL rfl hV _ _ _ rfl rfl rfl u_bytes i_u8 rfl (Nat.le_trans (Nat.succ_le_succ hq) (by decide)) (by omega) ?_; clear hL hV; intro v w Lv hL hV; simp only [Act.put, List.setIfInBounds_toArray, List.set_cons_succ, List.set_cons_zero]))
      obtain ⟨a', cap', rfl⟩ := hV.shape
      refine ⟨⟨q + 1, a', cap', Lv, by omega, rfl, rfl, ?_, hL⟩, ?_⟩
      · rw [ofB_snoc, bytesV_append, ofB_val f q (hf q).1 (hf q).2]; exact hV
      · simp [intOf]; omega
    · obtain rfl : q = 32 := by omega
      go_wp2_with (first | (refine wpl_run rfl (exec_toString u_bytes u_u8 u_string (hV.rd hL (fun x hx => List.mem_append_left _ hx)) rfl rfl) ?_; simp only [Act.put, List.setIfInBounds_toArray, List.set_cons_succ, List.set_cons_zero]))
      go_ret
      exact ⟨rfl, hL.below⟩
set_option maxHeartbeats 1000000 in
theorem text_any (f : Nat → Int) (w0 : World) (hf : ∀ i, 0 ≤ f i ∧ f i < 256) :
    Calls Tryd.prog 39 #[.agg (rowF 16 fun i => .int .u8 (f i)).toArray] w0 fun e w' => e = .returned (.string ⟨(ofB 16 f).toArray⟩) ∧ Below w0.heap.size w0 w' := by
  have hL := Sees.refl w0
  go_enter Tryd.func39, Tryd.ntmps39
  go_wp2_with (first | (refine wpl_box hL rfl _ _ rfl _ rfl _ rfl ?_; clear hL; intro b w hL; simp only [Act.put, List.setIfInBounds_toArray, List.set_cons_succ, List.set_cons_zero]))
  obtain ⟨b1, rfl⟩ : ∃ b1, b1 = b := ⟨_, rfl⟩
  go_loopw [3, 4] (fun v i wr => ∃ (q : Nat) (a : Option Addr) (cap : Nat) (Lv : List Blk), q ≤ 16 ∧ i = .int .i64 q ∧ v = .slice a q cap ∧ IsSl v 5 1 q (bytesV (ofB q f)) Lv ∧
    Sees w0 wr (Lv ++ [⟨b1, 58, rowF 16 fun i => .int .u8 (f i)⟩])) (fun _ i _ => 16 - (intOf i).toNat)
  case atStart => exact ⟨0, _, _, [], by decide, rfl, rfl, .nil rfl rfl rfl rfl, hL⟩
  case round =>
    clear hL
    obtain ⟨q, a, cap, Lv, hq, rfl, rfl, hV, hL⟩ := hrel
    by_cases hlt : q < 16
    · go_wp2_with (first | (refine wpl_run rfl (run_load_plain rfl p_u8 rfl (hL.at (by first | exact .head _ | exact .tail _ (.head _) | exact .tail _ (.tail _ (.head _)) | exact .tail _ (.tail _ (.tail _ (.head _))) | exact .tail _ (.tail _ (.tail _ (.tail _ (.head _)))) | exact .tail _ (.tail _ (.tail _ (.tail _ (.tail _ (.head _))))) | exact List.mem_append_right _ (.head _) | exact List.mem_append_right _ (.tail _ (.head _)) | exact List.mem_append_right _ (.tail _ (.tail _ (.head _))) | exact List.mem_append_right _ (.tail _ (.tail _ (.tail _ (.head _)))) | exact .tail _ (List.mem_append_right _ (.head _)) | exact .tail _ (List.mem_append_right _ (.tail _ (.head _))) | exact .tail _ (List.mem_append_right _ (.tail _ (.tail _ (.head _)))) | exact .tail _ (List.mem_append_right _ (.tail _ (.tail _ (.tail _ (.head _))))) | exact .tail _ (.tail _ (List.mem_append_right _ (.head _))) | exact .tail _ (.tail _ (List.mem_append_right _ (.tail _ (.head _)))) | exact .tail _ (.tail _ (List.mem_append_right _ (.tail _ (.tail _ (.head _))))) | exact .tail _ (.tail _ (List.mem_append_right _ (.tail _ (.tail _ (.tail _ (.head _))))))) (rowF_at 16 _ q hlt))) ?_; simp only [Act.put, List.setIfInBounds_toArray, List.set_cons_succ, List.set_cons_zero]) | (refine wpl_slice hL rfl _ _ _ rfl _ 1 u_bytes s_u8 [.int .u8 0] z_u8 (by decide) _ (EvalAll.one rfl) rfl ?_; clear hL; intro b w hL; simp only [Act.put, List.setIfInBounds_toArray, List.set_cons_succ, List.set_cons_zero]) | (refine wpl_app1 hL rfl hV _ _ _ rfl rfl rfl u_bytes i_u8 rfl (Nat.le_trans (Nat.succ_le_succ hq) (by decide)) (by omega) ?_; clear hL hV; intro v w Lv hL hV; simp only [Act.put, List.setIfInBounds_toArray, List.set_cons_succ, List.set_cons_zero]))
      obtain ⟨a', cap', rfl⟩ := hV.shape
      refine ⟨⟨q + 1, a', cap', Lv, by omega, rfl, rfl, ?_, hL⟩, ?_⟩
      · rw [ofB_snoc, bytesV_append, ofB_val f q (hf q).1 (hf q).2]; exact hV
      · simp [intOf]; omega
    · obtain rfl : q = 16 := by omega
      go_wp2_with (first | (refine wpl_run rfl (exec_toString u_bytes u_u8 u_string (hV.rd hL (fun x hx => List.mem_append_left _ hx)) rfl rfl) ?_; simp only [Act.put, List.setIfInBounds_toArray, List.set_cons_succ, List.set_cons_zero]))
      go_ret
      exact ⟨rfl, hL.below⟩
theorem en_bytes32 : enterable Tryd.prog 38 = true := by kernel_rfl
theorem en_text : enterable Tryd.prog 39 = true := by kernel_rfl
end Go.Proofs.YtkkmkfkgmioblaaDoor
/- law02.hex. -/
namespace Go.Lx
open Go Go.RowKit
section
variable {P : Program} {o : Oper} {a : Act} {w0 w wI : World} {ops : Array Oper} {QL : Act → World → Prop} {lrest : List (Cls × Oper)}
theorem EvalAll.two {x y : Operand} {k : Nat} {u v : Value} (h : (a.eval x).cells = [u].toArray) (h2 : (a.eval y).cells = [v].toArray) : EvalAll a 1 [(k, x), (k + 1, y)] k [u, v] := .cons (cs := [u]) h rfl (.cons (cs := [v]) h2 rfl (.nil _))
theorem x_app {b : Nat} {e : TypeId} {us : List Value} {z : Value} {Lv S : List Blk} (hL : Sees w0 w (⟨b, e, us⟩ :: (Lv ++ S))) (hw : Region.wanted o (yielded ops a.tmps) = true) {v : Value} {n m bytes : Nat} {xs : List Value} (hs : IsSl v e 1 n xs Lv) (T : TypeId) (s x : Operand)
    (ho : o.op = .call { callee := .builtin .append, args := #[s, x], argTypes := #[T, T] }) (hv : a.eval s = v) (hx : a.eval x = .slice (some ⟨b, 0, none⟩) m m)
    (hT : P.underlying T = some (.slice e)) (hi : (P.info? e).map (fun i => (i.zero.map fun z => z.cells.toList, i.size, i.bytes)) = some (some [z], 1, bytes)) (hm : us.length = m) (h1 : ∀ u ∈ us, u.one1 = true)
    (h63 : n + m ≤ maxLen) (hbytes : (n + m) * bytes ≤ 140737488355328)
    (h : ∀ v' w' Lv', Sees w0 w' (Lv' ++ S) → IsSl v' e 1 (n + m) (xs ++ us) Lv' → wpLex P wI ops QL lrest (a.put o.dst v') w') : wpLex P wI ops QL ((.eff, o) :: lrest) a w :=
  wpLex_eff hw fun _ hK => wp_append (P0 := [⟨b, e, us⟩]) hL hs T s x ho hv [z] bytes hT hi rfl ⟨b, 0, none⟩ m m us hx (by omega) (fun j y hy => hL.row (.head _) j y hy) h1 h63 hbytes
    fun v' w' Lv' h2 h3 => hK _ _ (h v' w' Lv' (h2.forget (List.sublist_cons_self _ _)) h3)
theorem run_index_str {T : TypeId} {x y : Operand} {i : Nat} {k : IntKind} {s : ByteArray} {c : UInt8} (ho : o.op = .index T x y) (hT : P.underlying T = some .string) (hx : a.eval x = .string s) (hy : a.eval y = .int k i) (hv : s[i]? = some c) :
    (execOp a.eval o).run P w = .ok (.value (.int .u8 (c.toNat : Int))) w := by
  unfold execOp
  simp [ho, hx, hy, Instr.index, asIntOf, Sem.run_bind, run_underlying hT, hv]
end
end Go.Lx
namespace Go.Proofs.YtkkmkfkgmioblaaDoor
open Go Go.RowKit Go.Lx
attribute [local irreducible] Calls

def dig (d : Nat) : UInt8 := ([48, 49, 50, 51, 52, 53, 54, 55, 56, 57, 97, 98, 99, 100, 101, 102] : List UInt8).getD d 0
def hexB (l : List UInt8) : List UInt8 := l.flatMap fun c => [dig (c.toNat / 16), dig (c.toNat % 16)]
theorem hexB_snoc (l : List UInt8) (c : UInt8) : hexB (l ++ [c]) = hexB l ++ [dig (c.toNat / 16), dig (c.toNat % 16)] := by unfold hexB; rw [List.flatMap_append]; simp
theorem digits_at (d : Nat) (h : d < 16) : (⟨#[48, 49, 50, 51, 52, 53, 54, 55, 56, 57, 97, 98, 99, 100, 101, 102]⟩ : ByteArray)[d]? = some (dig d) := by
  have : ∀ i : Fin 16, (⟨#[48, 49, 50, 51, 52, 53, 54, 55, 56, 57, 97, 98, 99, 100, 101, 102]⟩ : ByteArray)[i.val]? = some (dig i.val) := by decide
  exact this ⟨d, h⟩

set_option maxHeartbeats 1000000 in
theorem hex_any (s : ByteArray) (w0 : World) (hs : s.size ≤ 1000000) :
    Calls Tryd.prog 37 #[.string s] w0 fun e w' => e = .returned (.string ⟨(hexB s.data.toList).toArray⟩) ∧ Below w0.heap.size w0 w' := by
  have hL := Sees.refl w0
  go_enter Tryd.func37, Tryd.ntmps37
  go_wp2
  go_loopw [4, 5] (fun v i wr => ∃ (q : Nat) (a : Option Addr) (cap : Nat) (Lv : List Blk), q ≤ s.size ∧ i = .int .i64 q ∧ v = .slice a (2 * q) cap ∧ IsSl v 5 1 (2 * q) (bytesV (hexB (s.data.toList.take q))) Lv ∧ Sees w0 wr (Lv ++ [])) (fun _ i _ => s.size - (intOf i).toNat)
  case atStart => exact ⟨0, _, _, [], Nat.zero_le _, rfl, rfl, .nil rfl rfl rfl rfl, hL⟩
  case round =>
    clear hL
    obtain ⟨q, a, cap, Lv, hq, rfl, rfl, hV, hL⟩ := hrel
    by_cases hlt : q < s.size
    · have hc := (s[q]).toNat_lt
      generalize hcc : s[q] = c at hc
      have hqc : s[q]? = some c := by rw [← hcc]; simp [hlt]
      obtain ⟨D, hD16, hD0, HD⟩ : ∃ D : Nat, D < 16 ∧ (D : Int) < 256 ∧ Hid (D = c.toNat / 16) := ⟨c.toNat / 16, by omega, by omega, Lib.hid rfl⟩
      obtain ⟨E, hE16, hE0, HE⟩ : ∃ E : Nat, E < 16 ∧ (E : Int) < 256 ∧ Hid (E = c.toNat % 16) := ⟨c.toNat % 16, by omega, by omega, Lib.hid rfl⟩
      have d1 : (c.toNat : Int) / 16 = (D : Int) := by rw [HD.out]; omega
      have e1 : (c.toNat : Int) % 16 = (E : Int) := by rw [HE.out]; omega
      have e3 : (c.toNat : Int).tmod 16 = (E : Int) := by rw [Int.tmod_eq_emod_of_nonneg (by omega)]; exact e1
      have d2 : IntKind.u8.wrap (D : Int) = (D : Int) := by rw [wrap_u8]; omega
      have e2 : IntKind.u8.wrap (E : Int) = (E : Int) := by rw [wrap_u8]; omega
      have HCC := Lib.hid hcc
      clear hcc
      have g1 : 2 * q + 2 ≤ maxLen := by unfold maxLen; omega
      go_wp2
      refine wp_region_lex [(.val, _), (.val, _), (.val, _), (.val, _), (.val, _), (.val, _), (.val, _), (.val, _), (.val, _), (.val, _), (.val, _), (.val, _), (.val, _), (.eff, _), (.eff, _), (.val, _)] rfl mixed (by kernel_rfl) ?_
      replace hL := hL.drew
      repeat (first | (refine wpLex_val rfl _ (fun w2 => run_index_str rfl u_string rfl rfl hqc) ?_; simp only [Act.put, List.setIfInBounds_toArray, List.set_cons_succ, List.set_cons_zero]) | (refine wpLex_val rfl _ (fun w2 => run_index_str rfl u_string rfl rfl (digits_at D hD16)) ?_; simp only [Act.put, List.setIfInBounds_toArray, List.set_cons_succ, List.set_cons_zero]) | (refine wpLex_val rfl _ (fun w2 => run_index_str rfl u_string rfl rfl (digits_at E hE16)) ?_; simp only [Act.put, List.setIfInBounds_toArray, List.set_cons_succ, List.set_cons_zero]) | (refine x_slice hL rfl _ _ _ rfl _ 1 u_bytes s_u8 [.int .u8 0] z_u8 (by decide) _ (EvalAll.two rfl rfl) rfl ?_; clear hL; intro b w hL; simp only [Act.put, List.setIfInBounds_toArray, List.set_cons_succ, List.set_cons_zero]) | (refine x_app hL rfl hV _ _ _ rfl rfl rfl u_bytes i_u8 rfl (by repeat (first | exact all1_nil | refine all1_cons rfl ?_)) g1 (by omega) ?_; clear hL hV; intro v w Lv hL hV; simp only [Act.put, List.setIfInBounds_toArray, List.set_cons_succ, List.set_cons_zero]) | (refine wpLex_val rfl _ (fun w2 => by (go_simp; try rfl)) ?_; simp only [Act.put, List.setIfInBounds_toArray, List.set_cons_succ, List.set_cons_zero]))
      refine wpLex_nil ?_
      go_wp2
      obtain ⟨a', cap', rfl⟩ := hV.shape
      refine ⟨⟨q + 1, a', cap', Lv, by omega, rfl, ?_, ?_, hL⟩, ?_⟩
      · rw [show 2 * (q + 1) = 2 * q + 2 from by omega]
      · rw [take_succ_bytes s q hlt, hexB_snoc, HCC.out, ← HD.out, ← HE.out, bytesV_append, show 2 * (q + 1) = 2 * q + 2 from by omega]
        exact hV
      · simp [intOf]; omega
    · obtain rfl : q = s.size := by omega
      go_wp2_with (first | (refine wpl_run rfl (exec_toString u_bytes u_u8 u_string (hV.rd hL (fun x hx => List.mem_append_left _ hx)) rfl rfl) ?_; simp only [Act.put, List.setIfInBounds_toArray, List.set_cons_succ, List.set_cons_zero]))
      go_ret
      refine ⟨?_, hL.below⟩
      rw [List.take_of_length_le (by simp)]
      rfl
theorem en_hex : enterable Tryd.prog 37 = true := by kernel_rfl
end Go.Proofs.YtkkmkfkgmioblaaDoor
/- The examples of the documentation: their values. -/
namespace Go.Proofs.YtkkmkfkgmioblaaDoor
open Go Go.RowKit Go.Lx
theorem sane_crc : (crcB [254]).toNat = 0x00048200f6 := by decide +kernel
theorem sane_ff : (addB (addB (BitVec.allOnes 40) [255]) [255] ^^^ BitVec.allOnes 40).toNat = 65535 := by decide +kernel
theorem sane_words : (wordsB (BitVec.allOnes 40) [1099511627774] ^^^ BitVec.allOnes 40).toNat = 0xfffb7dfff6 := by decide +kernel
theorem sane_join : joinV 255 255 1 = 65535 ∧ joinV 255 0 1 = 65280 ∧ joinV 7 9 0 = 14 ∧ joinV 1 1 (-1) = 0 := by decide +kernel
theorem sane_abc : hexB (ofB 32 (outB ((sm0.add [97, 98, 99]).add (padL 3)).st)) = [98, 97, 55, 56, 49, 54, 98, 102] ++ (hexB (ofB 32 (outB ((sm0.add [97, 98, 99]).add (padL 3)).st))).drop 8 := by decide +kernel
end Go.Proofs.YtkkmkfkgmioblaaDoor
/- sanity. -/
namespace Go.Lx
open Go Go.RowKit
theorem wpl_bytesConst {P : Program} {o : Oper} {a : Act} {w0 w : World} {Q : Exit → Act → World → Prop} {ops : Array Oper} {rest : List Oper} {L : List Blk} {b e n c : Nat} {vs : List Value} (hL : Sees w0 w (⟨b, e, vs⟩ :: L)) (hw : Region.wanted o (yielded ops a.tmps) = true) {T : TypeId} (hT : P.underlying T = some (.slice e)) (he : P.underlying e = some (.int .u8)) {x : Operand} (ho : o.op = .convert T T x) (hx : a.eval x = .slice (some ⟨b, 0, none⟩) n c) (hn : vs.length = n)
    (h : ∀ w', Sees w0 w' L → Rd w' (.slice (some ⟨b, 0, none⟩) n c) n 1 vs → wpList P ops Q rest (a.put o.dst (.slice (some ⟨b, 0, none⟩) n c)) w') : wpList P ops Q (o :: rest) a w :=
  BigFrame.wpList_want hw fun _ hK => wp_bytesConst hL hT he ho hx hn fun w' h2 h3 => hK _ _ (h w' h2 h3)
end Go.Lx
namespace Go.Proofs.YtkkmkfkgmioblaaDoor
open Go Go.RowKit Go.Lx
attribute [local irreducible] Calls
theorem outB_ok (st : St) (i : Nat) : 0 ≤ outB st i ∧ outB st i < 256 := by unfold outB; omega
theorem u_32 : Tryd.prog.underlying 47 = some (.array 32 5) := by kernel_rfl
theorem out_eq (st su : St) (w : World) : (Op.equalIn 10000 47 (.agg (outV st).toArray) (.agg (outV su).toArray)).run Tryd.prog w = .ok ((List.range 32).all fun i => outB st i == outB su i) w :=
  run_eq_row (P := Tryd.prog) 9998 u_32 u_u8 s_u8 (outB st) (outB su) w
theorem out_same (st : St) (w : World) : (Op.equalIn 10000 47 (.agg (outV st).toArray) (.agg (outV st).toArray)).run Tryd.prog w = .ok true w := by
  rw [out_eq]
  congr 1
  simp only [beq_self_eq_true, List.all_eq_true]
  exact fun _ _ => trivial
theorem outV_len (st : St) : (outV st).length = 32 := rowF_len _ _
theorem outV_one (st : St) : ∀ u ∈ outV st, u.one1 = true := rowF_one _ _ fun _ => rfl
theorem digV_len (l : List UInt8) : (digV l).length = 16 := rowF_len _ _
theorem digV_one (l : List UInt8) : ∀ u ∈ digV l, u.one1 = true := rowF_one _ _ fun _ => rfl
/-- what the examples of the hash come to, their values as names -/
structure Pack (A D R0 R1 R2 : List Value) (sA sD : ByteArray) : Prop where
  lA : A.length = 32
  oA : ∀ u ∈ A, u.one1 = true
  eA : ∀ w, (Op.equalIn 10000 47 (.agg A.toArray) (.agg A.toArray)).run Tryd.prog w = .ok true w
  lD : D.length = 16
  oD : ∀ u ∈ D, u.one1 = true
  sum : ∀ v w0, Rd w0 v 3 1 (bytesV [97, 98, 99]) → Tab w0 → Calls Tryd.prog 29 #[v] w0 fun e w' => e = .returned (.agg A.toArray) ∧ Below w0.heap.size w0 w'
  beg : ∀ w0, Calls Tryd.prog 31 #[] w0 fun e w' => e = .returned (.agg R0.toArray) ∧ Below w0.heap.size w0 w'
  add1 : ∀ w0, Tab w0 → Calls Tryd.prog 32 #[.agg R0.toArray, .string ⟨#[97]⟩] w0 fun e w' => e = .returned (.agg R1.toArray) ∧ Below w0.heap.size w0 w'
  add2 : ∀ w0, Tab w0 → Calls Tryd.prog 32 #[.agg R1.toArray, .string ⟨#[98, 99]⟩] w0 fun e w' => e = .returned (.agg R2.toArray) ∧ Below w0.heap.size w0 w'
  ssum : ∀ w0, Tab w0 → Calls Tryd.prog 33 #[.agg R2.toArray] w0 fun e w' => e = .returned (.agg A.toArray) ∧ Below w0.heap.size w0 w'
  of : ∀ w0, Tab w0 → Calls Tryd.prog 34 #[.int .i64 1, .slice none 0 0] w0 fun e w' => e = .returned (.agg D.toArray) ∧ Below w0.heap.size w0 w'
  b32 : ∀ w0, Calls Tryd.prog 38 #[.agg A.toArray] w0 fun e w' => e = .returned (.string sA) ∧ Below w0.heap.size w0 w'
  txt : ∀ w0, Calls Tryd.prog 39 #[.agg D.toArray] w0 fun e w' => e = .returned (.string sD) ∧ Below w0.heap.size w0 w'
  hexA : ∀ w0, Calls Tryd.prog 37 #[.string sA] w0 fun e w' => e = .returned (.string ⟨#[98, 97, 55, 56, 49, 54, 98, 102, 56, 102, 48, 49, 99, 102, 101, 97, 52, 49, 52, 49, 52, 48, 100, 101, 53, 100, 97, 101, 50, 50, 50, 51, 98, 48, 48, 51, 54, 49, 97, 51, 57, 54, 49, 55, 55, 97, 57, 99, 98, 52, 49, 48, 102, 102, 54, 49, 102, 50, 48, 48, 49, 53, 97, 100]⟩) ∧ Below w0.heap.size w0 w'
  hexD : ∀ w0, Calls Tryd.prog 37 #[.string sD] w0 fun e w' => e = .returned (.string ⟨#[52, 98, 102, 53, 49, 50, 50, 102, 51, 52, 52, 53, 53, 52, 99, 53, 51, 98, 100, 101, 50, 101, 98, 98, 56, 99, 100, 50, 98, 55, 101, 51]⟩) ∧ Below w0.heap.size w0 w'
theorem hex_lit (s t : ByteArray) (hs : s.size ≤ 1000000) (h : (⟨(hexB s.data.toList).toArray⟩ : ByteArray) = t) (w0 : World) : Calls Tryd.prog 37 #[.string s] w0 fun e w' => e = .returned (.string t) ∧ Below w0.heap.size w0 w' := by
  subst h; exact hex_any s w0 hs
theorem hexA_val : hexB (ofB 32 (outB ((sm0.add [97, 98, 99]).add (padL (sm0.add [97, 98, 99]).n)).st)) = [98, 97, 55, 56, 49, 54, 98, 102, 56, 102, 48, 49, 99, 102, 101, 97, 52, 49, 52, 49, 52, 48, 100, 101, 53, 100, 97, 101, 50, 50, 50, 51, 98, 48, 48, 51, 54, 49, 97, 51, 57, 54, 49, 55, 55, 97, 57, 99, 98, 52, 49, 48, 102, 102, 54, 49, 102, 50, 48, 48, 49, 53, 97, 100] := by decide +kernel
theorem hexD_val : hexB (ofB 16 (outB ((sm0.add (inB 1 [])).add (padL (inB 1 []).length)).st)) = [52, 98, 102, 53, 49, 50, 50, 102, 51, 52, 52, 53, 53, 52, 99, 53, 51, 98, 100, 101, 50, 101, 98, 98, 56, 99, 100, 50, 98, 55, 101, 51] := by decide +kernel
theorem ofB_size (n : Nat) (f : Nat → Int) : (⟨(ofB n f).toArray⟩ : ByteArray).size = n := by show (ofB n f).toArray.size = n; simp [ofB]
theorem hex_of {s : ByteArray} {l m : List UInt8} (hs : s = ⟨l.toArray⟩) (h : hexB l = m) : (⟨(hexB s.data.toList).toArray⟩ : ByteArray) = ⟨m.toArray⟩ := by subst hs; rw [← h]
theorem pack : ∃ A D R0 R1 R2 sA sD, Pack A D R0 R1 R2 sA sD := by
  refine ⟨shaV [97, 98, 99], digV (inB 1 []), sm0.row, (sm0.add [97]).row, ((sm0.add [97]).add [98, 99]).row, _, _, outV_len _, outV_one _, fun w => ?_, digV_len _, digV_one _, fun v w0 hR hT => ?_, fun w0 => begin_any w0, fun w0 hT => ?_, fun w0 hT => ?_, fun w0 hT => ?_, fun w0 hT => ?_, fun w0 => bytes32_any (outB ((sm0.add [97, 98, 99]).add (padL (sm0.add [97, 98, 99]).n)).st) w0 (outB_ok _), fun w0 => text_any (outB ((sm0.add (inB 1 [])).add (padL (inB 1 []).length)).st) w0 (outB_ok _), fun w0 => hex_lit _ _ ?_ (hex_of rfl hexA_val) w0, fun w0 => hex_lit _ _ ?_ (hex_of rfl hexD_val) w0⟩
  · exact out_same _ w
  · exact sum_any v [97, 98, 99] w0 hR (by decide) hT
  · exact sadd_any sm0 ⟨#[97]⟩ w0 rfl (by decide) hT
  · exact sadd_any (sm0.add [97]) ⟨#[98, 99]⟩ w0 (sm0_blk _) (by decide) hT
  · have h := ssum_any ((sm0.add [97]).add [98, 99]) w0 (by rw [← Sm.add_append]; exact sm0_blk _) (by decide) hT
    have e : shaOut ((sm0.add [97]).add [98, 99]) = shaV [97, 98, 99] := by rw [← Sm.add_append]; rfl
    rw [e] at h
    exact h
  · exact of_any 1 _ [] w0 ⟨⟨none, 0, rfl, fun h => absurd rfl h⟩, rfl⟩ (by decide) (fun _ h => by cases h) hT
  · rw [ofB_size]; decide
  · rw [ofB_size]; decide
theorem u_ints : Tryd.prog.underlying 36 = some (.slice 3) := by kernel_rfl
theorem z_int : zeroOf Tryd.prog 3 = some [.int .i64 0] := by kernel_rfl
theorem s_int : (Tryd.prog.info? 3).map (·.size) = some 1 := by kernel_rfl
theorem rd_int {w0 w : World} {L : List Blk} (hL : Sees w0 w L) {b e : Nat} {c : Int} (hm : (⟨b, e, [.int .i64 c]⟩ : Blk) ∈ L) : Rd w (.slice (some ⟨b, 0, none⟩) 1 1) 1 1 (intsV [c]) :=
  ⟨⟨_, _, rfl, fun _ => ⟨_, rfl, fun j x hx => hL.row hm j x hx⟩⟩, rfl⟩
theorem join_lit (a b n v : Int) (hn : n < 9223372036854775808) (h : joinV a b n = v) (w0 : World) (hT : Tab w0) : Calls Tryd.prog 26 #[.int .i64 a, .int .i64 b, .int .i64 n] w0 fun e w' => e = .returned (.int .i64 v) ∧ w' = w0 := by
  subst h; exact join_any a b n w0 hn hT
set_option maxRecDepth 100000 in
set_option maxHeartbeats 4000000 in
theorem sanity_any (w0 : World) (hT : Tab w0) : Calls Tryd.prog 15 #[] w0 fun e w' => e = .returned (.bool true) ∧ Below w0.heap.size w0 w' := by
  have hL := Sees.refl w0
  obtain ⟨A, D, R0, R1, R2, sA, sD, HP⟩ := pack
  have heq := HP.eA
  have lA := Lib.hid HP.lA
  have lD := Lib.hid HP.lD
  have hs1 : (crcB [254]).toNat = 75628790 := sane_crc
  have hs2 : (addB (addB 1099511627775#40 [255]) [255]).toNat ^^^ 1099511627775 = 65535 := by decide +kernel
  have hs3 : BitVec.toNat (wordsB 1099511627775#40 [1099511627774]) ^^^ 1099511627775 = 1099435999222 := by decide +kernel
  go_enter Tryd.func15, Tryd.ntmps15
  go_wp2_with (first | (refine wpl_slice hL rfl _ _ _ rfl _ 1 u_bytes s_u8 [.int .u8 0] z_u8 (by decide) [.int .u8 97, .int .u8 98, .int .u8 99] (.cons (cs := [_]) rfl rfl (.cons (cs := [_]) rfl rfl (.cons (cs := [_]) rfl rfl (.nil _)))) rfl ?_; clear hL; intro b w hL; simp only [Act.put, List.setIfInBounds_toArray, List.set_cons_succ, List.set_cons_zero]) | (refine wpl_bytesConst hL rfl u_bytes u_u8 rfl rfl rfl ?_; clear hL; intro w hL hRa; simp only [Act.put, List.setIfInBounds_toArray, List.set_cons_succ, List.set_cons_zero]) | (go_at_call 29; refine (HP.sum _ _ hRa (hT.since hL)).mono ?_; rintro e w ⟨rfl, hb⟩; replace hL := hL.call hb; clear hb hRa) | (refine wpl_alloc hL rfl _ rfl _ z_32 ?_; clear hL; intro b w hL; simp only [Act.put, List.setIfInBounds_toArray, List.set_cons_succ, List.set_cons_zero]) | (refine wpl_strow hL rfl _ _ _ rfl _ rfl _ rfl _ s_32 _ rfl _ _ _ (by first | exact .here | exact .there .here | exact .there (.there .here) | exact .there (.there (.there .here)) | exact .there (.there (.there (.there .here))) | exact .pre (.here) | exact .pre (.there .here) | exact .pre (.there (.there .here))) HP.oA lA.out (by exact rowF_len _ _) ?_; clear hL; intro w hL; simp only [Act.put, List.setIfInBounds_toArray, List.set_cons_succ, List.set_cons_zero]) | (go_at_call 31; refine (HP.beg _).mono ?_; rintro e w ⟨rfl, hb⟩; replace hL := hL.call hb; clear hb) | (refine wpl_alloc hL rfl _ rfl _ z_16 ?_; clear hL; intro b w hL; simp only [Act.put, List.setIfInBounds_toArray, List.set_cons_succ, List.set_cons_zero]) | (go_at_call 32; refine (HP.add1 _ (hT.since hL)).mono ?_; rintro e w ⟨rfl, hb⟩; replace hL := hL.call hb; clear hb) | (go_at_call 32; refine (HP.add2 _ (hT.since hL)).mono ?_; rintro e w ⟨rfl, hb⟩; replace hL := hL.call hb; clear hb) | (go_at_call 33; refine (HP.ssum _ (hT.since hL)).mono ?_; rintro e w ⟨rfl, hb⟩; replace hL := hL.call hb; clear hb) | (go_at_call 34; refine (HP.of _ (hT.since hL)).mono ?_; rintro e w ⟨rfl, hb⟩; replace hL := hL.call hb; clear hb) | (refine wpl_strow hL rfl _ _ _ rfl _ rfl _ rfl _ s_16 _ rfl _ _ _ (by first | exact .here | exact .there .here | exact .there (.there .here) | exact .there (.there (.there .here)) | exact .there (.there (.there (.there .here))) | exact .pre (.here) | exact .pre (.there .here) | exact .pre (.there (.there .here))) HP.oD lD.out (by exact rowF_len _ _) ?_; clear hL; intro w hL; simp only [Act.put, List.setIfInBounds_toArray, List.set_cons_succ, List.set_cons_zero]) | (refine wpl_slice hL rfl _ _ _ rfl _ 1 u_bytes s_u8 [.int .u8 0] z_u8 (by decide) _ (EvalAll.one rfl) rfl ?_; clear hL; intro b w hL; simp only [Act.put, List.setIfInBounds_toArray, List.set_cons_succ, List.set_cons_zero]) | (go_at_call 16; refine (crc40_any _ [254] _ (rd_one (c := 254) hL (.head _)) (by decide) (hT.since hL)).mono ?_; rintro e w ⟨rfl, hb⟩; replace hL := hL.call hb; clear hb) | (go_at_call 19; refine (beginCrc_any _).mono ?_; rintro e w ⟨rfl, hb⟩; replace hL := hL.call hb; clear hb) | (go_at_call 20; refine (add_any _ ⟨#[255]⟩ _ (by decide) (hT.since hL)).mono ?_; rintro e w ⟨rfl, hb⟩; replace hL := hL.call hb; clear hb) | (go_at_call 22; refine (value_any _ _).mono ?_; rintro e w ⟨rfl, hb⟩; replace hL := hL.call hb; clear hb) | (refine wpl_slice hL rfl _ _ _ rfl _ 1 u_ints s_int [.int .i64 0] z_int (by decide) _ (EvalAll.one rfl) rfl ?_; clear hL; intro b w hL; simp only [Act.put, List.setIfInBounds_toArray, List.set_cons_succ, List.set_cons_zero]) | (go_at_call 23; refine (words_any _ [1099511627774] _ (rd_int (c := 1099511627774) hL (.head _)) (by decide) (hT.since hL)).mono ?_; rintro e w ⟨rfl, hb⟩; replace hL := hL.call hb; clear hb) | (go_at_call 26; refine (join_lit 255 255 1 65535 (by decide) sane_join.1 _ (hT.since hL)).mono ?_; rintro e w ⟨rfl, rfl⟩) | (go_at_call 26; refine (join_lit 255 0 1 65280 (by decide) sane_join.2.1 _ (hT.since hL)).mono ?_; rintro e w ⟨rfl, rfl⟩) | (go_at_call 26; refine (join_lit 7 9 0 14 (by decide) sane_join.2.2.1 _ (hT.since hL)).mono ?_; rintro e w ⟨rfl, rfl⟩) | (go_at_call 26; refine (join_lit 1 1 (-1) 0 (by decide) sane_join.2.2.2 _ (hT.since hL)).mono ?_; rintro e w ⟨rfl, rfl⟩) | (refine wpl_run rfl (run_load_row hL rfl a_32 rfl (by first | exact .head _ | exact .tail _ (.head _) | exact .tail _ (.tail _ (.head _)) | exact .tail _ (.tail _ (.tail _ (.head _))) | exact .tail _ (.tail _ (.tail _ (.tail _ (.head _)))) | exact .tail _ (.tail _ (.tail _ (.tail _ (.tail _ (.head _))))) | exact List.mem_append_right _ (.head _) | exact List.mem_append_right _ (.tail _ (.head _)) | exact List.mem_append_right _ (.tail _ (.tail _ (.head _))) | exact List.mem_append_right _ (.tail _ (.tail _ (.tail _ (.head _)))) | exact .tail _ (List.mem_append_right _ (.head _)) | exact .tail _ (List.mem_append_right _ (.tail _ (.head _))) | exact .tail _ (List.mem_append_right _ (.tail _ (.tail _ (.head _)))) | exact .tail _ (List.mem_append_right _ (.tail _ (.tail _ (.tail _ (.head _))))) | exact .tail _ (.tail _ (List.mem_append_right _ (.head _))) | exact .tail _ (.tail _ (List.mem_append_right _ (.tail _ (.head _)))) | exact .tail _ (.tail _ (List.mem_append_right _ (.tail _ (.tail _ (.head _))))) | exact .tail _ (.tail _ (List.mem_append_right _ (.tail _ (.tail _ (.tail _ (.head _))))))) lA.out) ?_; simp only [Act.put, List.setIfInBounds_toArray, List.set_cons_succ, List.set_cons_zero]) | (refine wpl_run rfl (run_load_row hL rfl a_16 rfl (by first | exact .head _ | exact .tail _ (.head _) | exact .tail _ (.tail _ (.head _)) | exact .tail _ (.tail _ (.tail _ (.head _))) | exact .tail _ (.tail _ (.tail _ (.tail _ (.head _)))) | exact .tail _ (.tail _ (.tail _ (.tail _ (.tail _ (.head _))))) | exact List.mem_append_right _ (.head _) | exact List.mem_append_right _ (.tail _ (.head _)) | exact List.mem_append_right _ (.tail _ (.tail _ (.head _))) | exact List.mem_append_right _ (.tail _ (.tail _ (.tail _ (.head _)))) | exact .tail _ (List.mem_append_right _ (.head _)) | exact .tail _ (List.mem_append_right _ (.tail _ (.head _))) | exact .tail _ (List.mem_append_right _ (.tail _ (.tail _ (.head _)))) | exact .tail _ (List.mem_append_right _ (.tail _ (.tail _ (.tail _ (.head _))))) | exact .tail _ (.tail _ (List.mem_append_right _ (.head _))) | exact .tail _ (.tail _ (List.mem_append_right _ (.tail _ (.head _)))) | exact .tail _ (.tail _ (List.mem_append_right _ (.tail _ (.tail _ (.head _))))) | exact .tail _ (.tail _ (List.mem_append_right _ (.tail _ (.tail _ (.tail _ (.head _))))))) lD.out) ?_; simp only [Act.put, List.setIfInBounds_toArray, List.set_cons_succ, List.set_cons_zero]) | (go_at_call 38; refine (HP.b32 _).mono ?_; rintro e w ⟨rfl, hb⟩; replace hL := hL.call hb; clear hb) | (go_at_call 37; refine (HP.hexA _).mono ?_; rintro e w ⟨rfl, hb⟩; replace hL := hL.call hb; clear hb) | (go_at_call 39; refine (HP.txt _).mono ?_; rintro e w ⟨rfl, hb⟩; replace hL := hL.call hb; clear hb) | (go_at_call 37; refine (HP.hexD _).mono ?_; rintro e w ⟨rfl, hb⟩; replace hL := hL.call hb; clear hb))
  go_ret
  exact ⟨rfl, hL.below⟩
end Go.Proofs.YtkkmkfkgmioblaaDoor
