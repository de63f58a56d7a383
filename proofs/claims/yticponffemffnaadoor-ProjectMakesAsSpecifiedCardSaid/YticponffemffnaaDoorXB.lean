/- One text out of: Wire, Int64, Lines, ExtL. -/
import Derived.Test.YticponffemffnaaDoorXA
import Derived.Test.YticponffemffnaaDoorSha
import Derived.Test.YticponffemffnaaDoorWA
import Derived.Test.YticponffemffnaaDoorK
section
/- The encoding of lists of numbers. -/
set_option linter.unusedVariables false
set_option linter.unusedSimpArgs false
namespace Go.Proofs.YticponffemffnaaDoor
open Go Go.RowKit Go.Lx Go.Proofs.YticponffemffnaaDoorW.PrintWords
attribute [local irreducible] Calls
theorem app_left' {α : Type} {l r : List α} {j : Nat} {v : α} (h : l[j]? = some v) : (l ++ r)[j]? = some v := by
  rw [List.getElem?_append_left (List.getElem?_eq_some_iff.1 h).1]; exact h
/-- a number whose encoding the program finds -/
def IntSpec (n : Int) : Prop := ∀ w0 : World, Calls Tryd.prog 64 #[.int .i64 n] w0 fun e w' => ∃ v Lv, e = .returned v ∧ Sees w0 w' Lv ∧ IsSl v 5 1 (intB n).length (bytesV (intB n)) Lv
theorem intSpec_small (n : Int) (h0 : 0 ≤ n) (h1 : n ≤ 1000000000000) : IntSpec n := fun w0 => int_any n w0 h0 h1
def intsB (l : List Int) : List UInt8 := intB l.length ++ l.flatMap intB
theorem varB_pos (z : Nat) : 0 < (varB z).length := by rw [varB]; split <;> simp
theorem varB_short : ∀ (k z : Nat), z < 128 ^ (k + 1) → (varB z).length ≤ k + 1
  | 0, z, h => by rw [varB_lt z (by simpa using h)]; simp
  | k + 1, z, h => by
    by_cases h1 : z < 128
    · rw [varB_lt z h1]; simp
    · rw [varB_ge z h1]
      have := varB_short k (z / 128) (Nat.div_lt_of_lt_mul (by rw [Nat.pow_succ, Nat.mul_comm] at h; exact h))
      simp only [List.length_cons]; omega
def isI64 (n : Int) : Prop := -9223372036854775808 ≤ n ∧ n ≤ 9223372036854775807
theorem intB_short (n : Int) (h : isI64 n) : (intB n).length ≤ 10 := by
  unfold intB
  refine varB_short 9 _ ?_
  have : zig n < 18446744073709551616 := by unfold zig; obtain ⟨h1, h2⟩ := h; split <;> omega
  exact Nat.lt_of_lt_of_le this (by decide)
theorem flat_short (l : List Int) (h : ∀ x ∈ l, isI64 x) : (l.flatMap intB).length ≤ l.length * 10 := by
  induction l with
  | nil => simp
  | cons x l ih =>
    have := intB_short x (h x (.head _))
    have := ih fun y hy => h y (.tail _ hy)
    simp only [List.flatMap_cons, List.length_append, List.length_cons]; omega
theorem flat_succ (l : List Int) (k : Nat) (h : k < l.length) : (l.take (k + 1)).flatMap intB = (l.take k).flatMap intB ++ intB l[k] := by
  rw [List.take_succ_eq_append_getElem h, List.flatMap_append, List.flatMap_singleton]
set_option maxHeartbeats 2000000 in
theorem ints_any (v : Value) (l : List Int) (w0 : World) (hR : Rd w0 v l.length 1 (numV l)) (hl : l.length ≤ 1000000) (h64 : ∀ x ∈ l, isI64 x) (hI : ∀ x ∈ l, IntSpec x) :
    Calls Tryd.prog 43 #[v] w0 fun e w' => ∃ u Lv, e = .returned u ∧ Sees w0 w' Lv ∧ IsSl u 5 1 (intsB l).length (bytesV (intsB l)) Lv := by
  have hlist : Calls Tryd.prog 63 #[v, .func (.func 64) #[] #[]] w0 fun e w' => ∃ u Lv, e = .returned u ∧ Sees w0 w' Lv ∧ IsSl u 5 1 (intsB l).length (bytesV (intsB l)) Lv := by
    have hL := Sees.refl w0
    obtain ⟨⟨a, cap, rfl, hcells⟩, -⟩ := hR
    have hl0 := intSpec_small (l.length : Int) (by omega) (by omega)
    go_enter Tryd.func63, Tryd.ntmps63
    go_wp2_with (go_at_call 64; refine (hl0 _).mono ?_; rintro e w ⟨u, Lv, rfl, hM, hV⟩; replace hL := hL.join hM; clear hM)
    rw [List.append_nil] at hL
    go_loopw [5, 13] (fun v i wr => ∃ (k : Nat) (Lv : List Blk), k ≤ l.length ∧ i = .int .i64 k ∧ Sees w0 wr Lv ∧ IsSl v 5 1 (intB l.length ++ (l.take k).flatMap intB).length (bytesV (intB l.length ++ (l.take k).flatMap intB)) Lv) (fun _ i _ => l.length - (intOf i).toNat)
    case atStart => exact ⟨0, Lv, Nat.zero_le _, rfl, hL, by simpa using hV⟩
    case round =>
      clear hL hV
      obtain ⟨k, Lv, hk, rfl, hL, hV⟩ := hrel
      by_cases hlt : k < l.length
      · obtain ⟨ad, rfl, hcc⟩ := hcells (by intro h; have := congrArg List.length h; rw [numV_len] at this; rw [this] at hlt; simp at hlt)
        have hc1 := hcc k _ (numV_at l k hlt)
        have hi := hI _ (List.getElem_mem hlt)
        have hs := intB_short _ (h64 _ (List.getElem_mem hlt))
        have hpos := varB_pos (zig l[k])
        have hnext := Lib.hid (show intB l.length ++ (l.take (k + 1)).flatMap intB = (intB l.length ++ (l.take k).flatMap intB) ++ intB l[k] by rw [flat_succ l k hlt, List.append_assoc])
        have hacc : (intB l.length ++ (l.take k).flatMap intB).length ≤ 10 + k * 10 := by
          rw [List.length_append]
          have h1 := intB_short (l.length : Int) ⟨by omega, by omega⟩
          have h2 := flat_short (l.take k) fun x hx => h64 x (List.mem_of_mem_take hx)
          rw [List.length_take, Nat.min_eq_left hk] at h2
          omega
        change 0 < (intB l[k]).length at hpos
        generalize l[k] = x at hc1 hi hs hnext hpos
        generalize intB l.length ++ (l.take k).flatMap intB = acc at hV hnext hacc
        obtain ⟨au, cu, rfl⟩ := hV.shape
        have b1 : acc.length + (intB x).length ≤ maxLen := by unfold maxLen; omega
        have b2 : (acc.length + (intB x).length) * 1 ≤ 140737488355328 := by omega
        clear hcc hcells
        go_wp2_with (first | (refine wpl_run rfl (run_load_plain rfl p_int rfl (hL.old hc1)) ?_; simp only [Act.put, List.setIfInBounds_toArray, List.set_cons_succ, List.set_cons_zero]) | (go_at_call 64; refine (hi _).mono ?_; rintro e w ⟨u2, Lv2, rfl, hM, hV2⟩; obtain ⟨au2, cu2, rfl⟩ := hV2.shape; obtain ⟨bb, rest, rfl, rfl, -⟩ := hV2.open_ hpos; replace hL := hL.join hM; have hnews := fun j u (hu : (bytesV (intB x))[j]? = some u) => hM.row (.head _) j u (app_left' hu); clear hM) | (refine wpl_append (P0 := [⟨bb, _, _⟩]) (S := []) (by simpa using hL) rfl hV _ _ _ rfl rfl [.int .u8 0] 1 u_bytes i_u8 rfl _ _ _ (bytesV (intB x)) rfl (by rw [bytesV_length, Nat.mul_one]) hnews (bytesV_one _) b1 b2 ?_; clear hL hV; intro v w Lv hL hV; simp only [Act.put, List.setIfInBounds_toArray, List.set_cons_succ, List.set_cons_zero]))
        refine ⟨⟨k + 1, Lv, by omega, rfl, ?_, ?_⟩, by simp [intOf]; omega⟩
        · have := hL.forget (List.sublist_append_right _ _)
          simpa using this
        · rw [hnext.out, bytesV_append, List.length_append]; exact hV
      · obtain rfl : k = l.length := by omega
        rw [List.take_length] at hV
        change IsSl _ _ _ (intsB l).length (bytesV (intsB l)) _ at hV
        obtain ⟨au, cu, rfl⟩ := hV.shape
        go_wp2
        go_ret
        exact ⟨_, _, rfl, hL, hV⟩
  go_enter Tryd.func43, Tryd.ntmps43
  go_wp2_with (go_at_call 63; refine hlist.mono ?_; rintro e w ⟨u, Lv, rfl, hM, hV⟩)
  go_ret
  exact ⟨_, _, rfl, hM, hV⟩
theorem en_ints : enterable Tryd.prog 43 = true := by kernel_rfl
end Go.Proofs.YticponffemffnaaDoor
end
section
/- The encoding of every number. -/
set_option linter.unusedVariables false
set_option linter.unusedSimpArgs false
namespace Go.Proofs.YticponffemffnaaDoor
open Go Go.RowKit Go.Lx Go.Proofs.YticponffemffnaaDoorW.PrintWords
attribute [local irreducible] Calls
theorem zig_lt (n : Int) (h : isI64 n) : zig n < 18446744073709551616 := by unfold zig; obtain ⟨h1, h2⟩ := h; split <;> omega
theorem zig_bits (n : Int) (h : isI64 n) : bits BinOp.xor IntKind.u64 (IntKind.u64.wrap (IntKind.u64.wrap n * 2)) (IntKind.u64.wrap (n / 9223372036854775808)) = ((zig n : Nat) : Int) := by
  obtain ⟨h1, h2⟩ := h
  simp only [wrap_u64]
  by_cases h0 : 0 ≤ n
  · rw [show n % 18446744073709551616 * 2 % 18446744073709551616 = ((2 * n.toNat : Nat) : Int) from by omega, show n / 9223372036854775808 % 18446744073709551616 = ((0 : Nat) : Int) from by omega, bits_nat_u64 .xor (2 * n.toNat) 0 (by omega) (by decide)]
    simp only [BitVec.xor_zero, BitVec.toNat_ofNat]
    unfold zig
    rw [if_pos h0]
    omega
  · rw [show n % 18446744073709551616 * 2 % 18446744073709551616 = ((18446744073709551615 - zig n : Nat) : Int) from by unfold zig; rw [if_neg h0]; omega, show n / 9223372036854775808 % 18446744073709551616 = ((18446744073709551615 : Nat) : Int) from by omega, bits_nat_u64 .xor _ 18446744073709551615 (by omega) (by decide)]
    have e : BitVec.ofNat 64 18446744073709551615 = BitVec.allOnes 64 := rfl
    simp only [e, BitVec.xor_allOnes]
    rw [BitVec.toNat_not, BitVec.toNat_ofNat]
    have hz := zig_lt n ⟨h1, h2⟩
    omega
set_option maxHeartbeats 2000000 in
theorem int64_any (n : Int) (h : isI64 n) : IntSpec n := by
  intro w0
  have hL := Sees.refl w0
  have HB := Lib.hid (zig_bits n h)
  have HS := Lib.hid (intB_short n h)
  have HZ := Lib.hid (zig_lt n h)
  clear h
  go_enter Tryd.func64, Tryd.ntmps64
  go_wp2
  rw [HB.out]
  go_loopw [3, 4] (fun u v wr => ∃ (z n_1 : Nat) (acc : List UInt8) (a : Option Addr) (cap : Nat) (Lv : List Blk), u = .int .u64 z ∧ v = .slice a n_1 cap ∧ Hid (z < 18446744073709551616) ∧ IsSl v 5 1 n_1 (bytesV acc) Lv ∧ Hid (acc ++ varB z = intB n) ∧ Sees w0 wr (Lv ++ [])) (fun u _ _ => (intOf u).toNat)
  case atStart => exact ⟨zig n, 0, [], _, _, [], rfl, rfl, HZ, .nil rfl rfl rfl rfl, Lib.hid rfl, hL⟩
  case round =>
    clear hL
    obtain ⟨z, m, acc, a, cap, Lv, rfl, rfl, hz, hV, hacc, hL⟩ := hrel
    have hal : acc.length = m := by have := hV.len; simpa [bytesV] using this
    have hm : m ≤ 10 := by
      have h1 := congrArg List.length hacc.out
      have h2 := HS.out
      rw [List.length_append] at h1
      omega
    have b1 : m + 1 ≤ maxLen := by unfold maxLen; omega
    have HAL := Lib.hid hal
    clear hal
    have o1 := or128 z
    by_cases h127 : z < 128
    · have f1 : ¬ ((127 : Int) < (z : Int)) := by omega
      have f3 : (z : Int) % 256 = (z : Int) := by omega
      go_wp2_with (first | (refine wpl_slice hL rfl _ _ _ rfl _ 1 u_bytes s_u8 [.int .u8 0] z_u8 (by decide) _ (EvalAll.one rfl) rfl ?_; clear hL; intro b w hL; simp only [Act.put, List.setIfInBounds_toArray, List.set_cons_succ, List.set_cons_zero]) | (refine wpl_app1 hL rfl hV _ _ _ rfl rfl rfl u_bytes i_u8 rfl b1 (by omega) ?_; clear hL hV; intro v w Lv hL hV; simp only [Act.put, List.setIfInBounds_toArray, List.set_cons_succ, List.set_cons_zero]))
      go_ret
      have e1 : acc ++ [UInt8.ofNat z] = intB n := by rw [← hacc.out, varB_lt z h127]
      have e2 : bytesV [UInt8.ofNat z] = [.int .u8 (z : Int)] := by
        show [Value.int IntKind.u8 ((UInt8.ofNat z).toNat : Int)] = _
        rw [show ((UInt8.ofNat z).toNat : Int) = (z : Int) from by simp only [UInt8.toNat_ofNat']; omega]
      refine ⟨v, rfl, Lv, by simpa using hL, ?_⟩
      rw [← e1, bytesV_append, e2, List.length_append, HAL.out]
      exact hV
    · have f2 : (127 : Int) < (z : Int) := by omega
      go_wp2_with (first | (refine wpl_slice hL rfl _ _ _ rfl _ 1 u_bytes s_u8 [.int .u8 0] z_u8 (by decide) _ (EvalAll.one rfl) rfl ?_; clear hL; intro b w hL; simp only [Act.put, List.setIfInBounds_toArray, List.set_cons_succ, List.set_cons_zero]) | (refine wpl_app1 hL rfl hV _ _ _ rfl rfl rfl u_bytes i_u8 rfl b1 (by omega) ?_; clear hL hV; intro v w Lv hL hV; simp only [Act.put, List.setIfInBounds_toArray, List.set_cons_succ, List.set_cons_zero]))
      obtain ⟨a', cap', rfl⟩ := hV.shape
      refine ⟨⟨z / 128, m + 1, acc ++ [UInt8.ofNat (z % 128 + 128)], a', cap', Lv, rfl, rfl, Lib.hid (by have := hz.out; omega), ?_, Lib.hid ?_, hL⟩, ?_⟩
      · rw [bytesV_append]; exact hV
      · rw [← hacc.out, varB_ge z h127]; simp
      · simp [intOf]; omega
end Go.Proofs.YticponffemffnaaDoor
end
section
/- The lines of a seed. -/
set_option linter.unusedVariables false
set_option linter.unusedSimpArgs false
namespace Go.Proofs.YticponffemffnaaDoor
open Go Go.RowKit Go.Lx Go.Proofs.YticponffemffnaaDoorW.PrintWords Go.Proofs.YticponffemffnaaDoorW.PrintMore
attribute [local irreducible] Calls
/-- what is hashed for a half of a line -/
def halfX (seed k part : Int) : List UInt8 := inB 7 [⟨(intsB [seed, k, part]).toArray⟩]
def dgt (seed k part : Int) (i : Nat) : Int := outB ((sm0.add (halfX seed k part)).add (padL (halfX seed k part).length)).st i
theorem dgt_ok (seed k part : Int) (i : Nat) : 0 ≤ dgt seed k part i ∧ dgt seed k part i < 256 := by unfold dgt outB; omega
theorem digV_half (seed k part : Int) : digV (halfX seed k part) = rowF 16 fun i => .int .u8 (dgt seed k part i) := rfl
/-- the digits of a line -/
def dig2 (seed k : Int) (p : Nat) : List Value := (List.range p).flatMap fun (q : Nat) => rowF 16 fun i => .int .u8 (dgt seed k (q : Int) i)
theorem dig2_succ (seed k : Int) (p : Nat) : dig2 seed k (p + 1) = dig2 seed k p ++ rowF 16 fun i => .int .u8 (dgt seed k p i) := by
  unfold dig2; rw [List.range_succ, List.flatMap_append, List.flatMap_singleton]
theorem dig2_len (seed k : Int) (p : Nat) : (dig2 seed k p).length = 16 * p := by
  induction p with
  | zero => simp [dig2]
  | succ p ih => rw [dig2_succ, List.length_append, ih, rowF_len]; omega
theorem dig2_at (seed k : Int) (i : Nat) (h : i < 32) : (dig2 seed k 2)[i]? = some (.int .u8 (dgt seed k (i / 16 : Nat) (i % 16))) := by
  rw [dig2_succ, dig2_succ]
  by_cases h1 : i < 16
  · rw [List.getElem?_append_left (by rw [List.length_append, rowF_len]; omega), List.getElem?_append_right (by rw [dig2_len]; omega), dig2_len, show i - 16 * 0 = i by omega, rowF_at 16 _ i h1, show i / 16 = 0 by omega, show i % 16 = i by omega]
  · rw [List.getElem?_append_right (by rw [List.length_append, rowF_len, dig2_len]; omega), List.length_append, rowF_len, dig2_len, show i - (16 * 0 + 16) = i - 16 by omega, rowF_at 16 _ (i - 16) (by omega), show i / 16 = 0 + 1 by omega, show i % 16 = i - 16 by omega]
def rawI (seed k : Int) (i : Nat) : Int := dgt seed k (i / 16 : Nat) (i % 16) % 3 - 1
def rawLine (seed k : Int) (D : Nat) : List Int := (List.range D).map (rawI seed k)
theorem rawLine_len (seed k : Int) (D : Nat) : (rawLine seed k D).length = D := by simp [rawLine]
def fixLine (l : List Int) : List Int := if normV 3 l = 0 then l.set 0 1 else l
theorem fixLine_len (l : List Int) : (fixLine l).length = l.length := by unfold fixLine; split <;> simp
def lineV (seed k : Int) (D : Nat) : List Int := fixLine (rawLine seed k D)
def linesV (seed : Int) (n D : Nat) : List (List Int) := (List.range n).map fun (k : Nat) => lineV seed (k : Int) D
theorem linesV_succ (seed : Int) (n D : Nat) : linesV seed (n + 1) D = linesV seed n D ++ [lineV seed n D] := by unfold linesV; rw [List.range_succ, List.map_append]; rfl
/-- the blocks of rows -/
def lb (bs : List Nat) (rows : List (List Int)) : List Blk := List.zipWith (fun b r => ⟨b, 3, numV r⟩) bs rows
def vals (bs : List Nat) (D : Nat) : List Value := bs.map fun b => .slice (some ⟨b, 0, none⟩) D D
theorem i_ints : (Tryd.prog.info? 24).map (fun i => (i.zero.map fun z => z.cells.toList, i.size, i.bytes)) = some (some [.slice none 0 0], 1, 24) := by kernel_rfl
theorem s_ints : (Tryd.prog.info? 24).map (·.size) = some 1 := by kernel_rfl
theorem z_ints : zeroOf Tryd.prog 24 = some [.slice none 0 0] := by kernel_rfl
theorem u_strs : Tryd.prog.underlying 70 = some (.slice 9) := by kernel_rfl
theorem s_str : (Tryd.prog.info? 9).map (·.size) = some 1 := by kernel_rfl
theorem z_str : zeroOf Tryd.prog 9 = some [.string ⟨#[]⟩] := by kernel_rfl
theorem u_ints' : Tryd.prog.underlying 22 = some (.slice 24) := by kernel_rfl
theorem reord {w0 w : World} {a b d : Blk} {Lv S : List Blk} (h : Sees w0 w (a :: b :: ([d] ++ (Lv ++ S)))) : Sees w0 w (a :: (Lv ++ (S ++ [b]))) := by
  have h1 : Sees w0 w (a :: b :: (Lv ++ S)) := h.forget (.cons_cons _ (.cons_cons _ (List.sublist_append_right _ _)))
  refine h1.perm (List.Perm.cons _ ?_)
  rw [← List.append_assoc]
  exact (List.perm_append_singleton b (Lv ++ S)).symm
theorem linesV_len (seed : Int) (n D : Nat) : (linesV seed n D).length = n := by simp [linesV]
theorem lb_succ (seed : Int) (k D bl : Nat) (bs : List Nat) (l : List Int) (hb : bs.length = k) (hl : lineV seed k D = l) : lb (bs ++ [bl]) (linesV seed (k + 1) D) = lb bs (linesV seed k D) ++ [⟨bl, 3, numV l⟩] := by
  unfold lb
  rw [linesV_succ, List.zipWith_append (by rw [linesV_len, hb]), hl]
  rfl
theorem vals_succ (bs : List Nat) (bl D : Nat) : vals (bs ++ [bl]) D = vals bs D ++ [.slice (some ⟨bl, 0, none⟩) D D] := by unfold vals; rw [List.map_append]; rfl
theorem lineV_len (seed k : Int) (D : Nat) : (lineV seed k D).length = D := by unfold lineV; rw [fixLine_len, rawLine_len]
set_option maxRecDepth 100000 in
set_option maxHeartbeats 8000000 in
theorem lines_any (seed : Int) (n D : Nat) (w0 : World) (hs : isI64 seed) (hI : IntSpec seed) (hn : n ≤ 1000) (hD : 1 ≤ D) (hD2 : D ≤ 32) (hT : Tab w0) :
    Calls Tryd.prog 13 #[.int .i64 seed, .int .i64 n, .int .i64 D] w0 fun e w' => ∃ v Lv bs, e = .returned v ∧ bs.length = n ∧ Sees w0 w' (Lv ++ lb bs (linesV seed n D)) ∧ IsSl v 24 1 n (vals bs D) Lv := by
  have hL := Sees.refl w0
  go_enter Tryd.func13, Tryd.ntmps13
  go_wp2
  go_loopw [7, 15] (fun v i wr => ∃ (k : Nat) (Lv : List Blk) (bs : List Nat), k ≤ n ∧ i = .int .i64 k ∧ bs.length = k ∧ Sees w0 wr (Lv ++ lb bs (linesV seed k D)) ∧ IsSl v 24 1 k (vals bs D) Lv) (fun _ i _ => n - (intOf i).toNat)
  case atStart => exact ⟨0, [], [], Nat.zero_le _, rfl, rfl, hL, .nil rfl rfl rfl rfl⟩
  case round =>
    clear hL
    obtain ⟨k, Lv, bs, hk, rfl, hbs, hL, hV⟩ := hrel
    have HBS := Lib.hid hbs
    clear hbs
    obtain ⟨wk, rfl⟩ : ∃ wk, wk = wr := ⟨_, rfl⟩
    by_cases hlt : k < n
    · generalize hS : lb bs (linesV seed k D) = S at hL
      have HS := Lib.hid hS
      clear hS
      go_wp2
      go_loopw [9, 18] (fun v i wr => ∃ (p : Nat) (Ld : List Blk), p ≤ 2 ∧ i = .int .i64 p ∧ Sees w0 wr (Ld ++ (Lv ++ S)) ∧ IsSl v 5 1 (16 * p) (dig2 seed k p) Ld) (fun _ i _ => 2 - (intOf i).toNat)
      case atStart => exact ⟨0, [], Nat.zero_le _, rfl, hL, .nil rfl rfl (by simp [dig2]) rfl⟩
      case round =>
        clear hL
        obtain ⟨p, Ld, hp, rfl, hL, hVd⟩ := hrel
        by_cases hp2 : p < 2
        · have hints := fun v w h => ints_any v [seed, (k : Int), (p : Int)] w h (by simp) (fun x hx => by simp at hx; rcases hx with rfl | rfl | rfl; exact hs; exact ⟨by omega, by omega⟩; exact ⟨by omega, by omega⟩) (fun x hx => by simp at hx; rcases hx with rfl | rfl | rfl; exact hI; exact intSpec_small _ (by omega) (by omega); exact intSpec_small _ (by omega) (by omega))
          have hof := fun v w (h : Rd w v 1 1 (strV [⟨(intsB [seed, (k : Int), (p : Int)]).toArray⟩])) (hT : Tab w) => of_any 7 v [⟨(intsB [seed, (k : Int), (p : Int)]).toArray⟩] w h (by simp) (fun t ht => by
            simp at ht; subst ht; show (intsB _).toArray.size ≤ _
            have h1 := flat_short [seed, (k : Int), (p : Int)] (fun x hx => by simp at hx; rcases hx with rfl | rfl | rfl; exact hs; exact ⟨by omega, by omega⟩; exact ⟨by omega, by omega⟩)
            have h2 := intB_short 3 ⟨by omega, by omega⟩
            unfold intsB
            simp at h1 ⊢
            omega) hT
          have hd1 := dig2_succ seed k p
          change _ = _ ++ digV (halfX seed k p) at hd1
          change ∀ v w, _ → _ → Calls _ _ _ _ fun e w' => e = .returned (.agg (digV (halfX seed k p)).toArray) ∧ _ at hof
          have hY1 : ∀ u ∈ digV (halfX seed k p), u.one1 = true := rowF_one _ _ fun _ => rfl
          have hYl : (digV (halfX seed k p)).length = 16 := rowF_len _ _
          generalize digV (halfX seed k p) = Y at hd1 hof hY1 hYl
          have HD := Lib.hid hd1
          have HYL := Lib.hid hYl
          clear hd1 hYl
          have b1 : 16 * p + 16 ≤ maxLen := by unfold maxLen; omega
          have b2 : (16 * p + 16) * 1 ≤ 140737488355328 := by omega
          obtain ⟨ad9, cd9, rfl⟩ := hVd.shape
          have t1 : decide ((p : Int) < 2) = true := by simp; omega
          generalize intsB [seed, (k : Int), (p : Int)] = X at hints hof
          go_wp2_with (first | (refine wpl_slice hL rfl _ _ _ rfl _ 1 u_ints s_int [.int .i64 0] z_int (by decide) [.int .i64 seed, .int .i64 (k : Int), .int .i64 (p : Int)] (.cons (cs := [_]) rfl rfl (.cons (cs := [_]) rfl rfl (.cons (cs := [_]) rfl rfl (.nil _)))) rfl ?_; clear hL; intro b w hL; simp only [Act.put, List.setIfInBounds_toArray, List.set_cons_succ, List.set_cons_zero]) | (go_at_call 43; refine (hints _ _ ⟨⟨_, _, rfl, fun _ => ⟨_, rfl, fun j x hx => hL.row (.head _) j x hx⟩⟩, rfl⟩).mono ?_; rintro e w ⟨u, Lu, rfl, hM, hVu⟩; have hRu := hVu.rd hM (fun _ h => h); replace hL := hL.call hM.below; clear hM hVu) | (refine wpl_run rfl (exec_toString u_bytes u_u8 u_string hRu rfl rfl) ?_; simp only [Act.put, List.setIfInBounds_toArray, List.set_cons_succ, List.set_cons_zero]) | (refine wpl_slice hL rfl _ _ _ rfl _ 1 u_strs s_str [.string ⟨#[]⟩] z_str (by decide) [.string ⟨X.toArray⟩] (.cons (cs := [_]) rfl rfl (.nil _)) rfl ?_; clear hL; intro b w hL; simp only [Act.put, List.setIfInBounds_toArray, List.set_cons_succ, List.set_cons_zero]) | (go_at_call 42; refine (hof _ _ ⟨⟨_, _, rfl, fun _ => ⟨_, rfl, fun j x hx => hL.row (.head _) j x hx⟩⟩, rfl⟩ (hT.since hL)).mono ?_; rintro e w ⟨rfl, hb⟩; replace hL := hL.call hb; clear hb) | (refine wpl_alloc hL rfl _ rfl _ z_16 ?_; clear hL; intro b w hL; simp only [Act.put, List.setIfInBounds_toArray, List.set_cons_succ, List.set_cons_zero]) | (refine wpl_strow hL rfl _ _ _ rfl _ rfl _ rfl _ s_16 _ rfl _ _ _ (by first | exact .here | exact .there .here | exact .there (.there .here) | exact .there (.there (.there .here)) | exact .there (.there (.there (.there .here))) | exact .pre (.here) | exact .pre (.there .here) | exact .pre (.there (.there .here))) hY1 HYL.out (by exact rowF_len _ _) ?_; clear hL; intro w hL; simp only [Act.put, List.setIfInBounds_toArray, List.set_cons_succ, List.set_cons_zero]) | (refine wpl_append (P0 := [_, _, _]) (S := Lv ++ S) hL rfl hVd _ _ _ rfl rfl [.int .u8 0] 1 u_bytes i_u8 rfl _ _ _ Y rfl (by rw [HYL.out]) (fun j u hu => hL.row (.head _) j u hu) hY1 b1 b2 ?_; clear hL hVd; intro v w Ld hL hVd; simp only [Act.put, List.setIfInBounds_toArray, List.set_cons_succ, List.set_cons_zero]))
          refine ⟨⟨p + 1, Ld, by omega, rfl, hL.forget (List.sublist_append_right _ _), by rw [HD.out]; exact hVd⟩, by simp [intOf]; omega⟩
        · obtain rfl : p = 2 := by omega
          change IsSl _ _ 1 32 _ _ at hVd
          obtain ⟨ad9, cd9, rfl⟩ := hVd.shape
          obtain ⟨bd, rest, rfl, rfl, -⟩ := hVd.open_ (by omega)
          go_wp2_with (refine wpl_make hL rfl rfl u_ints i_int3 rfl rfl rfl (by omega) (by omega) ?_; clear hL; intro b w hL; simp only [Act.put, List.setIfInBounds_toArray, List.set_cons_succ, List.set_cons_zero])
          obtain ⟨bl, rfl⟩ : ∃ bl, bl = b := ⟨_, rfl⟩
          obtain ⟨wl, rfl⟩ : ∃ wl, wl = w := ⟨_, rfl⟩
          rw [numV_rep] at hL
          have hrl : (rawLine seed k D).length = (List.replicate D (0 : Int)).length := by simp [rawLine]
          have HRL := Lib.hid hrl
          clear hrl
          go_loopw [37] (fun i wr => ∃ j : Nat, j ≤ D ∧ i = .int .i64 j ∧ Sees w0 wr (⟨bl, 3, numV (mixed_ (rawLine seed k D) (List.replicate D 0) j)⟩ :: ([⟨bd, 5, dig2 seed k 2 ++ rest⟩] ++ (Lv ++ S)))) (fun i _ => D - (intOf i).toNat)
          case atStart => exact ⟨0, Nat.zero_le _, rfl, by rw [show mixed_ (rawLine seed k D) (List.replicate D 0) 0 = List.replicate D 0 from rfl]; exact hL⟩
          case round =>
            clear hL
            obtain ⟨j, hj, rfl, hL⟩ := hrel
            by_cases hjD : j < D
            · have hat : (dig2 seed k 2 ++ rest)[j]? = some (.int .u8 (dgt seed k (j / 16 : Nat) (j % 16))) := app_left' (dig2_at seed k j (by omega))
              have hok := dgt_ok seed k (j / 16 : Nat) (j % 16)
              have g3 : (numV (mixed_ (rawLine seed k D) (List.replicate D 0) j)).set j (.int .i64 (dgt seed k (j / 16 : Nat) (j % 16) % 3 - 1)) = numV (mixed_ (rawLine seed k D) (List.replicate D 0) (j + 1)) := by
                rw [numV_set]
                have := mixed_set (rawLine seed k D) (List.replicate D 0) j (by rw [HRL.out]; simp; exact hjD) (by simp; exact hjD)
                rw [← this]
                congr 2
                unfold rawLine rawI
                simp
              have g4 : j < (numV (mixed_ (rawLine seed k D) (List.replicate D 0) j)).length := by rw [numV_len, mixed_len _ _ _ HRL.out]; simp; exact hjD
              generalize dgt seed k (j / 16 : Nat) (j % 16) = x at hat hok g3
              obtain ⟨x0, x1⟩ := hok
              have G3 := Lib.hid g3
              clear g3
              generalize numV (mixed_ (rawLine seed k D) (List.replicate D 0) j) = cs at hL g4 G3
              have hj32 : j < 32 := by omega
              go_wp2_with (first | (refine wpl_run rfl (run_load_plain rfl p_u8 rfl (hL.at (by first | exact .head _ | exact .tail _ (.head _) | exact .tail _ (.tail _ (.head _)) | exact .tail _ (.tail _ (.tail _ (.head _))) | exact .tail _ (.tail _ (.tail _ (.tail _ (.head _)))) | exact .tail _ (.tail _ (.tail _ (.tail _ (.tail _ (.head _))))) | exact List.mem_append_right _ (.head _) | exact List.mem_append_right _ (.tail _ (.head _)) | exact List.mem_append_right _ (.tail _ (.tail _ (.head _))) | exact List.mem_append_right _ (.tail _ (.tail _ (.tail _ (.head _)))) | exact .tail _ (List.mem_append_right _ (.head _)) | exact .tail _ (List.mem_append_right _ (.tail _ (.head _))) | exact .tail _ (List.mem_append_right _ (.tail _ (.tail _ (.head _)))) | exact .tail _ (List.mem_append_right _ (.tail _ (.tail _ (.tail _ (.head _))))) | exact .tail _ (.tail _ (List.mem_append_right _ (.head _))) | exact .tail _ (.tail _ (List.mem_append_right _ (.tail _ (.head _)))) | exact .tail _ (.tail _ (List.mem_append_right _ (.tail _ (.tail _ (.head _))))) | exact .tail _ (.tail _ (List.mem_append_right _ (.tail _ (.tail _ (.tail _ (.head _))))))) hat)) ?_; simp only [Act.put, List.setIfInBounds_toArray, List.set_cons_succ, List.set_cons_zero]) | (refine wpl_set1 hL rfl _ _ _ rfl _ _ rfl _ rfl s_int rfl rfl _ _ _ _ (by first | exact .here | exact .there .here | exact .there (.there .here) | exact .there (.there (.there .here)) | exact .there (.there (.there (.there .here))) | exact .pre (.here) | exact .pre (.there .here) | exact .pre (.there (.there .here))) g4 G3.out ?_; clear hL; intro w hL; simp only [Act.put, List.setIfInBounds_toArray, List.set_cons_succ, List.set_cons_zero]))
              refine ⟨⟨j + 1, by omega, rfl, hL⟩, by simp [intOf]; omega⟩
            · obtain rfl : j = D := by omega
              have e : mixed_ (rawLine seed k j) (List.replicate j 0) j = rawLine seed k j := by
                have := mixed_all (rawLine seed k j) (List.replicate j 0) HRL.out
                simpa using this
              rw [e] at hL
              have hlen := rawLine_len seed k j
              have hline : lineV seed k j = fixLine (rawLine seed k j) := rfl
              have hnm := fun v w (h : Rd w v j 1 (numV (rawLine seed k j))) => norm_any 3 (by decide) v (rawLine seed k j) w (by rw [hlen]; exact h) (by omega)
              have hfl := fixLine_len (rawLine seed k j)
              unfold fixLine at hline hfl
              generalize hr : rawLine seed k j = raw at hL hnm hlen hline hfl
              generalize hN : normV 3 raw = N at hnm hline hfl
              have hnv : (numV raw).length = j * 1 := by rw [numV_len, hlen, Nat.mul_one]
              have g4 : 0 < (numV raw).length := by omega
              have HLEN := Lib.hid hlen
              have HNV := Lib.hid hnv
              have b1 : k + 1 ≤ maxLen := by unfold maxLen; omega
              have b2 : (k + 1) * 24 ≤ 140737488355328 := by omega
              have hk1 : k + 1 ≤ n := by omega
              have hjp : (0 : Int) < (j : Int) := by omega
              by_cases hz : N = 0
              · rw [if_pos hz] at hline hfl
                have HLINE := Lib.hid hline
                have hfl' := Lib.hid hfl
                subst hz
                have G3 := Lib.hid (numV_set raw 0 1)
                clear hline hfl hN hr hlen hnv e
                go_wp2_with (first | (go_at_call 44; refine (hnm _ _ ⟨⟨_, _, rfl, fun _ => ⟨_, rfl, fun j x hx => hL.row (.head _) j x hx⟩⟩, HNV.out⟩).mono ?_; rintro e w ⟨rfl, hb⟩; replace hL := hL.call hb; clear hb) | (refine wpl_set1 hL rfl _ _ _ rfl _ _ rfl _ rfl s_int rfl rfl _ _ _ _ (by first | exact .here | exact .there .here | exact .there (.there .here) | exact .there (.there (.there .here)) | exact .there (.there (.there (.there .here))) | exact .pre (.here) | exact .pre (.there .here) | exact .pre (.there (.there .here))) g4 G3.out ?_; clear hL; intro w hL; simp only [Act.put, List.setIfInBounds_toArray, List.set_cons_succ, List.set_cons_zero]) | (refine wpl_slice hL rfl _ _ _ rfl _ 1 u_ints' s_ints [.slice none 0 0] z_ints (by decide) [.slice (some ⟨bl, 0, none⟩) j j] (.cons (cs := [_]) rfl rfl (.nil _)) rfl ?_; clear hL; intro b w hL; simp only [Act.put, List.setIfInBounds_toArray, List.set_cons_succ, List.set_cons_zero]) | (refine wpl_appK (reord hL) rfl hV _ _ _ rfl rfl rfl u_ints' i_ints rfl rfl (by repeat (first | exact all1_nil | refine all1_cons rfl ?_)) b1 b2 ?_; clear hL hV; intro v w Lv hL hV; simp only [Act.put, List.setIfInBounds_toArray, List.set_cons_succ, List.set_cons_zero]))
                refine ⟨⟨k + 1, Lv, bs ++ [bl], hk1, rfl, by simp [HBS.out], ?_, ?_⟩, by simp [intOf]; omega⟩
                · rw [lb_succ seed k j bl bs _ HBS.out HLINE.out, HS.out]; exact hL
                · rw [vals_succ]; exact hV
              · rw [if_neg hz] at hline hfl
                have HLINE := Lib.hid hline
                have hz2 : (N == 0) = false := beq_eq_false_iff_ne.2 hz
                clear hline hfl hN hr hlen hnv e hz
                go_wp2_with (first | (go_at_call 44; refine (hnm _ _ ⟨⟨_, _, rfl, fun _ => ⟨_, rfl, fun j x hx => hL.row (.head _) j x hx⟩⟩, HNV.out⟩).mono ?_; rintro e w ⟨rfl, hb⟩; replace hL := hL.call hb; clear hb) | (refine wpl_slice hL rfl _ _ _ rfl _ 1 u_ints' s_ints [.slice none 0 0] z_ints (by decide) [.slice (some ⟨bl, 0, none⟩) j j] (.cons (cs := [_]) rfl rfl (.nil _)) rfl ?_; clear hL; intro b w hL; simp only [Act.put, List.setIfInBounds_toArray, List.set_cons_succ, List.set_cons_zero]) | (refine wpl_appK (reord hL) rfl hV _ _ _ rfl rfl rfl u_ints' i_ints rfl rfl (by repeat (first | exact all1_nil | refine all1_cons rfl ?_)) b1 b2 ?_; clear hL hV; intro v w Lv hL hV; simp only [Act.put, List.setIfInBounds_toArray, List.set_cons_succ, List.set_cons_zero]))
                refine ⟨⟨k + 1, Lv, bs ++ [bl], hk1, rfl, by simp [HBS.out], ?_, ?_⟩, by simp [intOf]; omega⟩
                · rw [lb_succ seed k j bl bs _ HBS.out HLINE.out, HS.out]; exact hL
                · rw [vals_succ]; exact hV
    · obtain rfl : k = n := by omega
      go_wp2
      go_ret
      exact ⟨_, _, _, rfl, HBS.out, hL, hV⟩
theorem en_lines : enterable Tryd.prog 13 = true := by kernel_rfl
end Go.Proofs.YticponffemffnaaDoor
end
section
/- The lines of a seed in the print's form. -/
set_option linter.unusedVariables false
set_option linter.unusedSimpArgs false
namespace Go.Proofs.YticponffemffnaaDoor.Ext
open Go Go.RowKit Go.Lx Go.Proofs.YticponffemffnaaDoor Go.Proofs.YticponffemffnaaDoor.P Go.Proofs.YticponffemffnaaDoorW.PrintWords
def okL (a0 a1 a2 : Int) : Bool := (decide (a0 / 9223372036854775808 = 0) || decide (a0 / 9223372036854775808 = -1)) && decide (0 ≤ a1) && decide (a1 ≤ 1000) && decide (1 ≤ a2) && decide (a2 ≤ 32)
theorem okL_iff {a0 a1 a2 : Int} (h : okL a0 a1 a2 = true) : isI64 a0 ∧ (0 ≤ a1 ∧ a1 ≤ 1000) ∧ 1 ≤ a2 ∧ a2 ≤ 32 := by
  unfold okL at h
  simp only [Bool.and_eq_true, Bool.or_eq_true, decide_eq_true_eq] at h
  unfold isI64
  omega
theorem rowsOf_lb {w0 w : World} {v : Value} {Lv : List Blk} {bs : List Nat} {D : Nat} {rows : List (List Int)} (hb : bs.length = rows.length) (hr : ∀ r ∈ rows, r.length = D) (hD : D ≤ maxLen) (hL : Sees w0 w (Lv ++ lb bs rows)) (hV : IsSl v 24 1 rows.length (vals bs D) Lv) : RowsOf w0 w 24 3 v rows := by
  refine ⟨Lv, bs.map fun b => ⟨b, D, D, []⟩, by simp [hb], ?_, ?_, ?_⟩
  · have e : lbG 3 (bs.map fun b => (⟨b, D, D, []⟩ : RowD)) rows = lb bs rows := by
      unfold lbG lb RowD.blk
      rw [List.zipWith_map_left]
      simp
    rw [e]; exact hL
  · have e : valsG (bs.map fun b => (⟨b, D, D, []⟩ : RowD)) = vals bs D := by unfold valsG vals RowD.val; rw [List.map_map]; rfl
    rw [e]; exact hV
  · intro i u r hu hr'
    rw [List.getElem?_map] at hu
    obtain ⟨b, _, rfl⟩ := Option.map_eq_some_iff.1 hu
    have hl := hr r (List.mem_of_getElem? hr')
    have h1 := isSl_lit (b := b) (e := 3) (size := 1) (n := D) (vs := numV r) (by rw [numV_len, hl, Nat.mul_one]) hD
    unfold RowD.val RowD.blk
    rw [hl, List.append_nil]
    exact h1
theorem linesV_D (seed : Int) (n D : Nat) : ∀ r ∈ linesV seed n D, r.length = D := by
  intro r hr
  obtain ⟨k, _, rfl⟩ := List.mem_map.1 hr
  exact lineV_len seed k D
def project_Lines.f (a0 : Int) (a1 : Int) (a2 : Int) : Option ((List (List Int))) := if okL a0 a1 a2 = true then some (linesV a0 a1.toNat a2.toNat) else none
theorem project_Lines.calls (a0 : Int) (a1 : Int) (a2 : Int) (r : List (List Int)) (w : World) (hT : Tab w) (h : project_Lines.f a0 a1 a2 = some r) :
    Calls Tryd.prog 13 #[.int .i64 a0, .int .i64 a1, .int .i64 a2] w fun e w' => ∃ v0_ : Value, e = .returned (v0_) ∧ Kd.S (Kd.slice 3 (Kd.int .i64)) 24 w' w.heap.size (fun _ => True) v0_ r ∧ Below w.heap.size w w' := by
  obtain ⟨hok, rfl⟩ := if_some h
  obtain ⟨h1, ⟨h2, h3⟩, h4, h5⟩ := okL_iff hok
  obtain ⟨n, rfl⟩ := Int.eq_ofNat_of_zero_le h2
  obtain ⟨D, rfl⟩ := Int.eq_ofNat_of_zero_le (show 0 ≤ a2 by omega)
  simp only [Int.toNat_natCast]
  refine (lines_any a0 n D w h1 (int64_any a0 h1) (by omega) (by omega) (by omega) hT).mono ?_
  rintro e w' ⟨v, Lv, bs, rfl, hb, hL, hV⟩
  exact ⟨v, rfl, (rowsOf_lb (by rw [hb, linesV_len]) (linesV_D a0 n D) (by unfold maxLen; omega) hL (by rw [linesV_len]; exact hV)).S, hL.below⟩
end Go.Proofs.YticponffemffnaaDoor.Ext
end
