/- One text out of: Vec, Proj, Rng, Of, Val, Ext. -/
import Derived.Test.YticponffemffnaaDoorK
import Derived.Test.YticponffemffnaaDoorWB
import Derived.WalkSpells
import Derived.Test.YticponffemffnaaDoorP0
section
/- The vectors' functions: norms, differences, keys. -/
set_option linter.unusedVariables false
set_option linter.unusedSimpArgs false
namespace Go.Proofs.YticponffemffnaaDoor
open Go Go.RowKit Go.Lx Go.Proofs.YticponffemffnaaDoorW.PrintWords Go.Proofs.YticponffemffnaaDoorW.PrintMore
theorem mx2 (k k' : IntKind) (x y : Int) : Builtin.max2 (.int k x) (.int k' y) = pure (.int k (mx x y)) := by simp only [Builtin.max2, gt_iff_lt]; rfl
theorem mn2 (k k' : IntKind) (x y : Int) : Builtin.min2 (.int k x) (.int k' y) = pure (.int k (mn x y)) := by simp only [Builtin.min2]; rfl
attribute [local go_sem] mx2 mn2 max_two min_two max_three
attribute [local irreducible] Calls

def nS (n x : Int) : Int := wrap64 (n + mx x (wrap64 (-x)))
def nE (n x : Int) : Int := wrap64 (n + wrap64 (x * x))
def nM (n x : Int) : Int := mx (mx n x) (wrap64 (-x))
theorem norm1_any (n x : Int) (w0 : World) : Calls Tryd.prog 65 #[.int .i64 n, .int .i64 x] w0 fun e w' => e = .returned (.int .i64 (nS n x)) ∧ w' = w0 := by
  go_enter Tryd.func65, Tryd.ntmps65
  go_wp2
  go_ret
  exact ⟨rfl, rfl⟩
theorem norm2_any (n x : Int) (w0 : World) : Calls Tryd.prog 66 #[.int .i64 n, .int .i64 x] w0 fun e w' => e = .returned (.int .i64 (nE n x)) ∧ w' = w0 := by
  go_enter Tryd.func66, Tryd.ntmps66
  go_wp2
  go_ret
  exact ⟨rfl, rfl⟩
theorem norm3_any (n x : Int) (w0 : World) : Calls Tryd.prog 67 #[.int .i64 n, .int .i64 x] w0 fun e w' => e = .returned (.int .i64 (nM n x)) ∧ w' = w0 := by
  go_enter Tryd.func67, Tryd.ntmps67
  go_wp2
  go_ret
  exact ⟨rfl, rfl⟩
/-- a function value of two numbers -/
def Fn2 (fv : Value) (F : Int → Int → Int) : Prop := ∀ (n x : Int) (w : World), CallsV Tryd.prog fv #[.int .i64 n, .int .i64 x] w fun e w' => e = .returned (.int .i64 (F n x)) ∧ w' = w
theorem fn_norm1 : Fn2 (.func (.func 65) #[] #[]) nS := fun n x w => .of0 (by kernel_rfl) (norm1_any n x w)
theorem fn_norm2 : Fn2 (.func (.func 66) #[] #[]) nE := fun n x w => .of0 (by kernel_rfl) (norm2_any n x w)
theorem fn_norm3 : Fn2 (.func (.func 67) #[] #[]) nM := fun n x w => .of0 (by kernel_rfl) (norm3_any n x w)
set_option maxHeartbeats 1000000 in
theorem fold_any (fv v : Value) (F : Int → Int → Int) (hf : Fn2 fv F) (l : List Int) (b0 : Int) (w0 : World) (hR : Rd w0 v l.length 1 (numV l)) (hl : l.length ≤ 9223372036854775807) :
    Calls Tryd.prog 68 #[v, .int .i64 b0, fv] w0 fun e w' => e = .returned (.int .i64 (l.foldl F b0)) ∧ w' = w0 := by
  obtain ⟨⟨a, cap, rfl, hcells⟩, -⟩ := hR
  go_enter Tryd.func68, Tryd.ntmps68
  go_wp2
  go_loop [1, 11] (fun n i => ∃ k : Nat, k ≤ l.length ∧ i = .int .i64 k ∧ n = .int .i64 ((l.take k).foldl F b0)) (fun _ i => l.length - (intOf i).toNat)
  case atStart => exact ⟨0, Nat.zero_le _, rfl, rfl⟩
  case round =>
    obtain ⟨k, hk, rfl, rfl⟩ := hrel
    generalize hn : (l.take k).foldl F b0 = n
    have HN := Lib.hid hn
    clear hn
    by_cases hlt : k < l.length
    · obtain ⟨ad, rfl, hcc⟩ := hcells (by intro h; have := congrArg List.length h; rw [numV_len] at this; rw [this] at hlt; simp at hlt)
      have hc1 := hcc k _ (numV_at l k hlt)
      generalize hx : l[k] = x at hc1
      have HX := Lib.hid hx
      clear hx hcc hcells
      go_wp2_with (refine wpl_callV rfl rfl rfl rfl (hf n x _) ?_; rintro e w ⟨rfl, rfl⟩; refine ⟨_, rfl, ?_⟩; simp only [Act.put, List.setIfInBounds_toArray, List.set_cons_succ, List.set_cons_zero])
      go_round
      case rel => exact ⟨k + 1, by omega, by go_num, by rw [List.take_succ_eq_append_getElem hlt, List.foldl_append, HN.out, HX.out]; rfl⟩
      case measure => simp [intOf]; omega
    · obtain rfl : k = l.length := by omega
      go_wp2
      go_ret
      exact ⟨by rw [← HN.out, List.take_length]; rfl, rfl⟩

def normF (m : Int) : Int → Int → Int := if m = 1 then nS else if m = 2 then nE else nM
def normV (m : Int) (l : List Int) : Int := l.foldl (normF m) 0
theorem u_norms : Tryd.prog.underlying 85 = some (.map 3 84) := by kernel_rfl
theorem u_int : Tryd.prog.underlying 3 = some (.int .i64) := by kernel_rfl
set_option maxHeartbeats 1000000 in
theorem norm_any (m : Int) (hm : m = 1 ∨ m = 2 ∨ m = 3) (v : Value) (l : List Int) (w0 : World) (hR : Rd w0 v l.length 1 (numV l)) (hl : l.length ≤ 9223372036854775807) :
    Calls Tryd.prog 44 #[.int .i64 m, v] w0 fun e w' => e = .returned (.int .i64 (normV m l)) ∧ Below w0.heap.size w0 w' := by
  rcases hm with rfl | rfl | rfl
  · have hL := Sees.refl w0
    go_enter Tryd.func44, Tryd.ntmps44
    go_wp2_with (first | (refine wpl_makeMap hL rfl 85 rfl ?_; clear hL; intro b w hL hM; simp only [Act.put, List.setIfInBounds_toArray, List.set_cons_succ, List.set_cons_zero]; (refine wpl_insert hL hM (fun _ h => absurd h List.not_mem_nil) ?_ rfl u_norms u_int rfl rfl rfl ?_ ?_; rfl; rfl; clear hL hM; intro w c hL hM; simp only [Act.put, List.setIfInBounds_toArray, List.set_cons_succ, List.set_cons_zero]); (refine wpl_insert hL hM (fun _ h => absurd h List.not_mem_nil) ?_ rfl u_norms u_int rfl rfl rfl ?_ ?_; rfl; rfl; clear hL hM; intro w c hL hM; simp only [Act.put, List.setIfInBounds_toArray, List.set_cons_succ, List.set_cons_zero]); (refine wpl_insert hL hM (fun _ h => absurd h List.not_mem_nil) ?_ rfl u_norms u_int rfl rfl rfl ?_ ?_; rfl; rfl; clear hL hM; intro w c hL hM; simp only [Act.put, List.setIfInBounds_toArray, List.set_cons_succ, List.set_cons_zero])) | (refine wpl_run rfl (run_lookup_int hM rfl u_norms u_int rfl rfl rfl) ?_; simp only [Act.put, List.setIfInBounds_toArray, List.set_cons_succ, List.set_cons_zero]) | (go_at_call 68; refine (fold_any _ _ _ fn_norm1 l 0 _ (hR.sees hL) hl).mono ?_; rintro e w ⟨rfl, rfl⟩))
    go_ret
    exact ⟨rfl, hL.below⟩
  · have hL := Sees.refl w0
    go_enter Tryd.func44, Tryd.ntmps44
    go_wp2_with (first | (refine wpl_makeMap hL rfl 85 rfl ?_; clear hL; intro b w hL hM; simp only [Act.put, List.setIfInBounds_toArray, List.set_cons_succ, List.set_cons_zero]; (refine wpl_insert hL hM (fun _ h => absurd h List.not_mem_nil) ?_ rfl u_norms u_int rfl rfl rfl ?_ ?_; rfl; rfl; clear hL hM; intro w c hL hM; simp only [Act.put, List.setIfInBounds_toArray, List.set_cons_succ, List.set_cons_zero]); (refine wpl_insert hL hM (fun _ h => absurd h List.not_mem_nil) ?_ rfl u_norms u_int rfl rfl rfl ?_ ?_; rfl; rfl; clear hL hM; intro w c hL hM; simp only [Act.put, List.setIfInBounds_toArray, List.set_cons_succ, List.set_cons_zero]); (refine wpl_insert hL hM (fun _ h => absurd h List.not_mem_nil) ?_ rfl u_norms u_int rfl rfl rfl ?_ ?_; rfl; rfl; clear hL hM; intro w c hL hM; simp only [Act.put, List.setIfInBounds_toArray, List.set_cons_succ, List.set_cons_zero])) | (refine wpl_run rfl (run_lookup_int hM rfl u_norms u_int rfl rfl rfl) ?_; simp only [Act.put, List.setIfInBounds_toArray, List.set_cons_succ, List.set_cons_zero]) | (go_at_call 68; refine (fold_any _ _ _ fn_norm2 l 0 _ (hR.sees hL) hl).mono ?_; rintro e w ⟨rfl, rfl⟩))
    go_ret
    exact ⟨rfl, hL.below⟩
  · have hL := Sees.refl w0
    go_enter Tryd.func44, Tryd.ntmps44
    go_wp2_with (first | (refine wpl_makeMap hL rfl 85 rfl ?_; clear hL; intro b w hL hM; simp only [Act.put, List.setIfInBounds_toArray, List.set_cons_succ, List.set_cons_zero]; (refine wpl_insert hL hM (fun _ h => absurd h List.not_mem_nil) ?_ rfl u_norms u_int rfl rfl rfl ?_ ?_; rfl; rfl; clear hL hM; intro w c hL hM; simp only [Act.put, List.setIfInBounds_toArray, List.set_cons_succ, List.set_cons_zero]); (refine wpl_insert hL hM (fun _ h => absurd h List.not_mem_nil) ?_ rfl u_norms u_int rfl rfl rfl ?_ ?_; rfl; rfl; clear hL hM; intro w c hL hM; simp only [Act.put, List.setIfInBounds_toArray, List.set_cons_succ, List.set_cons_zero]); (refine wpl_insert hL hM (fun _ h => absurd h List.not_mem_nil) ?_ rfl u_norms u_int rfl rfl rfl ?_ ?_; rfl; rfl; clear hL hM; intro w c hL hM; simp only [Act.put, List.setIfInBounds_toArray, List.set_cons_succ, List.set_cons_zero])) | (refine wpl_run rfl (run_lookup_int hM rfl u_norms u_int rfl rfl rfl) ?_; simp only [Act.put, List.setIfInBounds_toArray, List.set_cons_succ, List.set_cons_zero]) | (go_at_call 68; refine (fold_any _ _ _ fn_norm3 l 0 _ (hR.sees hL) hl).mono ?_; rintro e w ⟨rfl, rfl⟩))
    go_ret
    exact ⟨rfl, hL.below⟩
theorem u_ints : Tryd.prog.underlying 24 = some (.slice 3) := by kernel_rfl
theorem s_int : (Tryd.prog.info? 3).map (·.size) = some 1 := by kernel_rfl
theorem z_int : zeroOf Tryd.prog 3 = some [.int .i64 0] := by kernel_rfl
theorem i_int : (Tryd.prog.info? 3).map (fun i => (i.zero.map fun z => z.cells.toList, i.size, i.bytes)) = some (some [.int .i64 0], 1, 8) := by kernel_rfl
/-- an own row that is not filled yet -/
theorem isSl_lit {b : Nat} {e : TypeId} {size n : Nat} {vs : List Value} (h : vs.length = n * size) (hn : n ≤ maxLen) : IsSl (.slice (some ⟨b, 0, none⟩) n n) e size n vs [⟨b, e, vs⟩] :=
  .row b n [] rfl h (by simpa using h) (Nat.le_refl _) hn (by simp)
set_option maxHeartbeats 1000000 in
theorem clone_any (v : Value) (l : List Int) (w0 : World) (hR : Rd w0 v l.length 1 (numV l)) (hl : l.length * 8 ≤ 140737488355328) :
    Calls Tryd.prog 73 #[v] w0 fun e w' => ∃ u Lv, e = .returned u ∧ Sees w0 w' Lv ∧ IsSl u 3 1 l.length (numV l) Lv := by
  obtain ⟨⟨a, cap, rfl, hcells⟩, -⟩ := hR
  have hL := Sees.refl w0
  cases a with
  | none =>
    have h0 : numV l = [] := by
      rcases Classical.em (numV l = []) with h | h
      · exact h
      · obtain ⟨ad, h, _⟩ := hcells h; cases h
    obtain rfl : l = [] := by simpa [numV] using h0
    have he := fun (w : World) => Lib.run_eql_slice_nil (P := Tryd.prog) w 24 3 none 0 cap 0 0 u_ints
    simp only [Option.isNone_none] at he
    show Calls Tryd.prog 73 #[.slice none 0 cap] w0 _
    go_enter Tryd.func73, Tryd.ntmps73
    go_wp2
    go_ret
    exact ⟨_, [], rfl, hL, .nil rfl rfl rfl rfl⟩
  | some ad =>
    have hc : ∀ j u, (numV l)[j]? = some u → w0.cell? (ad.add j) = some u := by
      intro j u hu
      obtain ⟨ad', h, hc⟩ := hcells (by intro h; rw [h] at hu; simp at hu)
      cases h
      exact hc j u hu
    have b1 : 0 + l.length ≤ maxLen := by unfold maxLen; omega
    have he := fun (w : World) => Lib.run_eql_slice_nil (P := Tryd.prog) w 24 3 (some ad) l.length cap 0 0 u_ints
    simp only [Option.isNone_some] at he
    go_enter Tryd.func73, Tryd.ntmps73
    go_wp2_with (first | (refine wpl_slice hL rfl _ _ _ rfl _ 1 u_ints s_int [.int .i64 0] z_int (by decide) [] (.nil _) rfl ?_; clear hL; intro b w hL; simp only [Act.put, List.setIfInBounds_toArray, List.set_cons_succ, List.set_cons_zero]) | (refine wpl_append (P0 := []) (S := []) hL rfl (isSl_lit (b := b) (e := 3) (size := 1) (n := 0) (vs := []) rfl (Nat.zero_le _)) _ _ _ rfl rfl [.int .i64 0] 8 u_ints i_int rfl ad l.length cap (numV l) rfl (by rw [numV_len, Nat.mul_one]) (fun j u hu => hL.old (hc j u hu)) (numV_one l) b1 (by omega) ?_; clear hL; intro v w Lv hL hV; simp only [Act.put, List.setIfInBounds_toArray, List.set_cons_succ, List.set_cons_zero]))
    go_ret
    refine ⟨v, Lv, rfl, by simpa using hL, ?_⟩
    simpa using hV
theorem en_clone : enterable Tryd.prog 73 = true := by kernel_rfl

/-- the product of two lists -/
def dotV (a b : List Int) : Int := (a.zip b).foldl (fun n p => wrap64 (n + wrap64 (p.1 * p.2))) 0
theorem dotV_succ (a b : List Int) (k : Nat) (ha : k < a.length) (hb : k < b.length) : dotV (a.take (k + 1)) b = wrap64 (dotV (a.take k) b + wrap64 (a[k] * b[k])) := by
  unfold dotV
  have e : (a.take (k + 1)).zip b = (a.take k).zip b ++ [(a[k], b[k])] := by
    rw [List.take_succ_eq_append_getElem ha]
    have hlen : (a.take k).length = (b.take k).length := by simp; omega
    have h2 : (a.take k).zip b = (a.take k).zip (b.take k) := by
      have := List.zip_append (l₁ := a.take k) (r₁ := []) (l₂ := b.take k) (r₂ := b.drop k) hlen
      rw [List.append_nil, List.take_append_drop] at this
      simpa using this
    have h3 := List.zip_append (l₁ := a.take k) (r₁ := [a[k]]) (l₂ := b.take k) (r₂ := b.drop k) hlen
    rw [List.take_append_drop] at h3
    rw [h3, h2, List.drop_eq_getElem_cons hb]
    rfl
  rw [e, List.foldl_append]
  rfl
set_option maxHeartbeats 1000000 in
theorem dot_any (v1 v2 : Value) (a b : List Int) (w0 : World) (h1 : Rd w0 v1 a.length 1 (numV a)) (h2 : Rd w0 v2 b.length 1 (numV b)) (ha : a.length ≤ 9223372036854775807) (hab : a.length ≤ b.length) (hb : b.length ≤ 9223372036854775807) :
    Calls Tryd.prog 51 #[v1, v2] w0 fun e w' => e = .returned (.int .i64 (dotV a b)) ∧ w' = w0 := by
  obtain ⟨⟨a1, c1, rfl, hc1⟩, -⟩ := h1
  obtain ⟨⟨a2, c2, rfl, hc2⟩, -⟩ := h2
  go_enter Tryd.func51, Tryd.ntmps51
  go_wp2
  go_loop [5, 10] (fun n i => ∃ k : Nat, k ≤ a.length ∧ i = .int .i64 k ∧ n = .int .i64 (dotV (a.take k) b)) (fun _ i => a.length - (intOf i).toNat)
  case atStart => exact ⟨0, Nat.zero_le _, rfl, rfl⟩
  case round =>
    obtain ⟨k, hk, rfl, rfl⟩ := hrel
    generalize hn : dotV (a.take k) b = n
    have HN := Lib.hid hn
    clear hn
    by_cases hlt : k < a.length
    · have hltb : k < b.length := by omega
      obtain ⟨ad, rfl, hcc⟩ := hc1 (by intro h; have := congrArg List.length h; rw [numV_len] at this; rw [this] at hlt; simp at hlt)
      obtain ⟨bd, rfl, hbb⟩ := hc2 (by intro h; have := congrArg List.length h; rw [numV_len] at this; rw [this] at hltb; simp at hltb)
      have g1 := hcc k _ (numV_at a k hlt)
      have g2 := hbb k _ (numV_at b k hltb)
      generalize hx : a[k] = x at g1
      generalize hy : b[k] = y at g2
      have HX := Lib.hid hx
      have HY := Lib.hid hy
      clear hx hy hcc hbb hc1 hc2
      go_wp2
      go_round
      case rel => exact ⟨k + 1, by omega, by go_num, by rw [dotV_succ a b k hlt hltb, HN.out, HX.out, HY.out]⟩
      case measure => simp [intOf]; omega
    · obtain rfl : k = a.length := by omega
      go_wp2
      go_ret
      exact ⟨by rw [← HN.out, List.take_length]; rfl, rfl⟩
theorem en_dot : enterable Tryd.prog 51 = true := by kernel_rfl

theorem i64w (n : Int) : IntKind.i64.wrap n = wrap64 n := by unfold wrap64; exact IntKind.wrap_i64 n
/-- the difference of two lists -/
def subV (a b : List Int) : List Int := List.zipWith (fun x y => wrap64 (x - y)) a b
theorem subV_len (a b : List Int) (h : a.length ≤ b.length) : (subV a b).length = a.length := by unfold subV; rw [List.length_zipWith]; omega
theorem numV_set (l : List Int) (k : Nat) (n : Int) : (numV l).set k (.int .i64 n) = numV (l.set k n) := by unfold numV; rw [List.map_set]
/-- the first k elements are of the one list, the others of the other one -/
def mixed_ {α : Type} (x y : List α) (k : Nat) : List α := x.take k ++ y.drop k
theorem mixed_set {α : Type} (x y : List α) (k : Nat) (hx : k < x.length) (hy : k < y.length) : (mixed_ x y k).set k x[k] = mixed_ x y (k + 1) := by
  unfold mixed_
  have hk : (x.take k).length = k := by simp; omega
  rw [List.drop_eq_getElem_cons hy, List.take_succ_eq_append_getElem hx, List.set_append_right _ _ (by omega), hk, Nat.sub_self, List.set_cons_zero, List.append_assoc]
  rfl
theorem mixed_len {α : Type} (x y : List α) (k : Nat) (hxy : x.length = y.length) : (mixed_ x y k).length = y.length := by unfold mixed_; simp; omega
theorem mixed_at {α : Type} (x y : List α) (k : Nat) (hxy : x.length = y.length) (hy : k < y.length) : (mixed_ x y k)[k]? = some y[k] := by
  unfold mixed_
  rw [List.getElem?_append_right (by simp; omega), List.drop_eq_getElem_cons hy]
  simp [Nat.min_eq_left (show k ≤ x.length by omega)]
theorem mixed_all {α : Type} (x y : List α) (hxy : x.length = y.length) : mixed_ x y y.length = x := by unfold mixed_; rw [← hxy, List.take_length, hxy, List.drop_length, List.append_nil]
set_option maxHeartbeats 2000000 in
theorem sub_any (v1 v2 : Value) (a b : List Int) (w0 : World) (h1 : Rd w0 v1 a.length 1 (numV a)) (h2 : Rd w0 v2 b.length 1 (numV b)) (ha : a.length * 8 ≤ 140737488355328) (hab : a.length ≤ b.length) (hb : b.length ≤ 9223372036854775807) :
    Calls Tryd.prog 56 #[v1, v2] w0 fun e w' => ∃ u Lv, e = .returned u ∧ Sees w0 w' Lv ∧ IsSl u 3 1 a.length (numV (subV a b)) Lv := by
  have hL := Sees.refl w0
  obtain ⟨⟨a2, c2, rfl, hc2⟩, -⟩ := h2
  have hsl := subV_len a b hab
  go_enter Tryd.func56, Tryd.ntmps56
  go_wp2_with (go_at_call 73; refine (clone_any _ a _ (h1.sees hL) ha).mono ?_; rintro e w ⟨u, Lv, rfl, hM, hV⟩; replace hL := hL.join hM; clear hM; obtain ⟨au, cu, rfl⟩ := hV.shape)
  obtain ⟨we, rfl⟩ : ∃ we, we = w := ⟨_, rfl⟩
  rw [List.append_nil] at hL
  go_loopw [11] (fun i wr => ∃ (k : Nat) (Lv : List Blk), k ≤ a.length ∧ i = .int .i64 k ∧ Sees w0 wr Lv ∧ IsSl (.slice au a.length cu) 3 1 a.length (numV (mixed_ (subV a b) a k)) Lv) (fun i _ => a.length - (intOf i).toNat)
  case atStart => exact ⟨0, Lv, Nat.zero_le _, rfl, hL, hV⟩
  case round =>
    clear hL hV
    obtain ⟨k, Lv, hk, rfl, hL, hV⟩ := hrel
    by_cases hlt : k < a.length
    · have hltb : k < b.length := by omega
      obtain ⟨bd, rfl, hbb⟩ := hc2 (by intro h; have := congrArg List.length h; rw [numV_len] at this; rw [this] at hltb; simp at hltb)
      obtain ⟨bb, rest, rfl, rfl, hnew⟩ := hV.open_ (by omega)
      have g2 := hbb k _ (numV_at b k hltb)
      have g1 : (numV (mixed_ (subV a b) a k) ++ rest)[k]? = some (.int .i64 a[k]) := by
        rw [List.getElem?_append_left (by rw [numV_len, mixed_len _ _ _ hsl]; exact hlt)]
        unfold numV
        rw [List.getElem?_map, mixed_at _ _ _ hsl hlt]
        rfl
      have g3 : (numV (mixed_ (subV a b) a k) ++ rest).set k (.int .i64 (wrap64 (a[k] - b[k]))) = numV (mixed_ (subV a b) a (k + 1)) ++ rest := by
        rw [List.set_append_left _ _ (by rw [numV_len, mixed_len _ _ _ hsl]; exact hlt), numV_set]
        have := mixed_set (subV a b) a k (by omega) hlt
        rw [← this]
        congr 3
        unfold subV
        rw [List.getElem_zipWith]
      have g4 : k < (numV (mixed_ (subV a b) a k) ++ rest).length := (List.getElem?_eq_some_iff.1 g1).1
      have g5 : (numV (mixed_ (subV a b) a (k + 1))).length = (numV (mixed_ (subV a b) a k)).length := by rw [numV_len, numV_len, mixed_len _ _ _ hsl, mixed_len _ _ _ hsl]
      rw [← i64w] at g3
      generalize hx : a[k] = x at g1 g3
      generalize hy : b[k] = y at g2 g3
      have G3 := Lib.hid g3
      have G5 := Lib.hid g5
      clear hx hy hbb hc2 hV g3 g5
      generalize numV (mixed_ (subV a b) a k) ++ rest = cs at hL g1 g4 G3
      go_wp2
      refine wp_region_lex [(.val, _), (.val, _), (.val, _), (.calm, _), (.val, _), (.val, _), (.val, _), (.calm, _), (.val, _), (.val, _), (.eff, _)] rfl mixed (by kernel_rfl) ?_
      replace hL := hL.drew
      repeat (first | (refine wpLex_calm rfl _ (run_load_plain rfl p_int rfl (hL.at (by first | exact .head _ | exact .tail _ (.head _) | exact .tail _ (.tail _ (.head _)) | exact .tail _ (.tail _ (.tail _ (.head _))) | exact .tail _ (.tail _ (.tail _ (.tail _ (.head _)))) | exact .tail _ (.tail _ (.tail _ (.tail _ (.tail _ (.head _))))) | exact List.mem_append_right _ (.head _) | exact List.mem_append_right _ (.tail _ (.head _)) | exact List.mem_append_right _ (.tail _ (.tail _ (.head _))) | exact List.mem_append_right _ (.tail _ (.tail _ (.tail _ (.head _)))) | exact .tail _ (List.mem_append_right _ (.head _)) | exact .tail _ (List.mem_append_right _ (.tail _ (.head _))) | exact .tail _ (List.mem_append_right _ (.tail _ (.tail _ (.head _)))) | exact .tail _ (List.mem_append_right _ (.tail _ (.tail _ (.tail _ (.head _))))) | exact .tail _ (.tail _ (List.mem_append_right _ (.head _))) | exact .tail _ (.tail _ (List.mem_append_right _ (.tail _ (.head _)))) | exact .tail _ (.tail _ (List.mem_append_right _ (.tail _ (.tail _ (.head _))))) | exact .tail _ (.tail _ (List.mem_append_right _ (.tail _ (.tail _ (.tail _ (.head _))))))) g1)) ?_; simp only [Act.put, List.setIfInBounds_toArray, List.set_cons_succ, List.set_cons_zero]) | (refine wpLex_calm rfl _ (run_load_plain rfl p_int rfl (hL.old g2)) ?_; simp only [Act.put, List.setIfInBounds_toArray, List.set_cons_succ, List.set_cons_zero]) | (refine x_set1 hL rfl _ _ _ rfl _ _ rfl _ rfl s_int rfl rfl _ _ _ _ (by first | exact .here | exact .there .here | exact .there (.there .here) | exact .there (.there (.there .here)) | exact .there (.there (.there (.there .here))) | exact .pre (.here) | exact .pre (.there .here) | exact .pre (.there (.there .here))) g4 G3.out ?_; clear hL; intro w hL; simp only [Act.put, List.setIfInBounds_toArray, List.set_cons_succ, List.set_cons_zero]) | (refine wpLex_val rfl _ (fun w2 => by (go_simp; try rfl)) ?_; simp only [Act.put, List.setIfInBounds_toArray, List.set_cons_succ, List.set_cons_zero]))
      refine wpLex_nil ?_
      go_wp2
      refine ⟨⟨k + 1, _, by omega, rfl, hL, hnew _ G5.out⟩, by simp [intOf]; omega⟩
    · obtain rfl : k = a.length := by omega
      rw [mixed_all _ _ hsl] at hV
      go_wp2
      go_ret
      exact ⟨_, _, rfl, hL, hV⟩
theorem en_sub : enterable Tryd.prog 56 = true := by kernel_rfl
/-- the key of two vectors -/
def keyV (m : Int) (a b : List Int) : Int := normV m (subV a b)
set_option maxHeartbeats 1000000 in
theorem key_any (m : Int) (hm : m = 1 ∨ m = 2 ∨ m = 3) (v1 v2 : Value) (a b : List Int) (w0 : World) (h1 : Rd w0 v1 a.length 1 (numV a)) (h2 : Rd w0 v2 b.length 1 (numV b)) (ha : a.length * 8 ≤ 140737488355328) (hab : a.length ≤ b.length) (hb : b.length ≤ 9223372036854775807) :
    Calls Tryd.prog 35 #[.int .i64 m, v1, v2] w0 fun e w' => e = .returned (.int .i64 (keyV m a b)) ∧ Below w0.heap.size w0 w' := by
  have hL := Sees.refl w0
  have hsl := subV_len a b hab
  have hn : ∀ u w, Rd w u a.length 1 (numV (subV a b)) → Calls Tryd.prog 44 #[.int .i64 m, u] w fun e w' => e = .returned (.int .i64 (keyV m a b)) ∧ Below w.heap.size w w' := fun u w h => by
    have := norm_any m hm u (subV a b) w (by rw [hsl]; exact h) (by omega)
    exact this
  clear hsl
  go_enter Tryd.func35, Tryd.ntmps35
  go_wp2_with (first | (go_at_call 56; refine (sub_any _ _ a b _ (h1.sees hL) (h2.sees hL) ha hab hb).mono ?_; rintro e w ⟨u, Lv, rfl, hM, hV⟩; have hRu := hV.rd hM (fun _ h => h); replace hL := hL.call hM.below; clear hM hV) | (go_at_call 44; refine (hn _ _ hRu).mono ?_; rintro e w ⟨rfl, hb⟩; replace hL := hL.call hb; clear hb))
  go_ret
  exact ⟨rfl, hL.below⟩
end Go.Proofs.YticponffemffnaaDoor
end
section
/- The functions over lines: Apply and Bound. -/
set_option linter.unusedVariables false
set_option linter.unusedSimpArgs false
namespace Go.Proofs.YticponffemffnaaDoor
open Go Go.RowKit Go.Lx Go.Proofs.YticponffemffnaaDoorW.PrintWords Go.Proofs.YticponffemffnaaDoorW.PrintMore Go.Proofs.YticponffemffnaaDoor.P
attribute [local go_sem] mx2 mn2 max_two min_two max_three
attribute [local irreducible] Calls
theorem i_int3 : (Tryd.prog.info? 3).map (fun i => (i.zero, i.size, i.bytes)) = some (some (.int .i64 0), 1, 8) := by kernel_rfl
theorem p_ints : plainVar Tryd.prog 24 = true := by kernel_rfl
/-- the projections of a vector -/
def applyV (lines : List (List Int)) (v : List Int) : List Int := lines.map fun l => dotV l v
theorem numV_rep (n : Nat) : List.replicate n (Value.int .i64 0) = numV (List.replicate n 0) := by unfold numV; rw [List.map_replicate]
set_option maxHeartbeats 2000000 in
theorem apply_any (v1 v2 : Value) (lines : List (List Int)) (q : List Int) (w0 : World) (h1 : RdM w0 v1 lines) (h2 : Rd w0 v2 q.length 1 (numV q)) (hl : lines.length * 8 ≤ 281474976710656) (hq : q.length ≤ 9223372036854775807) (hlq : ∀ l ∈ lines, l.length ≤ q.length) :
    Calls Tryd.prog 24 #[v1, v2] w0 fun e w' => ∃ u Lv, e = .returned u ∧ Sees w0 w' Lv ∧ IsSl u 3 1 lines.length (numV (applyV lines q)) Lv := by
  have hL := Sees.refl w0
  obtain ⟨a1, c1, rfl, hl1, hc1⟩ := h1.shape
  have hsl : (applyV lines q).length = (List.replicate lines.length (0 : Int)).length := by simp [applyV]
  go_enter Tryd.func24, Tryd.ntmps24
  go_wp2_with (refine wpl_make hL rfl rfl u_ints i_int3 rfl rfl rfl (by omega) hl1 ?_; clear hL; intro b w hL; simp only [Act.put, List.setIfInBounds_toArray, List.set_cons_succ, List.set_cons_zero])
  obtain ⟨bb, rfl⟩ : ∃ bb, bb = b := ⟨_, rfl⟩
  rw [numV_rep] at hL
  go_loopw [13] (fun i wr => ∃ k : Nat, k ≤ lines.length ∧ i = .int .i64 k ∧ Sees w0 wr [⟨bb, 3, numV (mixed_ (applyV lines q) (List.replicate lines.length 0) k)⟩]) (fun i _ => lines.length - (intOf i).toNat)
  case atStart => exact ⟨0, Nat.zero_le _, rfl, by rw [show mixed_ (applyV lines q) (List.replicate lines.length 0) 0 = List.replicate lines.length 0 from rfl]; exact hL⟩
  case round =>
    clear hL
    obtain ⟨k, hk, rfl, hL⟩ := hrel
    by_cases hlt : k < lines.length
    · obtain ⟨ad, A, c, rfl, hg1, hg2, hg3⟩ := hc1 k _ (List.getElem?_eq_getElem hlt)
      have hlk := hlq _ (List.getElem_mem hlt)
      have g3 : (numV (mixed_ (applyV lines q) (List.replicate lines.length 0) k)).set k (.int .i64 (dotV lines[k] q)) = numV (mixed_ (applyV lines q) (List.replicate lines.length 0) (k + 1)) := by
        rw [numV_set]
        have := mixed_set (applyV lines q) (List.replicate lines.length 0) k (by rw [hsl]; simp; exact hlt) (by simp; exact hlt)
        rw [← this]
        congr 2
        unfold applyV
        rw [List.getElem_map]
      have g4 : k < (numV (mixed_ (applyV lines q) (List.replicate lines.length 0) k)).length := by rw [numV_len, mixed_len _ _ _ hsl]; simp; exact hlt
      have hdot : ∀ w, Sees w0 w [⟨bb, 3, numV (mixed_ (applyV lines q) (List.replicate lines.length 0) k)⟩] → Calls Tryd.prog 51 #[.slice A lines[k].length c, v2] w fun e w' => e = .returned (.int .i64 (dotV lines[k] q)) ∧ w' = w := fun w hL =>
        dot_any _ _ lines[k] q w (hg3.sees hL) (h2.sees hL) hg2 hlk hq
      generalize lines[k] = x at hg1 hg2 hg3 g3 hlk hdot
      generalize hcs : numV (mixed_ (applyV lines q) (List.replicate lines.length 0) k) = cs at hL g3 g4 hdot
      have G3 := Lib.hid g3
      clear g3 hcs hc1 h1
      go_wp2_with (first | (refine wpl_run rfl (run_load_plain rfl p_ints rfl (hL.old hg1)) ?_; simp only [Act.put, List.setIfInBounds_toArray, List.set_cons_succ, List.set_cons_zero]) | (go_at_call 51; refine (hdot _ hL).mono ?_; rintro e w ⟨rfl, rfl⟩) | (refine wpl_set1 hL rfl _ _ _ rfl _ _ rfl _ rfl s_int rfl rfl _ _ _ _ (by first | exact .here | exact .there .here | exact .there (.there .here) | exact .there (.there (.there .here)) | exact .there (.there (.there (.there .here))) | exact .pre (.here) | exact .pre (.there .here) | exact .pre (.there (.there .here))) g4 G3.out ?_; clear hL; intro w hL; simp only [Act.put, List.setIfInBounds_toArray, List.set_cons_succ, List.set_cons_zero]))
      refine ⟨⟨k + 1, by omega, rfl, hL⟩, by simp [intOf]; omega⟩
    · obtain rfl : k = lines.length := by omega
      have e : mixed_ (applyV lines q) (List.replicate lines.length 0) lines.length = applyV lines q := by
        have := mixed_all (applyV lines q) (List.replicate lines.length 0) hsl
        simpa using this
      rw [e] at hL
      go_wp2
      go_ret
      refine ⟨_, _, rfl, hL, isSl_lit (by rw [numV_len, hsl]; simp) (by unfold maxLen; omega)⟩
theorem en_apply : enterable Tryd.prog 24 = true := by kernel_rfl
/-- a quotient, rounded up -/
def upV (n b : Int) : Int := (n + b - 1) / b
theorem up_any (n b : Int) (w0 : World) (h0 : 0 ≤ n) (h1 : 0 < b) (h2 : n + b ≤ 4611686018427387904) : Calls Tryd.prog 70 #[.int .i64 n, .int .i64 b] w0 fun e w' => e = .returned (.int .i64 (upV n b)) ∧ w' = w0 := by
  have h3 : n ≤ 4611686018427387904 := by omega
  have h4 : b ≤ 4611686018427387904 := by omega
  have h5 : 0 ≤ n + b - 1 := by omega
  go_enter Tryd.func70, Tryd.ntmps70
  go_wp2
  go_ret
  exact ⟨rfl, rfl⟩
/-- what of a gap is divided, and by what -/
def gN (m g : Int) : Int := if m = 2 then wrap64 (g * g) else g
def nrm (m : Int) (l : List Int) : Int := if m = 2 then normV 2 l else if m = 3 then normV 1 l else normV 3 l
def gapV (m g : Int) (l : List Int) : Int := upV (gN m g) (nrm m l)
def okG (m g : Int) (l : List Int) : Bool := decide (0 ≤ gN m g ∧ 0 < nrm m l ∧ (gN m g + nrm m l) / 4611686018427387904 < 1)
theorem okG_iff {m g : Int} {l : List Int} (h : okG m g l = true) : 0 ≤ gN m g ∧ 0 < nrm m l ∧ gN m g + nrm m l ≤ 4611686018427387904 := by
  have := of_decide_eq_true h
  omega
/-- a bound's function value -/
def FnG (fv : Value) (m : Int) : Prop := ∀ (g : Int) (l : List Int) (v : Value) (w : World), Rd w v l.length 1 (numV l) → l.length ≤ 9223372036854775807 → okG m g l = true →
  CallsV Tryd.prog fv #[.int .i64 g, v] w fun e w' => e = .returned (.int .i64 (gapV m g l)) ∧ Below w.heap.size w w'
set_option maxHeartbeats 1000000 in
theorem fnG_euclid (m : Int) (hm : m = 2) : FnG (.func (.func 53) #[] #[]) m := by
  intro g l v w0 hR hl hok
  obtain ⟨h0, h1, h2⟩ := okG_iff hok
  refine .of0 (by kernel_rfl) ?_
  have e1 : gN m g = wrap64 (g * g) := by unfold gN; rw [if_pos hm]
  have e2 : nrm m l = normV 2 l := by unfold nrm; rw [if_pos hm]
  unfold gapV
  rw [e1] at h0 h2 ⊢
  rw [e2] at h1 h2 ⊢
  have hn := fun w (hL : Sees w0 w []) => norm_any 2 (by decide) v l w (hR.sees hL) hl
  generalize normV 2 l = N at h1 h2 hn ⊢
  clear hm e1 e2 hok hR
  have hL := Sees.refl w0
  go_enter Tryd.func53, Tryd.ntmps53
  go_wp2_with (first | (go_at_call 44; refine (hn _ hL).mono ?_; rintro e w ⟨rfl, hb⟩; replace hL := hL.call hb; clear hb) | (go_at_call 70; refine (up_any _ _ _ h0 h1 h2).mono ?_; rintro e w ⟨rfl, rfl⟩))
  go_ret
  exact ⟨rfl, hL.below⟩
set_option maxHeartbeats 1000000 in
theorem fnG_most (m : Int) (hm : m = 3) : FnG (.func (.func 54) #[] #[]) m := by
  intro g l v w0 hR hl hok
  obtain ⟨h0, h1, h2⟩ := okG_iff hok
  refine .of0 (by kernel_rfl) ?_
  have e1 : gN m g = g := by unfold gN; rw [if_neg (by omega)]
  have e2 : nrm m l = normV 1 l := by unfold nrm; rw [if_neg (by omega), if_pos hm]
  unfold gapV
  rw [e1] at h0 h2 ⊢
  rw [e2] at h1 h2 ⊢
  have hn := fun w (hL : Sees w0 w []) => norm_any 1 (by decide) v l w (hR.sees hL) hl
  generalize normV 1 l = N at h1 h2 hn ⊢
  clear hm e1 e2 hok hR
  have hL := Sees.refl w0
  go_enter Tryd.func54, Tryd.ntmps54
  go_wp2_with (first | (go_at_call 44; refine (hn _ hL).mono ?_; rintro e w ⟨rfl, hb⟩; replace hL := hL.call hb; clear hb) | (go_at_call 70; refine (up_any _ _ _ h0 h1 h2).mono ?_; rintro e w ⟨rfl, rfl⟩))
  go_ret
  exact ⟨rfl, hL.below⟩
set_option maxHeartbeats 1000000 in
theorem fnG_sum (m : Int) (hm : m ≠ 2 ∧ m ≠ 3) : FnG (.func (.func 52) #[] #[]) m := by
  intro g l v w0 hR hl hok
  obtain ⟨h0, h1, h2⟩ := okG_iff hok
  refine .of0 (by kernel_rfl) ?_
  have e1 : gN m g = g := by unfold gN; rw [if_neg (by omega)]
  have e2 : nrm m l = normV 3 l := by unfold nrm; rw [if_neg hm.1, if_neg hm.2]
  unfold gapV
  rw [e1] at h0 h2 ⊢
  rw [e2] at h1 h2 ⊢
  have hn := fun w (hL : Sees w0 w []) => norm_any 3 (by decide) v l w (hR.sees hL) hl
  generalize normV 3 l = N at h1 h2 hn ⊢
  clear hm e1 e2 hok hR
  have hL := Sees.refl w0
  go_enter Tryd.func52, Tryd.ntmps52
  go_wp2_with (first | (go_at_call 44; refine (hn _ hL).mono ?_; rintro e w ⟨rfl, hb⟩; replace hL := hL.call hb; clear hb) | (go_at_call 70; refine (up_any _ _ _ h0 h1 h2).mono ?_; rintro e w ⟨rfl, rfl⟩))
  go_ret
  exact ⟨rfl, hL.below⟩
/-- the gap of a projection and a range -/
def gapOf (l q : List Int) (r : S45) : Int := mx (mx 0 (wrap64 (r.f0 - dotV l q))) (wrap64 (dotV l q - r.f1))
def oneV (m : Int) (q l : List Int) (r : S45) : Int := gapV m (gapOf l q r) l
def boundV (m : Int) (lines : List (List Int)) (r : List S45) (q : List Int) : Int := (lines.zip r).foldl (fun out p => mx out (oneV m q p.1 p.2)) 0
theorem boundV_succ (m : Int) (lines : List (List Int)) (r : List S45) (q : List Int) (k : Nat) (hl : k < lines.length) (hr : k < r.length) :
    boundV m (lines.take (k + 1)) r q = mx (boundV m (lines.take k) r q) (oneV m q lines[k] r[k]) := by
  unfold boundV
  have e : (lines.take (k + 1)).zip r = (lines.take k).zip r ++ [(lines[k], r[k])] := by
    rw [List.take_succ_eq_append_getElem hl]
    have hlen : (lines.take k).length = (r.take k).length := by simp; omega
    have h2 : (lines.take k).zip r = (lines.take k).zip (r.take k) := by
      have := List.zip_append (l₁ := lines.take k) (r₁ := []) (l₂ := r.take k) (r₂ := r.drop k) hlen
      rw [List.append_nil, List.take_append_drop] at this
      simpa using this
    have h3 := List.zip_append (l₁ := lines.take k) (r₁ := [lines[k]]) (l₂ := r.take k) (r₂ := r.drop k) hlen
    rw [List.take_append_drop] at h3
    rw [h3, h2, List.drop_eq_getElem_cons hr]
    rfl
  rw [e, List.foldl_append]
  rfl
theorem u_rngs : Tryd.prog.underlying 29 = some (.slice 45) := by kernel_rfl
theorem rd_T45_at (r : List S45) (k : Nat) (h : k < r.length) : rd_T45 r (k : Int) = r[k] := by
  unfold rd_T45; rw [Int.toNat_natCast, List.getD_eq_getElem?_getD, List.getElem?_eq_getElem h]; rfl
set_option maxHeartbeats 4000000 in
theorem bound2_any (m : Int) (hm : m = 2) (A1 A2 A3 : Option Addr) (c1 c2 c3 : Nat) (lines : List (List Int)) (r : List S45) (q : List Int) (w0 : World) (h1 : RdM w0 (.slice A1 lines.length c1) lines) (h2 : Kd.C k45 w0 A2 r.length r) (h3 : Rd w0 (.slice A3 q.length c3) q.length 1 (numV q))
    (hl : lines.length * 8 ≤ 281474976710656) (hr : lines.length ≤ r.length) (hq : q.length ≤ 9223372036854775807) (hlq : ∀ l ∈ lines, l.length ≤ q.length)
    (hok : ∀ (k : Nat) (hk : k < lines.length), okG m (gapOf lines[k] q (r[k]'(by omega))) lines[k] = true) :
    Calls Tryd.prog 32 #[.int .i64 m, .slice A1 lines.length c1, .slice A2 r.length c2, .slice A3 q.length c3] w0 fun e w' => e = .returned (.int .i64 (boundV m lines r q)) ∧ Below w0.heap.size w0 w' := by
  have hF := fnG_euclid m hm
  have t1 : (m == 2) = true := beq_iff_eq.2 hm
  clear hm
  have hL := Sees.refl w0
  have hap := fun w (hL : Sees w0 w []) => apply_any _ _ lines q w (h1.sees hL) (h3.sees hL) hl hq hlq
  go_enter Tryd.func32, Tryd.ntmps32
  go_wp2_with (go_at_call 24; refine (hap _ hL).mono ?_; rintro e w ⟨u, Lv, rfl, hM, hV⟩; have hRu := hV.rd hM (fun _ h => h); replace hL := hL.call hM.below; clear hM hV; obtain ⟨⟨au, cu, rfl, hcu⟩, -⟩ := hRu)
  obtain ⟨we, rfl⟩ : ∃ we, we = w := ⟨_, rfl⟩
  have hLe := hL
  clear hL hap
  have hL := Sees.refl we
  go_loopw [10, 22] (fun o i wr => ∃ k : Nat, k ≤ lines.length ∧ i = .int .i64 k ∧ o = .int .i64 (boundV m (lines.take k) r q) ∧ Sees we wr []) (fun _ i _ => lines.length - (intOf i).toNat)
  case atStart => exact ⟨0, Nat.zero_le _, rfl, rfl, hL⟩
  case round =>
    clear hL
    obtain ⟨k, hk, rfl, rfl, hL⟩ := hrel
    generalize hn : boundV m (lines.take k) r q = n
    have HN := Lib.hid hn
    clear hn
    by_cases hlt : k < lines.length
    · have hltr : k < r.length := by omega
      obtain ⟨a1, c1, e1, hl1, hc1⟩ := h1.shape
      injection e1 with e1 _ e2
      subst e1 e2
      obtain ⟨ad, A, c, rfl, hg1, hg2, hg3⟩ := hc1 k _ (List.getElem?_eq_getElem hlt)
      obtain ⟨rd, rfl, hr1, hr2⟩ := at_T45 h2 (k : Int) (by omega) (by omega)
      rw [rd_T45_at r k hltr] at hr1 hr2
      have hlu : k < (applyV lines q).length := by simp [applyV]; exact hlt
      obtain ⟨ud, rfl, huu⟩ := hcu (by intro h; have := congrArg List.length h; rw [numV_len] at this; rw [this] at hlu; simp at hlu)
      have gu := huu k _ (numV_at _ k hlu)
      have gu2 : (applyV lines q)[k] = dotV lines[k] q := by simp [applyV]
      rw [gu2] at gu
      have hokk := hok k hlt
      have hone : oneV m q lines[k] r[k] = gapV m (gapOf lines[k] q r[k]) lines[k] := rfl
      have hgo : gapOf lines[k] q r[k] = mx (mx 0 (IntKind.i64.wrap (r[k].f0 - dotV lines[k] q))) (IntKind.i64.wrap (dotV lines[k] q - r[k].f1)) := by rw [i64w, i64w]; rfl
      rw [hgo] at hokk hone
      have HB := Lib.hid (boundV_succ m lines r q k hlt hltr)
      rw [hone, HN.out] at HB
      have hfn := fun w (hL : Sees w0 w []) => hF _ _ _ w (hg3.sees hL) hg2 hokk
      clear hone hgo hokk hok hF gu2 huu hcu hlu hc1
      generalize dotV lines[k] q = d at gu HB hfn
      generalize r[k] = y at hr1 hr2 HB hfn
      generalize lines[k] = x at hg1 hg2 hg3 HB hfn
      have gl := hLe.old hg1
      have g1 := hLe.old hr1
      have g2 := hLe.old hr2
      simp only [Int.toNat_natCast] at g1 g2
      clear hg1 hr1 hr2
      go_wp2_with ((refine wpl_run rfl (run_load_plain rfl p_int rfl (hL.old gu)) ?_; simp only [Act.put, List.setIfInBounds_toArray, List.set_cons_succ, List.set_cons_zero]))
      refine wp_region_lex [(.val, _), (.val, _), (.val, _), (.val, _), (.val, _), (.val, _), (.calm, _), (.val, _), (.val, _), (.val, _), (.val, _), (.val, _), (.val, _), (.val, _), (.calm, _), (.val, _), (.val, _), (.val, _), (.val, _), (.val, _), (.calm, _), (.eff, _), (.val, _), (.val, _)] rfl mixed (by kernel_rfl) ?_
      replace hL := hL.drew
      repeat (first | (refine wpLex_calm rfl _ (run_load_plain rfl p_int rfl (hL.old g1)) ?_; simp only [Act.put, List.setIfInBounds_toArray, List.set_cons_succ, List.set_cons_zero]) | (refine wpLex_calm rfl _ (run_load_plain rfl p_int rfl (hL.old g2)) ?_; simp only [Act.put, List.setIfInBounds_toArray, List.set_cons_succ, List.set_cons_zero]) | (refine wpLex_calm rfl _ (run_load_plain rfl p_ints rfl (hL.old gl)) ?_; simp only [Act.put, List.setIfInBounds_toArray, List.set_cons_succ, List.set_cons_zero]) | (refine x_callV rfl rfl rfl rfl (hfn _ (hLe.call hL.below)) ?_; rintro e w ⟨rfl, hb⟩; refine ⟨_, rfl, ?_⟩; replace hL := hL.call hb; clear hb; simp only [Act.put, List.setIfInBounds_toArray, List.set_cons_succ, List.set_cons_zero]) | (refine wpLex_val rfl _ (fun w2 => by (go_simp; try rfl)) ?_; simp only [Act.put, List.setIfInBounds_toArray, List.set_cons_succ, List.set_cons_zero]))
      refine wpLex_nil ?_
      go_wp2
      refine ⟨⟨k + 1, by omega, rfl, by rw [HB.out], hL⟩, by simp [intOf]; omega⟩
    · obtain rfl : k = lines.length := by omega
      have e : boundV m lines r q = n := by rw [← HN.out, List.take_length]
      have E := Lib.hid e
      clear e
      go_wp2
      go_ret
      exact ⟨by rw [E.out]; rfl, (hLe.call hL.below).below⟩
set_option maxHeartbeats 4000000 in
theorem bound3_any (m : Int) (hm : m = 3) (A1 A2 A3 : Option Addr) (c1 c2 c3 : Nat) (lines : List (List Int)) (r : List S45) (q : List Int) (w0 : World) (h1 : RdM w0 (.slice A1 lines.length c1) lines) (h2 : Kd.C k45 w0 A2 r.length r) (h3 : Rd w0 (.slice A3 q.length c3) q.length 1 (numV q))
    (hl : lines.length * 8 ≤ 281474976710656) (hr : lines.length ≤ r.length) (hq : q.length ≤ 9223372036854775807) (hlq : ∀ l ∈ lines, l.length ≤ q.length)
    (hok : ∀ (k : Nat) (hk : k < lines.length), okG m (gapOf lines[k] q (r[k]'(by omega))) lines[k] = true) :
    Calls Tryd.prog 32 #[.int .i64 m, .slice A1 lines.length c1, .slice A2 r.length c2, .slice A3 q.length c3] w0 fun e w' => e = .returned (.int .i64 (boundV m lines r q)) ∧ Below w0.heap.size w0 w' := by
  have hF := fnG_most m hm
  have t1 : (m == 2) = false := beq_eq_false_iff_ne.2 (by omega)
  have t2 : (m == 3) = true := beq_iff_eq.2 hm
  clear hm
  have hL := Sees.refl w0
  have hap := fun w (hL : Sees w0 w []) => apply_any _ _ lines q w (h1.sees hL) (h3.sees hL) hl hq hlq
  go_enter Tryd.func32, Tryd.ntmps32
  go_wp2_with (go_at_call 24; refine (hap _ hL).mono ?_; rintro e w ⟨u, Lv, rfl, hM, hV⟩; have hRu := hV.rd hM (fun _ h => h); replace hL := hL.call hM.below; clear hM hV; obtain ⟨⟨au, cu, rfl, hcu⟩, -⟩ := hRu)
  obtain ⟨we, rfl⟩ : ∃ we, we = w := ⟨_, rfl⟩
  have hLe := hL
  clear hL hap
  have hL := Sees.refl we
  go_loopw [10, 22] (fun o i wr => ∃ k : Nat, k ≤ lines.length ∧ i = .int .i64 k ∧ o = .int .i64 (boundV m (lines.take k) r q) ∧ Sees we wr []) (fun _ i _ => lines.length - (intOf i).toNat)
  case atStart => exact ⟨0, Nat.zero_le _, rfl, rfl, hL⟩
  case round =>
    clear hL
    obtain ⟨k, hk, rfl, rfl, hL⟩ := hrel
    generalize hn : boundV m (lines.take k) r q = n
    have HN := Lib.hid hn
    clear hn
    by_cases hlt : k < lines.length
    · have hltr : k < r.length := by omega
      obtain ⟨a1, c1, e1, hl1, hc1⟩ := h1.shape
      injection e1 with e1 _ e2
      subst e1 e2
      obtain ⟨ad, A, c, rfl, hg1, hg2, hg3⟩ := hc1 k _ (List.getElem?_eq_getElem hlt)
      obtain ⟨rd, rfl, hr1, hr2⟩ := at_T45 h2 (k : Int) (by omega) (by omega)
      rw [rd_T45_at r k hltr] at hr1 hr2
      have hlu : k < (applyV lines q).length := by simp [applyV]; exact hlt
      obtain ⟨ud, rfl, huu⟩ := hcu (by intro h; have := congrArg List.length h; rw [numV_len] at this; rw [this] at hlu; simp at hlu)
      have gu := huu k _ (numV_at _ k hlu)
      have gu2 : (applyV lines q)[k] = dotV lines[k] q := by simp [applyV]
      rw [gu2] at gu
      have hokk := hok k hlt
      have hone : oneV m q lines[k] r[k] = gapV m (gapOf lines[k] q r[k]) lines[k] := rfl
      have hgo : gapOf lines[k] q r[k] = mx (mx 0 (IntKind.i64.wrap (r[k].f0 - dotV lines[k] q))) (IntKind.i64.wrap (dotV lines[k] q - r[k].f1)) := by rw [i64w, i64w]; rfl
      rw [hgo] at hokk hone
      have HB := Lib.hid (boundV_succ m lines r q k hlt hltr)
      rw [hone, HN.out] at HB
      have hfn := fun w (hL : Sees w0 w []) => hF _ _ _ w (hg3.sees hL) hg2 hokk
      clear hone hgo hokk hok hF gu2 huu hcu hlu hc1
      generalize dotV lines[k] q = d at gu HB hfn
      generalize r[k] = y at hr1 hr2 HB hfn
      generalize lines[k] = x at hg1 hg2 hg3 HB hfn
      have gl := hLe.old hg1
      have g1 := hLe.old hr1
      have g2 := hLe.old hr2
      simp only [Int.toNat_natCast] at g1 g2
      clear hg1 hr1 hr2
      go_wp2_with ((refine wpl_run rfl (run_load_plain rfl p_int rfl (hL.old gu)) ?_; simp only [Act.put, List.setIfInBounds_toArray, List.set_cons_succ, List.set_cons_zero]))
      refine wp_region_lex [(.val, _), (.val, _), (.val, _), (.val, _), (.val, _), (.val, _), (.calm, _), (.val, _), (.val, _), (.val, _), (.val, _), (.val, _), (.val, _), (.val, _), (.calm, _), (.val, _), (.val, _), (.val, _), (.val, _), (.val, _), (.calm, _), (.eff, _), (.val, _), (.val, _)] rfl mixed (by kernel_rfl) ?_
      replace hL := hL.drew
      repeat (first | (refine wpLex_calm rfl _ (run_load_plain rfl p_int rfl (hL.old g1)) ?_; simp only [Act.put, List.setIfInBounds_toArray, List.set_cons_succ, List.set_cons_zero]) | (refine wpLex_calm rfl _ (run_load_plain rfl p_int rfl (hL.old g2)) ?_; simp only [Act.put, List.setIfInBounds_toArray, List.set_cons_succ, List.set_cons_zero]) | (refine wpLex_calm rfl _ (run_load_plain rfl p_ints rfl (hL.old gl)) ?_; simp only [Act.put, List.setIfInBounds_toArray, List.set_cons_succ, List.set_cons_zero]) | (refine x_callV rfl rfl rfl rfl (hfn _ (hLe.call hL.below)) ?_; rintro e w ⟨rfl, hb⟩; refine ⟨_, rfl, ?_⟩; replace hL := hL.call hb; clear hb; simp only [Act.put, List.setIfInBounds_toArray, List.set_cons_succ, List.set_cons_zero]) | (refine wpLex_val rfl _ (fun w2 => by (go_simp; try rfl)) ?_; simp only [Act.put, List.setIfInBounds_toArray, List.set_cons_succ, List.set_cons_zero]))
      refine wpLex_nil ?_
      go_wp2
      refine ⟨⟨k + 1, by omega, rfl, by rw [HB.out], hL⟩, by simp [intOf]; omega⟩
    · obtain rfl : k = lines.length := by omega
      have e : boundV m lines r q = n := by rw [← HN.out, List.take_length]
      have E := Lib.hid e
      clear e
      go_wp2
      go_ret
      exact ⟨by rw [E.out]; rfl, (hLe.call hL.below).below⟩
set_option maxHeartbeats 4000000 in
theorem bound1_any (m : Int) (hm : m ≠ 2 ∧ m ≠ 3) (A1 A2 A3 : Option Addr) (c1 c2 c3 : Nat) (lines : List (List Int)) (r : List S45) (q : List Int) (w0 : World) (h1 : RdM w0 (.slice A1 lines.length c1) lines) (h2 : Kd.C k45 w0 A2 r.length r) (h3 : Rd w0 (.slice A3 q.length c3) q.length 1 (numV q))
    (hl : lines.length * 8 ≤ 281474976710656) (hr : lines.length ≤ r.length) (hq : q.length ≤ 9223372036854775807) (hlq : ∀ l ∈ lines, l.length ≤ q.length)
    (hok : ∀ (k : Nat) (hk : k < lines.length), okG m (gapOf lines[k] q (r[k]'(by omega))) lines[k] = true) :
    Calls Tryd.prog 32 #[.int .i64 m, .slice A1 lines.length c1, .slice A2 r.length c2, .slice A3 q.length c3] w0 fun e w' => e = .returned (.int .i64 (boundV m lines r q)) ∧ Below w0.heap.size w0 w' := by
  have hF := fnG_sum m hm
  have t1 : (m == 2) = false := beq_eq_false_iff_ne.2 hm.1
  have t2 : (m == 3) = false := beq_eq_false_iff_ne.2 hm.2
  clear hm
  have hL := Sees.refl w0
  have hap := fun w (hL : Sees w0 w []) => apply_any _ _ lines q w (h1.sees hL) (h3.sees hL) hl hq hlq
  go_enter Tryd.func32, Tryd.ntmps32
  go_wp2_with (go_at_call 24; refine (hap _ hL).mono ?_; rintro e w ⟨u, Lv, rfl, hM, hV⟩; have hRu := hV.rd hM (fun _ h => h); replace hL := hL.call hM.below; clear hM hV; obtain ⟨⟨au, cu, rfl, hcu⟩, -⟩ := hRu)
  obtain ⟨we, rfl⟩ : ∃ we, we = w := ⟨_, rfl⟩
  have hLe := hL
  clear hL hap
  have hL := Sees.refl we
  go_loopw [10, 22] (fun o i wr => ∃ k : Nat, k ≤ lines.length ∧ i = .int .i64 k ∧ o = .int .i64 (boundV m (lines.take k) r q) ∧ Sees we wr []) (fun _ i _ => lines.length - (intOf i).toNat)
  case atStart => exact ⟨0, Nat.zero_le _, rfl, rfl, hL⟩
  case round =>
    clear hL
    obtain ⟨k, hk, rfl, rfl, hL⟩ := hrel
    generalize hn : boundV m (lines.take k) r q = n
    have HN := Lib.hid hn
    clear hn
    by_cases hlt : k < lines.length
    · have hltr : k < r.length := by omega
      obtain ⟨a1, c1, e1, hl1, hc1⟩ := h1.shape
      injection e1 with e1 _ e2
      subst e1 e2
      obtain ⟨ad, A, c, rfl, hg1, hg2, hg3⟩ := hc1 k _ (List.getElem?_eq_getElem hlt)
      obtain ⟨rd, rfl, hr1, hr2⟩ := at_T45 h2 (k : Int) (by omega) (by omega)
      rw [rd_T45_at r k hltr] at hr1 hr2
      have hlu : k < (applyV lines q).length := by simp [applyV]; exact hlt
      obtain ⟨ud, rfl, huu⟩ := hcu (by intro h; have := congrArg List.length h; rw [numV_len] at this; rw [this] at hlu; simp at hlu)
      have gu := huu k _ (numV_at _ k hlu)
      have gu2 : (applyV lines q)[k] = dotV lines[k] q := by simp [applyV]
      rw [gu2] at gu
      have hokk := hok k hlt
      have hone : oneV m q lines[k] r[k] = gapV m (gapOf lines[k] q r[k]) lines[k] := rfl
      have hgo : gapOf lines[k] q r[k] = mx (mx 0 (IntKind.i64.wrap (r[k].f0 - dotV lines[k] q))) (IntKind.i64.wrap (dotV lines[k] q - r[k].f1)) := by rw [i64w, i64w]; rfl
      rw [hgo] at hokk hone
      have HB := Lib.hid (boundV_succ m lines r q k hlt hltr)
      rw [hone, HN.out] at HB
      have hfn := fun w (hL : Sees w0 w []) => hF _ _ _ w (hg3.sees hL) hg2 hokk
      clear hone hgo hokk hok hF gu2 huu hcu hlu hc1
      generalize dotV lines[k] q = d at gu HB hfn
      generalize r[k] = y at hr1 hr2 HB hfn
      generalize lines[k] = x at hg1 hg2 hg3 HB hfn
      have gl := hLe.old hg1
      have g1 := hLe.old hr1
      have g2 := hLe.old hr2
      simp only [Int.toNat_natCast] at g1 g2
      clear hg1 hr1 hr2
      go_wp2_with ((refine wpl_run rfl (run_load_plain rfl p_int rfl (hL.old gu)) ?_; simp only [Act.put, List.setIfInBounds_toArray, List.set_cons_succ, List.set_cons_zero]))
      refine wp_region_lex [(.val, _), (.val, _), (.val, _), (.val, _), (.val, _), (.val, _), (.calm, _), (.val, _), (.val, _), (.val, _), (.val, _), (.val, _), (.val, _), (.val, _), (.calm, _), (.val, _), (.val, _), (.val, _), (.val, _), (.val, _), (.calm, _), (.eff, _), (.val, _), (.val, _)] rfl mixed (by kernel_rfl) ?_
      replace hL := hL.drew
      repeat (first | (refine wpLex_calm rfl _ (run_load_plain rfl p_int rfl (hL.old g1)) ?_; simp only [Act.put, List.setIfInBounds_toArray, List.set_cons_succ, List.set_cons_zero]) | (refine wpLex_calm rfl _ (run_load_plain rfl p_int rfl (hL.old g2)) ?_; simp only [Act.put, List.setIfInBounds_toArray, List.set_cons_succ, List.set_cons_zero]) | (refine wpLex_calm rfl _ (run_load_plain rfl p_ints rfl (hL.old gl)) ?_; simp only [Act.put, List.setIfInBounds_toArray, List.set_cons_succ, List.set_cons_zero]) | (refine x_callV rfl rfl rfl rfl (hfn _ (hLe.call hL.below)) ?_; rintro e w ⟨rfl, hb⟩; refine ⟨_, rfl, ?_⟩; replace hL := hL.call hb; clear hb; simp only [Act.put, List.setIfInBounds_toArray, List.set_cons_succ, List.set_cons_zero]) | (refine wpLex_val rfl _ (fun w2 => by (go_simp; try rfl)) ?_; simp only [Act.put, List.setIfInBounds_toArray, List.set_cons_succ, List.set_cons_zero]))
      refine wpLex_nil ?_
      go_wp2
      refine ⟨⟨k + 1, by omega, rfl, by rw [HB.out], hL⟩, by simp [intOf]; omega⟩
    · obtain rfl : k = lines.length := by omega
      have e : boundV m lines r q = n := by rw [← HN.out, List.take_length]
      have E := Lib.hid e
      clear e
      go_wp2
      go_ret
      exact ⟨by rw [E.out]; rfl, (hLe.call hL.below).below⟩
end Go.Proofs.YticponffemffnaaDoor
end
section
/- The functions over ranges: Of, Join. -/
set_option linter.unusedVariables false
set_option linter.unusedSimpArgs false
namespace Go.Proofs.YticponffemffnaaDoor
open Go Go.RowKit Go.Lx Go.Proofs.YticponffemffnaaDoorW.PrintWords Go.Proofs.YticponffemffnaaDoorW.PrintMore Go.Proofs.YticponffemffnaaDoor.P
attribute [local go_sem] mx2 mn2 max_two min_two max_three
attribute [local irreducible] Calls
def rngC (r : S45) : List Value := [.int .i64 r.f0, .int .i64 r.f1]
def rngV (l : List S45) : List Value := l.flatMap rngC
theorem rngV_len (l : List S45) : (rngV l).length = l.length * 2 := flat_len' rngC 2 (fun _ => rfl) l
theorem rngV_one (l : List S45) : ∀ u ∈ rngV l, u.one1 = true := by
  intro u hu
  obtain ⟨r, _, h⟩ := List.mem_flatMap.1 hu
  simp only [rngC, List.mem_cons, List.not_mem_nil, or_false] at h
  rcases h with rfl | rfl <;> rfl
theorem s_rng : (Tryd.prog.info? 45).map (·.size) = some 2 := by kernel_rfl
theorem z_rng : zeroOf Tryd.prog 45 = some [.int .i64 0, .int .i64 0] := by kernel_rfl
theorem i_rng : (Tryd.prog.info? 45).map (fun i => (i.zero.map fun z => z.cells.toList, i.size, i.bytes)) = some (some [.int .i64 0, .int .i64 0], 2, 16) := by kernel_rfl
theorem a_rng : aggVar Tryd.prog 45 = some 2 := by kernel_rfl
theorem u_rows : Tryd.prog.underlying 22 = some (.slice 24) := by kernel_rfl
theorem p_rows : plainVar Tryd.prog 22 = true := by kernel_rfl
/-- the ranges of one vector -/
def ofOne (lines : List (List Int)) (q : List Int) : List S45 := (applyV lines q).map fun n => ⟨n, n⟩
set_option maxHeartbeats 2000000 in
theorem one_any (bl : Nat) (vl v2 : Value) (lines : List (List Int)) (q : List Int) (w0 : World) (hc : w0.cell? ⟨bl, 0, none⟩ = some vl) (h1 : RdM w0 vl lines) (h2 : Rd w0 v2 q.length 1 (numV q)) (hl : lines.length * 16 ≤ 140737488355328) (hq : q.length ≤ 9223372036854775807) (hlq : ∀ l ∈ lines, l.length ≤ q.length) :
    Calls Tryd.prog 47 #[v2, .pointer (some ⟨bl, 0, none⟩)] w0 fun e w' => ∃ u Lv, e = .returned u ∧ Sees w0 w' Lv ∧ IsSl u 45 2 lines.length (rngV (ofOne lines q)) Lv := by
  have hL := Sees.refl w0
  have hap := fun w (hL : Sees w0 w []) => apply_any _ _ lines q w (h1.sees hL) (h2.sees hL) (by omega) hq hlq
  go_enter Tryd.func47, Tryd.ntmps47
  go_wp2_with (first | (refine wpl_run rfl (run_load_plain rfl p_rows rfl (hL.old hc)) ?_; simp only [Act.put, List.setIfInBounds_toArray, List.set_cons_succ, List.set_cons_zero]) | (go_at_call 24; refine (hap _ hL).mono ?_; rintro e w ⟨u, Lv, rfl, hM, hV⟩; have hRu := hV.rd hM (fun _ h => h); replace hL := hL.call hM.below; clear hM hV; obtain ⟨⟨au, cu, rfl, hcu⟩, -⟩ := hRu))
  obtain ⟨we, rfl⟩ : ∃ we, we = w := ⟨_, rfl⟩
  have hLe := hL
  clear hL hap
  have hlen : (applyV lines q).length = lines.length := by simp [applyV]
  go_loopw [4, 11] (fun v i wr => ∃ (k : Nat) (Lv : List Blk), k ≤ lines.length ∧ i = .int .i64 k ∧ Sees we wr Lv ∧ IsSl v 45 2 k (rngV ((ofOne lines q).take k)) Lv) (fun _ i _ => lines.length - (intOf i).toNat)
  case atStart => exact ⟨0, [], Nat.zero_le _, rfl, Sees.refl _, .nil rfl rfl rfl rfl⟩
  case round =>
    obtain ⟨k, Lv, hk, rfl, hL, hV⟩ := hrel
    by_cases hlt : k < lines.length
    · have hlu : k < (applyV lines q).length := by omega
      obtain ⟨ud, rfl, huu⟩ := hcu (by intro h; have := congrArg List.length h; rw [numV_len] at this; rw [this] at hlu; simp at hlu)
      have gu := huu k _ (numV_at _ k hlu)
      have hnext : rngV ((ofOne lines q).take (k + 1)) = rngV ((ofOne lines q).take k) ++ [.int .i64 (applyV lines q)[k], .int .i64 (applyV lines q)[k]] := by
        have hk' : k < (ofOne lines q).length := by simp [ofOne, hlen]; exact hlt
        rw [List.take_succ_eq_append_getElem hk']
        unfold rngV
        rw [List.flatMap_append]
        simp [ofOne, rngC]
      have b1 : k + 1 ≤ maxLen := by unfold maxLen; omega
      have b2 : (k + 1) * 16 ≤ 140737488355328 := by omega
      generalize (applyV lines q)[k] = x at gu hnext
      have HN := Lib.hid hnext
      clear hnext huu hcu hlu
      go_wp2_with (first | (refine wpl_run rfl (run_load_plain rfl p_int rfl (hL.old gu)) ?_; simp only [Act.put, List.setIfInBounds_toArray, List.set_cons_succ, List.set_cons_zero]) | (refine wpl_slice hL rfl _ _ _ rfl _ 2 u_rngs s_rng [.int .i64 0, .int .i64 0] z_rng (by decide) ([.int .i64 x, .int .i64 x] ++ []) (.cons (cs := [.int .i64 x, .int .i64 x]) rfl rfl (.nil _)) rfl ?_; clear hL; intro b w hL; simp only [Act.put, List.setIfInBounds_toArray, List.set_cons_succ, List.set_cons_zero]) | (refine wpl_appK (S := []) (by simpa using hL) rfl hV _ _ _ rfl rfl rfl u_rngs i_rng rfl rfl (by repeat (first | exact all1_nil | refine all1_cons rfl ?_)) b1 b2 ?_; clear hL hV; intro v w Lv hL hV; simp only [Act.put, List.setIfInBounds_toArray, List.set_cons_succ, List.set_cons_zero]))
      refine ⟨⟨k + 1, Lv, by omega, rfl, by simpa using hL, by rw [HN.out]; exact hV⟩, by simp [intOf]; omega⟩
    · obtain rfl : k = lines.length := by omega
      have e : (ofOne lines q).take lines.length = ofOne lines q := by rw [List.take_of_length_le]; simp [ofOne, hlen]
      rw [e] at hV
      go_wp2
      go_ret
      exact ⟨_, _, rfl, ⟨(hLe.call hL.below).below, fun x hx => Nat.le_trans hLe.size (hL.own x hx), hL.inn, hL.nd⟩, hV⟩
theorem rngV_at (l : List S45) (k j : Nat) (r : S45) (u : Value) (h : l[k]? = some r) (hu : (rngC r)[j]? = some u) : (rngV l)[k * 2 + j]? = some u := flat_at rngC 2 (fun _ => rfl) l k j r u h hu
theorem k45_cells {w : World} (x : S45) (cs : List Value) (h : k45.K w x cs) : cs = rngC x := k45_open h
theorem rd_rngs {w : World} {A : Option Addr} {c : Nat} {l : List S45} (h : k45.C w A l.length l) : Rd w (.slice A l.length c) l.length 2 (rngV l) := rd_of_K (d := k45) rngC k45_cells (fun _ => rfl) (by decide) h
set_option maxHeartbeats 1000000 in
theorem cloneR_any (a : Option Addr) (cap : Nat) (l : List S45) (w0 : World) (hC : k45.C w0 a l.length l) (hl : l.length * 16 ≤ 140737488355328) :
    Calls Tryd.prog 49 #[.slice a l.length cap] w0 fun e w' => ∃ u Lv, e = .returned u ∧ Sees w0 w' Lv ∧ IsSl u 45 2 l.length (rngV l) Lv := by
  have hL := Sees.refl w0
  obtain ⟨⟨a', cap', e', hcells⟩, -⟩ := rd_rngs (c := cap) hC
  cases e'
  cases a with
  | none =>
    have h0 : rngV l = [] := by
      rcases Classical.em (rngV l = []) with h | h
      · exact h
      · obtain ⟨ad, h, _⟩ := hcells h; cases h
    obtain rfl : l = [] := by
      have := congrArg List.length h0
      rw [rngV_len] at this
      simp only [List.length_nil] at this
      exact List.eq_nil_of_length_eq_zero (by omega)
    have he := fun (w : World) => Lib.run_eql_slice_nil (P := Tryd.prog) w 29 45 none 0 cap 0 0 u_rngs
    simp only [Option.isNone_none] at he
    show Calls Tryd.prog 49 #[.slice none 0 cap] w0 _
    go_enter Tryd.func49, Tryd.ntmps49
    go_wp2
    go_ret
    exact ⟨_, [], rfl, hL, .nil rfl rfl rfl rfl⟩
  | some ad =>
    have hc : ∀ j u, (rngV l)[j]? = some u → w0.cell? (ad.add j) = some u := by
      intro j u hu
      obtain ⟨ad', h, hc⟩ := hcells (by intro h; rw [h] at hu; simp at hu)
      cases h
      exact hc j u hu
    have b1 : 0 + l.length ≤ maxLen := by unfold maxLen; omega
    have b2 : (0 + l.length) * 16 ≤ 140737488355328 := by omega
    have he := fun (w : World) => Lib.run_eql_slice_nil (P := Tryd.prog) w 29 45 (some ad) l.length cap 0 0 u_rngs
    simp only [Option.isNone_some] at he
    go_enter Tryd.func49, Tryd.ntmps49
    go_wp2_with (first | (refine wpl_slice hL rfl _ _ _ rfl _ 2 u_rngs s_rng [.int .i64 0, .int .i64 0] z_rng (by decide) [] (.nil _) rfl ?_; clear hL; intro b w hL; simp only [Act.put, List.setIfInBounds_toArray, List.set_cons_succ, List.set_cons_zero]) | (refine wpl_append (P0 := []) (S := []) hL rfl (isSl_lit (b := b) (e := 45) (size := 2) (n := 0) (vs := []) rfl (Nat.zero_le _)) _ _ _ rfl rfl [.int .i64 0, .int .i64 0] 16 u_rngs i_rng rfl ad l.length cap (rngV l) rfl (rngV_len l) (fun j u hu => hL.old (hc j u hu)) (rngV_one l) b1 b2 ?_; clear hL; intro v w Lv hL hV; simp only [Act.put, List.setIfInBounds_toArray, List.set_cons_succ, List.set_cons_zero]))
    go_ret
    refine ⟨v, Lv, rfl, by simpa using hL, ?_⟩
    simpa using hV

def joinR (x y : S45) : S45 := ⟨mn x.f0 y.f0, mx x.f1 y.f1⟩
def joinV (a b : List S45) : List S45 := List.zipWith joinR a b
theorem joinV_len (a b : List S45) (h : b.length = a.length) : (joinV a b).length = a.length := by unfold joinV; rw [List.length_zipWith]; omega
theorem rngV_mix (x y : List S45) (k : Nat) (hy : k < y.length) : rngV (mixed_ x y k) = rngV (x.take k) ++ rngC y[k] ++ rngV (y.drop (k + 1)) := by
  unfold mixed_ rngV
  rw [List.drop_eq_getElem_cons hy, List.flatMap_append, List.flatMap_cons, List.append_assoc]
theorem rngV_mix1 (x y : List S45) (k : Nat) (hx : k < x.length) : rngV (mixed_ x y (k + 1)) = rngV (x.take k) ++ rngC x[k] ++ rngV (y.drop (k + 1)) := by
  unfold mixed_ rngV
  rw [List.take_succ_eq_append_getElem hx, List.flatMap_append, List.flatMap_append, List.flatMap_singleton]
set_option maxHeartbeats 4000000 in
theorem join_any (A1 A2 : Option Addr) (c1 c2 : Nat) (a b : List S45) (w0 : World) (h1 : k45.C w0 A1 a.length a) (h2 : k45.C w0 A2 b.length b) (hl : a.length * 16 ≤ 140737488355328) (hab : b.length = a.length) :
    Calls Tryd.prog 22 #[.slice A1 a.length c1, .slice A2 b.length c2] w0 fun e w' => ∃ u Lv, e = .returned u ∧ Sees w0 w' Lv ∧ IsSl u 45 2 a.length (rngV (joinV a b)) Lv := by
  have hL := Sees.refl w0
  have hcl := fun w (hL : Sees w0 w []) => cloneR_any A1 c1 a w (Kd.C_below h1 hL.below) hl
  have hjl := joinV_len a b hab
  have HAB := Lib.hid hab
  have HJL := Lib.hid hjl
  clear hab hjl
  go_enter Tryd.func22, Tryd.ntmps22
  go_wp2_with (go_at_call 49; refine (hcl _ hL).mono ?_; rintro e w ⟨u, Lv, rfl, hM, hV⟩; replace hL := hL.join hM; clear hM; obtain ⟨au, cu, rfl⟩ := hV.shape)
  obtain ⟨we, rfl⟩ : ∃ we, we = w := ⟨_, rfl⟩
  rw [List.append_nil] at hL
  go_loopw [12] (fun i wr => ∃ (k : Nat) (Lv : List Blk), k ≤ a.length ∧ i = .int .i64 k ∧ Sees w0 wr Lv ∧ IsSl (.slice au a.length cu) 45 2 a.length (rngV (mixed_ (joinV a b) a k)) Lv) (fun i _ => a.length - (intOf i).toNat)
  case atStart => exact ⟨0, Lv, Nat.zero_le _, rfl, hL, hV⟩
  case round =>
    clear hL hV hcl
    obtain ⟨k, Lv, hk, rfl, hL, hV⟩ := hrel
    by_cases hlt : k < a.length
    · have hltb : k < b.length := by have := HAB.out; omega
      have hjl := HJL.out
      obtain ⟨bb, rest, rfl, rfl, hnew⟩ := hV.open_ (by omega)
      obtain ⟨bd, rfl, hr⟩ : ∃ ad, A2 = some ad ∧ ∀ j v, (rngC b[k])[j]? = some v → w0.cell? ((ad.add (k * 2)).add j) = some v := by
        obtain ⟨⟨a', cap', e', hcells⟩, -⟩ := rd_rngs (c := c2) h2
        cases e'
        obtain ⟨ad, rfl, hc⟩ := hcells (by intro h; have := congrArg List.length h; rw [rngV_len] at this; simp only [List.length_nil] at this; omega)
        refine ⟨ad, rfl, fun j v hv => ?_⟩
        rw [Go.Deep.add_add]
        exact hc _ _ (rngV_at b k j _ v (List.getElem?_eq_getElem hltb) hv)
      have hmix := rngV_mix (joinV a b) a k hlt
      have hmix1 := rngV_mix1 (joinV a b) a k (by omega)
      have hj : (joinV a b)[k]'(by omega) = joinR a[k] b[k] := by unfold joinV; rw [List.getElem_zipWith]
      rw [hj] at hmix1
      have hpre : (rngV ((joinV a b).take k)).length = k * 2 := by rw [rngV_len, List.length_take]; omega
      have hml : (rngV (mixed_ (joinV a b) a (k + 1))).length = (rngV (mixed_ (joinV a b) a k)).length := by rw [rngV_len, rngV_len, mixed_len _ _ _ hjl, mixed_len _ _ _ hjl]
      generalize a[k] = x at hmix hmix1
      generalize b[k] = y at hr hmix1
      have hml' := hml
      rw [hmix, hmix1] at hml'
      have g0 : (rngV (mixed_ (joinV a b) a k) ++ rest)[k * 2]? = some (.int .i64 x.f0) := by
        rw [hmix, List.append_assoc, List.append_assoc, List.getElem?_append_right (by omega), hpre, Nat.sub_self]; rfl
      have g1 : (rngV (mixed_ (joinV a b) a k) ++ rest)[k * 2 + 1]? = some (.int .i64 x.f1) := by
        rw [hmix, List.append_assoc, List.append_assoc, List.getElem?_append_right (by omega), hpre, show k * 2 + 1 - k * 2 = 1 by omega]; rfl
      have e1 : rngV (mixed_ (joinV a b) a k) ++ rest = rngV ((joinV a b).take k) ++ rngC x ++ (rngV (a.drop (k + 1)) ++ rest) := by rw [hmix, List.append_assoc]
      have e2 : rngV (mixed_ (joinV a b) a (k + 1)) ++ rest = rngV ((joinV a b).take k) ++ rngC (joinR x y) ++ (rngV (a.drop (k + 1)) ++ rest) := by rw [hmix1, List.append_assoc]
      have hnew1 := Lib.hid (hnew _ hml)
      generalize rngV (mixed_ (joinV a b) a k) ++ rest = cs at hL g0 g1 e1
      generalize rngV (mixed_ (joinV a b) a (k + 1)) ++ rest = cs2 at e2 hnew1
      generalize rngV ((joinV a b).take k) = pre at e1 e2 hpre
      have E1 := Lib.hid e1
      have E2 := Lib.hid e2
      have HP := Lib.hid hpre
      clear hmix hmix1 hml hml' hj e1 e2 hnew hV hpre hjl
      go_wp2_with (first | (refine wpl_run rfl (run_load_agg (vs := rngC y) rfl a_rng rfl rfl (fun j v hv => hL.old (hr j v hv))) ?_; simp only [Act.put, List.setIfInBounds_toArray, List.set_cons_succ, List.set_cons_zero]) | (refine wpl_alloc hL rfl _ rfl _ z_rng ?_; clear hL; intro b w hL; simp only [Act.put, List.setIfInBounds_toArray, List.set_cons_succ, List.set_cons_zero]) | (refine wpl_strow hL rfl _ _ _ rfl _ rfl _ rfl _ s_rng _ rfl _ _ _ (by first | exact .here | exact .there .here | exact .there (.there .here) | exact .there (.there (.there .here)) | exact .there (.there (.there (.there .here))) | exact .pre (.here) | exact .pre (.there .here) | exact .pre (.there (.there .here))) (by repeat (first | exact all1_nil | refine all1_cons rfl ?_)) (by rfl) (by rfl) ?_; clear hL; intro w hL; simp only [Act.put, List.setIfInBounds_toArray, List.set_cons_succ, List.set_cons_zero]))
      refine wp_region_lex [(.val, _), (.val, _), (.val, _), (.val, _), (.val, _), (.val, _), (.calm, _), (.val, _), (.calm, _), (.val, _), (.val, _), (.val, _), (.val, _), (.val, _), (.calm, _), (.val, _), (.calm, _), (.val, _), (.val, _), (.val, _), (.eff, _)] rfl mixed (by kernel_rfl) ?_
      replace hL := hL.drew
      repeat (first | (refine wpLex_calm rfl _ (run_load_plain rfl p_int rfl (hL.at (by first | exact .head _ | exact .tail _ (.head _) | exact .tail _ (.tail _ (.head _)) | exact .tail _ (.tail _ (.tail _ (.head _))) | exact .tail _ (.tail _ (.tail _ (.tail _ (.head _)))) | exact .tail _ (.tail _ (.tail _ (.tail _ (.tail _ (.head _))))) | exact List.mem_append_right _ (.head _) | exact List.mem_append_right _ (.tail _ (.head _)) | exact List.mem_append_right _ (.tail _ (.tail _ (.head _))) | exact List.mem_append_right _ (.tail _ (.tail _ (.tail _ (.head _)))) | exact .tail _ (List.mem_append_right _ (.head _)) | exact .tail _ (List.mem_append_right _ (.tail _ (.head _))) | exact .tail _ (List.mem_append_right _ (.tail _ (.tail _ (.head _)))) | exact .tail _ (List.mem_append_right _ (.tail _ (.tail _ (.tail _ (.head _))))) | exact .tail _ (.tail _ (List.mem_append_right _ (.head _))) | exact .tail _ (.tail _ (List.mem_append_right _ (.tail _ (.head _)))) | exact .tail _ (.tail _ (List.mem_append_right _ (.tail _ (.tail _ (.head _))))) | exact .tail _ (.tail _ (List.mem_append_right _ (.tail _ (.tail _ (.tail _ (.head _))))))) g0)) ?_; simp only [Act.put, List.setIfInBounds_toArray, List.set_cons_succ, List.set_cons_zero]) | (refine wpLex_calm rfl _ (run_load_plain rfl p_int rfl (hL.at (by first | exact .head _ | exact .tail _ (.head _) | exact .tail _ (.tail _ (.head _)) | exact .tail _ (.tail _ (.tail _ (.head _))) | exact .tail _ (.tail _ (.tail _ (.tail _ (.head _)))) | exact .tail _ (.tail _ (.tail _ (.tail _ (.tail _ (.head _))))) | exact List.mem_append_right _ (.head _) | exact List.mem_append_right _ (.tail _ (.head _)) | exact List.mem_append_right _ (.tail _ (.tail _ (.head _))) | exact List.mem_append_right _ (.tail _ (.tail _ (.tail _ (.head _)))) | exact .tail _ (List.mem_append_right _ (.head _)) | exact .tail _ (List.mem_append_right _ (.tail _ (.head _))) | exact .tail _ (List.mem_append_right _ (.tail _ (.tail _ (.head _)))) | exact .tail _ (List.mem_append_right _ (.tail _ (.tail _ (.tail _ (.head _))))) | exact .tail _ (.tail _ (List.mem_append_right _ (.head _))) | exact .tail _ (.tail _ (List.mem_append_right _ (.tail _ (.head _)))) | exact .tail _ (.tail _ (List.mem_append_right _ (.tail _ (.tail _ (.head _))))) | exact .tail _ (.tail _ (List.mem_append_right _ (.tail _ (.tail _ (.tail _ (.head _))))))) g1)) ?_; simp only [Act.put, List.setIfInBounds_toArray, List.set_cons_succ, List.set_cons_zero]) | (refine wpLex_calm rfl _ (run_load_plain rfl p_int rfl (hL.at (by first | exact .head _ | exact .tail _ (.head _) | exact .tail _ (.tail _ (.head _)) | exact .tail _ (.tail _ (.tail _ (.head _))) | exact .tail _ (.tail _ (.tail _ (.tail _ (.head _)))) | exact .tail _ (.tail _ (.tail _ (.tail _ (.tail _ (.head _))))) | exact List.mem_append_right _ (.head _) | exact List.mem_append_right _ (.tail _ (.head _)) | exact List.mem_append_right _ (.tail _ (.tail _ (.head _))) | exact List.mem_append_right _ (.tail _ (.tail _ (.tail _ (.head _)))) | exact .tail _ (List.mem_append_right _ (.head _)) | exact .tail _ (List.mem_append_right _ (.tail _ (.head _))) | exact .tail _ (List.mem_append_right _ (.tail _ (.tail _ (.head _)))) | exact .tail _ (List.mem_append_right _ (.tail _ (.tail _ (.tail _ (.head _))))) | exact .tail _ (.tail _ (List.mem_append_right _ (.head _))) | exact .tail _ (.tail _ (List.mem_append_right _ (.tail _ (.head _)))) | exact .tail _ (.tail _ (List.mem_append_right _ (.tail _ (.tail _ (.head _))))) | exact .tail _ (.tail _ (List.mem_append_right _ (.tail _ (.tail _ (.tail _ (.head _))))))) (by rfl))) ?_; simp only [Act.put, List.setIfInBounds_toArray, List.set_cons_succ, List.set_cons_zero]) | (refine x_setn_eq hL rfl _ _ _ rfl _ _ rfl _ rfl 2 s_rng (rngC (joinR x y)) rfl _ _ cs2 pre (rngC x) _ _ (by first | exact .here | exact .there .here | exact .there (.there .here) | exact .there (.there (.there .here)) | exact .there (.there (.there (.there .here))) | exact .pre (.here) | exact .pre (.there .here) | exact .pre (.there (.there .here))) E1.out E2.out (by repeat (first | exact all1_nil | refine all1_cons rfl ?_)) HP.out rfl rfl ?_; clear hL; intro w hL; simp only [Act.put, List.setIfInBounds_toArray, List.set_cons_succ, List.set_cons_zero]) | (refine wpLex_val rfl _ (fun w2 => by (go_simp; try rfl)) ?_; simp only [Act.put, List.setIfInBounds_toArray, List.set_cons_succ, List.set_cons_zero]))
      refine wpLex_nil ?_
      go_wp2
      refine ⟨⟨k + 1, _, by omega, rfl, hL.forget (List.sublist_cons_self _ _), hnew1.out⟩, by simp [intOf]; omega⟩
    · obtain rfl : k = a.length := by omega
      have hlt2 : ¬ a.length < b.length := by have := HAB.out; omega
      rw [mixed_all _ _ HJL.out] at hV
      clear hlt
      go_wp2
      go_ret
      exact ⟨_, _, rfl, hL, hV⟩
theorem en_join : enterable Tryd.prog 22 = true := by kernel_rfl
end Go.Proofs.YticponffemffnaaDoor
end
section
/- The ranges of vectors. -/
set_option linter.unusedVariables false
set_option linter.unusedSimpArgs false
namespace Go.Proofs.YticponffemffnaaDoor
open Go Go.RowKit Go.Lx Go.Proofs.YticponffemffnaaDoorW.PrintWords Go.Proofs.YticponffemffnaaDoorW.PrintMore Go.Proofs.YticponffemffnaaDoor.P
attribute [local irreducible] Calls
/-- 'x[1:]' of a slice that is not empty -/
theorem cut1 {P : Program} (t e : TypeId) {i : TypeInfo} (ht : P.underlying t = some (.slice e)) (hi : P.info? e = some i) (hsz : i.size = 1) (ad : Addr) (n c : Nat) (hn : 1 ≤ n) (hc : n ≤ c) :
    ∃ A' : Option Addr, (∀ W : World, (Instr.slice t (.slice (some ad) n c) (some (.int .i64 1)) none none).run P W = .ok (.slice A' (n - 1) (c - 1)) W) ∧ (1 < n → ∃ a1, A' = some a1 ∧ ∀ j, a1.add j = ad.add (1 + j)) := by
  refine ⟨if c = 1 then some ad else some (ad.add 1), fun W => ?_, fun h => ⟨ad.add 1, by rw [if_neg (by omega)], fun j => Go.Deep.add_add _ _ _⟩⟩
  have hel : P.elem t = e := by simp [Program.elem, ht]
  have hu : P.underlying t = some (.slice (P.elem t)) := by rw [hel]; exact ht
  have := run_slice_l W t (some ad) n c hu .i64 ((1 : Nat) : Int) (Int.natCast_nonneg _) (by omega)
  rw [hel] at this
  rw [show (1 : Int) = ((1 : Nat) : Int) from rfl, this]
  simp [sizeOf, typeInfo, hi, hsz, sliced, Result.andThen]
theorem rngs_C {w0 w : World} {L Lv : List Blk} {v : Value} {l : List S45} (h : IsSl v 45 2 l.length (rngV l) Lv) (hL : Sees w0 w L) (hLv : ∀ x ∈ Lv, x ∈ L) : ∃ A c, v = .slice A l.length c ∧ l.length ≤ c ∧ k45.C w A l.length l :=
  Kd.R_reads (R_of_slK (d := k45) (w0 := w0) rngC (fun _ => rfl) (fun w base ok x => k45_mkM w base ok x) rfl h hL hLv)
def ofAcc (lines : List (List Int)) (q : List Int) (qs : List (List Int)) : List S45 := qs.foldl (fun out v => joinV out (ofOne lines v)) (ofOne lines q)
def ofV (lines : List (List Int)) (l : List (List Int)) : List S45 := match l with
  | [] => []
  | q :: qs => ofAcc lines q qs
theorem ofOne_len (lines : List (List Int)) (q : List Int) : (ofOne lines q).length = lines.length := by simp [ofOne, applyV]
theorem ofAcc_len (lines : List (List Int)) (q : List Int) (qs : List (List Int)) : (ofAcc lines q qs).length = lines.length := by
  unfold ofAcc
  have : ∀ (qs : List (List Int)) (a : List S45), a.length = lines.length → (qs.foldl (fun out v => joinV out (ofOne lines v)) a).length = lines.length := by
    intro qs
    induction qs with
    | nil => intro a h; exact h
    | cons q qs ih =>
      intro a h
      exact ih _ (by rw [joinV_len _ _ (by rw [ofOne_len, h]), h])
  exact this qs _ (ofOne_len _ _)
set_option maxHeartbeats 4000000 in
theorem of_rng_any (A1 : Option Addr) (c1 c2 : Nat) (A2 : Option Addr) (lines : List (List Int)) (q : List Int) (qs : List (List Int)) (w0 : World) (h1 : RdM w0 (.slice A1 lines.length c1) lines) (h2 : RdM w0 (.slice A2 (qs.length + 1) c2) (q :: qs)) (hc2 : qs.length + 1 ≤ c2) (hl : lines.length * 16 ≤ 140737488355328)
    (hlq : ∀ v ∈ q :: qs, ∀ l ∈ lines, l.length ≤ v.length) :
    Calls Tryd.prog 17 #[.slice A1 lines.length c1, .slice A2 (qs.length + 1) c2] w0 fun e w' => ∃ u Lv, e = .returned u ∧ Sees w0 w' Lv ∧ IsSl u 45 2 lines.length (rngV (ofAcc lines q qs)) Lv := by
  have hL := Sees.refl w0
  obtain ⟨a2, c2', e2, hl2, hcells⟩ := h2.shape
  cases e2
  obtain ⟨ad, A0, k0, rfl, hg1, hg2, hg3⟩ := hcells 0 q rfl
  obtain ⟨i0, hi0, hs0⟩ : ∃ i, Tryd.prog.info? 24 = some i ∧ i.size = 1 := by
    have : (Tryd.prog.info? 24).map (·.size) = some 1 := by kernel_rfl
    obtain ⟨i, h, h'⟩ := Option.map_eq_some_iff.1 this
    exact ⟨i, h, h'⟩
  obtain ⟨AT, hcut, hAT⟩ := cut1 (P := Tryd.prog) 22 24 u_rows hi0 hs0 ad (qs.length + 1) c2 (by omega) hc2
  have hAT' := Lib.hid hAT
  clear hAT hs0 hi0
  have hqs : qs.length ≤ 9223372036854775806 := by simp at hl2; omega
  have hz0 : (0 : Int) < (qs.length : Int) + 1 := by omega
  go_enter Tryd.func17, Tryd.ntmps17
  go_wp2_with (first | (refine wpl_box hL rfl _ _ rfl _ rfl _ rfl ?_; clear hL; intro b w hL; simp only [Act.put, List.setIfInBounds_toArray, List.set_cons_succ, List.set_cons_zero]) | (refine wpl_run rfl (run_load_plain rfl p_ints rfl (hL.old hg1)) ?_; simp only [Act.put, List.setIfInBounds_toArray, List.set_cons_succ, List.set_cons_zero]) | (go_at_call 47; refine (one_any b (.slice A1 lines.length c1) _ lines q _ (hL.at (by first | exact .head _ | exact .tail _ (.head _) | exact .tail _ (.tail _ (.head _)) | exact .tail _ (.tail _ (.tail _ (.head _))) | exact .tail _ (.tail _ (.tail _ (.tail _ (.head _)))) | exact .tail _ (.tail _ (.tail _ (.tail _ (.tail _ (.head _))))) | exact List.mem_append_right _ (.head _) | exact List.mem_append_right _ (.tail _ (.head _)) | exact List.mem_append_right _ (.tail _ (.tail _ (.head _))) | exact List.mem_append_right _ (.tail _ (.tail _ (.tail _ (.head _)))) | exact .tail _ (List.mem_append_right _ (.head _)) | exact .tail _ (List.mem_append_right _ (.tail _ (.head _))) | exact .tail _ (List.mem_append_right _ (.tail _ (.tail _ (.head _)))) | exact .tail _ (List.mem_append_right _ (.tail _ (.tail _ (.tail _ (.head _))))) | exact .tail _ (.tail _ (List.mem_append_right _ (.head _))) | exact .tail _ (.tail _ (List.mem_append_right _ (.tail _ (.head _)))) | exact .tail _ (.tail _ (List.mem_append_right _ (.tail _ (.tail _ (.head _))))) | exact .tail _ (.tail _ (List.mem_append_right _ (.tail _ (.tail _ (.tail _ (.head _))))))) rfl) (h1.sees hL) (hg3.sees hL) hl hg2 (hlq q (.head _))).mono ?_; rintro e w ⟨u, Lv, rfl, hM, hV⟩; replace hL := hL.join hM; clear hM))
  obtain ⟨bl, rfl⟩ : ∃ bl, bl = b := ⟨_, rfl⟩
  rw [Nat.add_sub_cancel] at hcut
  go_loopw [6, 18] (fun v i wr => ∃ (k : Nat) (Lv : List Blk), k ≤ qs.length ∧ i = .int .i64 k ∧ Sees w0 wr (Lv ++ [⟨bl, 22, [.slice A1 lines.length c1]⟩]) ∧ IsSl v 45 2 lines.length (rngV (ofAcc lines q (qs.take k))) Lv) (fun _ i _ => qs.length - (intOf i).toNat)
  case atStart => exact ⟨0, Lv, Nat.zero_le _, rfl, hL, hV⟩
  case round =>
    clear hL hV
    obtain ⟨k, Lv, hk, rfl, hL, hV⟩ := hrel
    by_cases hlt : k < qs.length
    · obtain ⟨ad1, rfl, hadd⟩ := hAT'.out (by omega)
      obtain ⟨ad', A, c, e', hk1, hk2, hk3⟩ := hcells (k + 1) (qs[k]) (by simp [hlt])
      cases e'
      have hk1' : w0.cell? (ad1.add k) = some (.slice A (qs[k]).length c) := by rw [hadd, Nat.add_comm]; exact hk1
      have hqk := hlq (qs[k]) (.tail _ (List.getElem_mem hlt))
      have hnext : ofAcc lines q (qs.take (k + 1)) = joinV (ofAcc lines q (qs.take k)) (ofOne lines (qs[k])) := by
        unfold ofAcc
        rw [List.take_succ_eq_append_getElem hlt, List.foldl_append]
        rfl
      have hal := ofAcc_len lines q (qs.take k)
      have HN := Lib.hid hnext
      generalize qs[k] = x at hk1' hk2 hk3 hqk HN
      clear hnext hk1 hcells hadd
      generalize ofAcc lines q (qs.take k) = acc at hV hal HN
      obtain ⟨Aa, ca, rfl, hca, hCa⟩ := rngs_C (l := acc) (by rw [hal]; exact hV) hL (fun y hy => List.mem_append_left _ hy)
      have h1l := ofOne_len lines x
      have hjn := fun (A2 : Option Addr) (c2 : Nat) (w : World) (h : k45.C w Aa acc.length acc) (h' : k45.C w A2 (ofOne lines x).length (ofOne lines x)) => join_any Aa A2 ca c2 acc (ofOne lines x) w h h' (by rw [hal]; exact hl) (by rw [h1l, hal])
      have HAL := Lib.hid hal
      have H1L := Lib.hid h1l
      clear hal h1l
      go_wp2_with (first | (refine wpl_run rfl (run_load_plain rfl p_ints rfl (hL.old hk1')) ?_; simp only [Act.put, List.setIfInBounds_toArray, List.set_cons_succ, List.set_cons_zero]) | (go_at_call 47; refine (one_any bl (.slice A1 lines.length c1) _ lines x _ (hL.at (by first | exact .head _ | exact .tail _ (.head _) | exact .tail _ (.tail _ (.head _)) | exact .tail _ (.tail _ (.tail _ (.head _))) | exact .tail _ (.tail _ (.tail _ (.tail _ (.head _)))) | exact .tail _ (.tail _ (.tail _ (.tail _ (.tail _ (.head _))))) | exact List.mem_append_right _ (.head _) | exact List.mem_append_right _ (.tail _ (.head _)) | exact List.mem_append_right _ (.tail _ (.tail _ (.head _))) | exact List.mem_append_right _ (.tail _ (.tail _ (.tail _ (.head _)))) | exact .tail _ (List.mem_append_right _ (.head _)) | exact .tail _ (List.mem_append_right _ (.tail _ (.head _))) | exact .tail _ (List.mem_append_right _ (.tail _ (.tail _ (.head _)))) | exact .tail _ (List.mem_append_right _ (.tail _ (.tail _ (.tail _ (.head _))))) | exact .tail _ (.tail _ (List.mem_append_right _ (.head _))) | exact .tail _ (.tail _ (List.mem_append_right _ (.tail _ (.head _)))) | exact .tail _ (.tail _ (List.mem_append_right _ (.tail _ (.tail _ (.head _))))) | exact .tail _ (.tail _ (List.mem_append_right _ (.tail _ (.tail _ (.tail _ (.head _))))))) rfl) (h1.sees hL) (hk3.sees hL) hl hk2 hqk).mono ?_; rintro e w ⟨u2, Lv2, rfl, hM, hV2⟩; replace hCa := Kd.C_below hCa hM.below; obtain ⟨A2, c3, rfl, hc3, hC2⟩ := rngs_C (l := ofOne lines x) (by rw [H1L.out]; exact hV2) hM (fun y hy => hy); replace hL := hL.call hM.below; clear hM hV2) | (go_at_call 22; refine (hjn _ _ _ hCa hC2).mono ?_; rintro e w ⟨u3, Lv3, rfl, hM, hV3⟩; replace hL := hL.join hM; clear hM))
      refine ⟨⟨k + 1, Lv3, by omega, rfl, hL.forget ?_, ?_⟩, by simp [intOf]; omega⟩
      · exact List.Sublist.append (List.Sublist.refl _) (List.sublist_append_right _ _)
      · rw [HN.out, ← HAL.out]; exact hV3
    · obtain rfl : k = qs.length := by omega
      rw [List.take_length] at hV
      go_wp2
      go_ret
      exact ⟨_, _, rfl, hL.forget (List.sublist_append_left _ _), hV⟩
end Go.Proofs.YticponffemffnaaDoor
end
section
/- Which lines are valid. -/
set_option linter.unusedVariables false
set_option linter.unusedSimpArgs false
namespace Go.Proofs.YticponffemffnaaDoor
open Go Go.RowKit Go.Lx Go.Proofs.YticponffemffnaaDoorW.PrintWords Go.Proofs.YticponffemffnaaDoorW.PrintMore Go.Proofs.YticponffemffnaaDoor.P
attribute [local irreducible] Calls
def wideB (x : Int) : Bool := decide (x < -16) || decide (16 < x)
def nzB (x : Int) : Bool := x != 0
theorem wide_any (x : Int) (w0 : World) : Calls Tryd.prog 39 #[.int .i64 x] w0 fun e w' => e = .returned (.bool (wideB x)) ∧ w' = w0 := by
  by_cases h1 : x < -16
  · have e : wideB x = true := by unfold wideB; simp [h1]
    rw [e]
    clear e
    go_enter Tryd.func39, Tryd.ntmps39
    go_wp2
    go_ret
    exact ⟨rfl, rfl⟩
  · have e : wideB x = decide (16 < x) := by unfold wideB; simp [h1]
    rw [e]
    clear e
    have h2 : decide (x < -16) = false := by simpa using h1
    go_enter Tryd.func39, Tryd.ntmps39
    go_wp2
    go_ret
    exact ⟨rfl, rfl⟩
theorem nz_any (x : Int) (w0 : World) : Calls Tryd.prog 40 #[.int .i64 x] w0 fun e w' => e = .returned (.bool (nzB x)) ∧ w' = w0 := by
  go_enter Tryd.func40, Tryd.ntmps40
  go_wp2
  go_ret
  exact ⟨rfl, rfl⟩
/-- a predicate on numbers -/
def FnP (fv : Value) (p : Int → Bool) : Prop := ∀ (x : Int) (w : World), CallsV Tryd.prog fv #[.int .i64 x] w fun e w' => e = .returned (.bool (p x)) ∧ w' = w
theorem fn_wide : FnP (.func (.func 39) #[] #[]) wideB := fun x w => .of0 (by kernel_rfl) (wide_any x w)
theorem fn_nz : FnP (.func (.func 40) #[] #[]) nzB := fun x w => .of0 (by kernel_rfl) (nz_any x w)
/-- where the first element lies that is such -/
def idxV {α : Type} (p : α → Bool) (l : List α) : Int := if l.any p then (l.findIdx p : Int) else -1
theorem idxV_at {α : Type} (p : α → Bool) (l : List α) (k : Nat) (hk : k < l.length) (h : p l[k] = true) (hb : ∀ j (hj : j < l.length), j < k → p l[j] = false) : idxV p l = (k : Int) := by
  unfold idxV
  rw [if_pos (List.any_eq_true.2 ⟨l[k], List.getElem_mem hk, h⟩)]
  rw [(List.findIdx_eq hk).2 ⟨h, fun j hj => hb j (by omega) hj⟩]
theorem idxV_none {α : Type} (p : α → Bool) (l : List α) (hb : ∀ j (hj : j < l.length), p l[j] = false) : idxV p l = -1 := by
  unfold idxV
  rw [if_neg]
  intro h
  obtain ⟨x, hx, hp⟩ := List.any_eq_true.1 h
  obtain ⟨j, hj, rfl⟩ := List.getElem_of_mem hx
  rw [hb j hj] at hp
  cases hp
theorem idxV_ge {α : Type} (p : α → Bool) (l : List α) : decide (0 ≤ idxV p l) = l.any p := by
  unfold idxV
  cases l.any p <;> simp
set_option maxHeartbeats 1000000 in
theorem idxI_any (fv : Value) (p : Int → Bool) (hf : FnP fv p) (a : Option Addr) (cap : Nat) (l : List Int) (w0 : World) (hR : Rd w0 (.slice a l.length cap) l.length 1 (numV l)) (hl : l.length ≤ 9223372036854775807) :
    Calls Tryd.prog 58 #[.slice a l.length cap, fv] w0 fun e w' => e = .returned (.int .i64 (idxV p l)) ∧ w' = w0 := by
  obtain ⟨⟨a', cap', e', hcells⟩, -⟩ := hR
  cases e'
  go_enter Tryd.func58, Tryd.ntmps58
  go_wp2
  go_loop [8] (fun i => ∃ k : Nat, k ≤ l.length ∧ i = .int .i64 k ∧ ∀ j (hj : j < l.length), j < k → p l[j] = false) (fun i => l.length - (intOf i).toNat)
  case atStart => exact ⟨0, Nat.zero_le _, rfl, fun j _ h => absurd h (Nat.not_lt_zero j)⟩
  case round =>
    obtain ⟨k, hk, rfl, hb⟩ := hrel
    have HB := Lib.hid hb
    clear hb
    by_cases hlt : k < l.length
    · obtain ⟨ad, rfl, hcc⟩ := hcells (by intro h; have := congrArg List.length h; rw [numV_len] at this; rw [this] at hlt; simp at hlt)
      have hc1 := hcc k _ (numV_at l k hlt)
      have hp := hf l[k]
      have hat := Lib.hid (idxV_at p l k hlt)
      cases hpx : p l[k] with
      | true =>
        rw [hpx] at hp
        have HA := Lib.hid (hat.out hpx HB.out)
        clear hpx hcc hcells
        generalize l[k] = x at hc1 hp
        go_wp2_with (refine wpl_callV rfl rfl rfl rfl (hp _) ?_; rintro e w ⟨rfl, rfl⟩; refine ⟨_, rfl, ?_⟩; simp only [Act.put, List.setIfInBounds_toArray, List.set_cons_succ, List.set_cons_zero])
        go_ret
        exact ⟨by rw [HA.out]; rfl, rfl⟩
      | false =>
        rw [hpx] at hp
        have HB2 : Hid (∀ j (hj : j < l.length), j < k + 1 → p l[j] = false) := Lib.hid fun j hj hj2 => by
          rcases Nat.lt_or_ge j k with h | h
          · exact HB.out j hj h
          · obtain rfl : j = k := by omega
            exact hpx
        clear hpx hcc hcells
        generalize l[k] = x at hc1 hp
        go_wp2_with (refine wpl_callV rfl rfl rfl rfl (hp _) ?_; rintro e w ⟨rfl, rfl⟩; refine ⟨_, rfl, ?_⟩; simp only [Act.put, List.setIfInBounds_toArray, List.set_cons_succ, List.set_cons_zero])
        go_round
        case rel => exact ⟨k + 1, by omega, by go_num, HB2.out⟩
        case measure => simp [intOf]; omega
    · obtain rfl : k = l.length := by omega
      have HN := Lib.hid (idxV_none p l fun j hj => HB.out j hj hj)
      go_wp2
      go_ret
      exact ⟨by rw [HN.out]; rfl, rfl⟩
theorem containsI_any (fv : Value) (p : Int → Bool) (hf : FnP fv p) (a : Option Addr) (cap : Nat) (l : List Int) (w0 : World) (hR : Rd w0 (.slice a l.length cap) l.length 1 (numV l)) (hl : l.length ≤ 9223372036854775807) :
    Calls Tryd.prog 38 #[.slice a l.length cap, fv] w0 fun e w' => e = .returned (.bool (l.any p)) ∧ w' = w0 := by
  have hi := idxI_any fv p hf a cap l w0 hR hl
  have hg := Lib.hid (idxV_ge p l)
  generalize idxV p l = i at hi hg
  go_enter Tryd.func38, Tryd.ntmps38
  go_wp2_with (go_at_call 58; refine hi.mono ?_; rintro e w ⟨rfl, rfl⟩)
  go_ret
  exact ⟨by rw [← hg.out]; rfl, rfl⟩
/-- a line that is none -/
def badRow (dims : Int) (row : List Int) : Bool := ((row.length : Int) != dims) || row.any wideB || !row.any nzB
set_option maxHeartbeats 1000000 in
theorem bad_any (b : Nat) (dims : Int) (a : Option Addr) (cap : Nat) (l : List Int) (w0 : World) (hc : w0.cell? ⟨b, 0, none⟩ = some (.int .i64 dims)) (hR : Rd w0 (.slice a l.length cap) l.length 1 (numV l)) (hl : l.length ≤ 9223372036854775807) :
    Calls Tryd.prog 37 #[.slice a l.length cap, .pointer (some ⟨b, 0, none⟩)] w0 fun e w' => e = .returned (.bool (badRow dims l)) ∧ w' = w0 := by
  have hw := containsI_any _ _ fn_wide a cap l w0 hR hl
  have hz := containsI_any _ _ fn_nz a cap l w0 hR hl
  obtain ⟨q0, hq0⟩ : ∃ q, q = ((l.length : Int) != dims) := ⟨_, rfl⟩
  obtain ⟨q1, hq1⟩ : ∃ q, q = l.any wideB := ⟨_, rfl⟩
  obtain ⟨q2, hq2⟩ : ∃ q, q = l.any nzB := ⟨_, rfl⟩
  have e : badRow dims l = (q0 || q1 || !q2) := by unfold badRow; rw [hq0, hq1, hq2]
  rw [e]
  rw [← hq1] at hw
  rw [← hq2] at hz
  clear e hq1 hq2
  have t0 : ((l.length : Int) != dims) = q0 := hq0.symm
  clear hq0
  cases q0
  · cases q1
    · go_enter Tryd.func37, Tryd.ntmps37
      go_wp2_with (go_at_call 38; first | (refine hw.mono ?_; rintro e w ⟨rfl, rfl⟩) | (refine hz.mono ?_; rintro e w ⟨rfl, rfl⟩))
      go_ret
      exact ⟨by simp, rfl⟩
    · go_enter Tryd.func37, Tryd.ntmps37
      go_wp2_with (go_at_call 38; first | (refine hw.mono ?_; rintro e w ⟨rfl, rfl⟩) | (refine hz.mono ?_; rintro e w ⟨rfl, rfl⟩))
      go_ret
      exact ⟨by simp, rfl⟩
  · go_enter Tryd.func37, Tryd.ntmps37
    go_wp2_with (go_at_call 38; first | (refine hw.mono ?_; rintro e w ⟨rfl, rfl⟩) | (refine hz.mono ?_; rintro e w ⟨rfl, rfl⟩))
    go_ret
    exact ⟨by simp, rfl⟩
/-- a predicate on rows, in this world -/
def FnR (fv : Value) (p : List Int → Bool) (w : World) : Prop := ∀ (a : Option Addr) (cap : Nat) (l : List Int), Rd w (.slice a l.length cap) l.length 1 (numV l) → l.length ≤ 9223372036854775807 → CallsV Tryd.prog fv #[.slice a l.length cap] w fun e w' => e = .returned (.bool (p l)) ∧ w' = w
set_option maxHeartbeats 1000000 in
theorem idxR_any (fv : Value) (p : List Int → Bool) (a : Option Addr) (cap : Nat) (l : List (List Int)) (w0 : World) (hf : FnR fv p w0) (hR : RdM w0 (.slice a l.length cap) l) :
    Calls Tryd.prog 57 #[.slice a l.length cap, fv] w0 fun e w' => e = .returned (.int .i64 (idxV p l)) ∧ w' = w0 := by
  obtain ⟨a', cap', e', hl, hcells⟩ := hR.shape
  cases e'
  go_enter Tryd.func57, Tryd.ntmps57
  go_wp2
  go_loop [8] (fun i => ∃ k : Nat, k ≤ l.length ∧ i = .int .i64 k ∧ ∀ j (hj : j < l.length), j < k → p l[j] = false) (fun i => l.length - (intOf i).toNat)
  case atStart => exact ⟨0, Nat.zero_le _, rfl, fun j _ h => absurd h (Nat.not_lt_zero j)⟩
  case round =>
    obtain ⟨k, hk, rfl, hb⟩ := hrel
    have HB := Lib.hid hb
    clear hb
    by_cases hlt : k < l.length
    · obtain ⟨ad, A, c, rfl, hc1, hc2, hc3⟩ := hcells k _ (List.getElem?_eq_getElem hlt)
      have hp := hf A c l[k] hc3 hc2
      have hat := Lib.hid (idxV_at p l k hlt)
      cases hpx : p l[k] with
      | true =>
        rw [hpx] at hp
        have HA := Lib.hid (hat.out hpx HB.out)
        clear hpx hcells
        generalize l[k] = x at hc1 hc2 hc3 hp
        go_wp2_with (refine wpl_callV rfl rfl rfl rfl hp ?_; rintro e w ⟨rfl, rfl⟩; refine ⟨_, rfl, ?_⟩; simp only [Act.put, List.setIfInBounds_toArray, List.set_cons_succ, List.set_cons_zero])
        go_ret
        exact ⟨by rw [HA.out]; rfl, rfl⟩
      | false =>
        rw [hpx] at hp
        have HB2 : Hid (∀ j (hj : j < l.length), j < k + 1 → p l[j] = false) := Lib.hid fun j hj hj2 => by
          rcases Nat.lt_or_ge j k with h | h
          · exact HB.out j hj h
          · obtain rfl : j = k := by omega
            exact hpx
        clear hpx hcells
        generalize l[k] = x at hc1 hc2 hc3 hp
        go_wp2_with (refine wpl_callV rfl rfl rfl rfl hp ?_; rintro e w ⟨rfl, rfl⟩; refine ⟨_, rfl, ?_⟩; simp only [Act.put, List.setIfInBounds_toArray, List.set_cons_succ, List.set_cons_zero])
        go_round
        case rel => exact ⟨k + 1, by omega, by go_num, HB2.out⟩
        case measure => simp [intOf]; omega
    · obtain rfl : k = l.length := by omega
      have HN := Lib.hid (idxV_none p l fun j hj => HB.out j hj hj)
      go_wp2
      go_ret
      exact ⟨by rw [HN.out]; rfl, rfl⟩
theorem containsR_any (fv : Value) (p : List Int → Bool) (a : Option Addr) (cap : Nat) (l : List (List Int)) (w0 : World) (hf : FnR fv p w0) (hR : RdM w0 (.slice a l.length cap) l) :
    Calls Tryd.prog 36 #[.slice a l.length cap, fv] w0 fun e w' => e = .returned (.bool (l.any p)) ∧ w' = w0 := by
  have hi := idxR_any fv p a cap l w0 hf hR
  have hg := Lib.hid (idxV_ge p l)
  generalize idxV p l = i at hi hg
  go_enter Tryd.func36, Tryd.ntmps36
  go_wp2_with (go_at_call 57; refine hi.mono ?_; rintro e w ⟨rfl, rfl⟩)
  go_ret
  exact ⟨by rw [← hg.out]; rfl, rfl⟩
def validV (lines : List (List Int)) (dims : Int) : Bool := decide (1 ≤ dims) && decide (dims ≤ 32) && decide (1 ≤ lines.length) && decide (lines.length ≤ 8) && !lines.any (badRow dims)
set_option maxHeartbeats 1000000 in
theorem valid_any (a : Option Addr) (cap : Nat) (lines : List (List Int)) (dims : Int) (w0 : World) (hR : RdM w0 (.slice a lines.length cap) lines) :
    Calls Tryd.prog 11 #[.slice a lines.length cap, .int .i64 dims] w0 fun e w' => e = .returned (.bool (validV lines dims)) ∧ Below w0.heap.size w0 w' := by
  have hL := Sees.refl w0
  have hl : lines.length ≤ 9223372036854775807 := by obtain ⟨_, _, _, hl, _⟩ := hR.shape; exact hl
  by_cases h1 : dims < 1
  · have e : validV lines dims = false := by unfold validV; simp; omega
    rw [e]
    have t1 : decide (dims < 1) = true := by simpa using h1
    go_enter Tryd.func11, Tryd.ntmps11
    go_wp2_with (first | (refine wpl_box hL rfl _ _ rfl (.int .i64 dims) rfl [.int .i64 dims] rfl ?_; clear hL; intro b w hL; simp only [Act.put, List.setIfInBounds_toArray, List.set_cons_succ, List.set_cons_zero]) | (refine wpl_run rfl (run_load_plain rfl p_int rfl (hL.at (by first | exact .head _ | exact .tail _ (.head _) | exact .tail _ (.tail _ (.head _)) | exact .tail _ (.tail _ (.tail _ (.head _))) | exact .tail _ (.tail _ (.tail _ (.tail _ (.head _)))) | exact .tail _ (.tail _ (.tail _ (.tail _ (.tail _ (.head _))))) | exact List.mem_append_right _ (.head _) | exact List.mem_append_right _ (.tail _ (.head _)) | exact List.mem_append_right _ (.tail _ (.tail _ (.head _))) | exact List.mem_append_right _ (.tail _ (.tail _ (.tail _ (.head _)))) | exact .tail _ (List.mem_append_right _ (.head _)) | exact .tail _ (List.mem_append_right _ (.tail _ (.head _))) | exact .tail _ (List.mem_append_right _ (.tail _ (.tail _ (.head _)))) | exact .tail _ (List.mem_append_right _ (.tail _ (.tail _ (.tail _ (.head _))))) | exact .tail _ (.tail _ (List.mem_append_right _ (.head _))) | exact .tail _ (.tail _ (List.mem_append_right _ (.tail _ (.head _)))) | exact .tail _ (.tail _ (List.mem_append_right _ (.tail _ (.tail _ (.head _))))) | exact .tail _ (.tail _ (List.mem_append_right _ (.tail _ (.tail _ (.tail _ (.head _))))))) (by rfl))) ?_; simp only [Act.put, List.setIfInBounds_toArray, List.set_cons_succ, List.set_cons_zero]))
    go_ret
    exact ⟨rfl, hL.below⟩
  · have t1 : decide (dims < 1) = false := by simpa using h1
    by_cases h2 : 32 < dims
    · have e : validV lines dims = false := by unfold validV; simp; omega
      rw [e]
      have t2 : decide (32 < dims) = true := by simpa using h2
      go_enter Tryd.func11, Tryd.ntmps11
      go_wp2_with (first | (refine wpl_box hL rfl _ _ rfl (.int .i64 dims) rfl [.int .i64 dims] rfl ?_; clear hL; intro b w hL; simp only [Act.put, List.setIfInBounds_toArray, List.set_cons_succ, List.set_cons_zero]) | (refine wpl_run rfl (run_load_plain rfl p_int rfl (hL.at (by first | exact .head _ | exact .tail _ (.head _) | exact .tail _ (.tail _ (.head _)) | exact .tail _ (.tail _ (.tail _ (.head _))) | exact .tail _ (.tail _ (.tail _ (.tail _ (.head _)))) | exact .tail _ (.tail _ (.tail _ (.tail _ (.tail _ (.head _))))) | exact List.mem_append_right _ (.head _) | exact List.mem_append_right _ (.tail _ (.head _)) | exact List.mem_append_right _ (.tail _ (.tail _ (.head _))) | exact List.mem_append_right _ (.tail _ (.tail _ (.tail _ (.head _)))) | exact .tail _ (List.mem_append_right _ (.head _)) | exact .tail _ (List.mem_append_right _ (.tail _ (.head _))) | exact .tail _ (List.mem_append_right _ (.tail _ (.tail _ (.head _)))) | exact .tail _ (List.mem_append_right _ (.tail _ (.tail _ (.tail _ (.head _))))) | exact .tail _ (.tail _ (List.mem_append_right _ (.head _))) | exact .tail _ (.tail _ (List.mem_append_right _ (.tail _ (.head _)))) | exact .tail _ (.tail _ (List.mem_append_right _ (.tail _ (.tail _ (.head _))))) | exact .tail _ (.tail _ (List.mem_append_right _ (.tail _ (.tail _ (.tail _ (.head _))))))) (by rfl))) ?_; simp only [Act.put, List.setIfInBounds_toArray, List.set_cons_succ, List.set_cons_zero]))
      go_ret
      exact ⟨rfl, hL.below⟩
    · have t2 : decide (32 < dims) = false := by simpa using h2
      by_cases h3 : lines.length < 1
      · have e : validV lines dims = false := by unfold validV; simp; omega
        rw [e]
        have t3 : decide ((lines.length : Int) < 1) = true := by simp; omega
        go_enter Tryd.func11, Tryd.ntmps11
        go_wp2_with (first | (refine wpl_box hL rfl _ _ rfl (.int .i64 dims) rfl [.int .i64 dims] rfl ?_; clear hL; intro b w hL; simp only [Act.put, List.setIfInBounds_toArray, List.set_cons_succ, List.set_cons_zero]) | (refine wpl_run rfl (run_load_plain rfl p_int rfl (hL.at (by first | exact .head _ | exact .tail _ (.head _) | exact .tail _ (.tail _ (.head _)) | exact .tail _ (.tail _ (.tail _ (.head _))) | exact .tail _ (.tail _ (.tail _ (.tail _ (.head _)))) | exact .tail _ (.tail _ (.tail _ (.tail _ (.tail _ (.head _))))) | exact List.mem_append_right _ (.head _) | exact List.mem_append_right _ (.tail _ (.head _)) | exact List.mem_append_right _ (.tail _ (.tail _ (.head _))) | exact List.mem_append_right _ (.tail _ (.tail _ (.tail _ (.head _)))) | exact .tail _ (List.mem_append_right _ (.head _)) | exact .tail _ (List.mem_append_right _ (.tail _ (.head _))) | exact .tail _ (List.mem_append_right _ (.tail _ (.tail _ (.head _)))) | exact .tail _ (List.mem_append_right _ (.tail _ (.tail _ (.tail _ (.head _))))) | exact .tail _ (.tail _ (List.mem_append_right _ (.head _))) | exact .tail _ (.tail _ (List.mem_append_right _ (.tail _ (.head _)))) | exact .tail _ (.tail _ (List.mem_append_right _ (.tail _ (.tail _ (.head _))))) | exact .tail _ (.tail _ (List.mem_append_right _ (.tail _ (.tail _ (.tail _ (.head _))))))) (by rfl))) ?_; simp only [Act.put, List.setIfInBounds_toArray, List.set_cons_succ, List.set_cons_zero]))
        go_ret
        exact ⟨rfl, hL.below⟩
      · have t3 : decide ((lines.length : Int) < 1) = false := by simp; omega
        by_cases h4 : 8 < lines.length
        · have e : validV lines dims = false := by unfold validV; simp; omega
          rw [e]
          have t4 : decide ((8 : Int) < lines.length) = true := by simp; omega
          go_enter Tryd.func11, Tryd.ntmps11
          go_wp2_with (first | (refine wpl_box hL rfl _ _ rfl (.int .i64 dims) rfl [.int .i64 dims] rfl ?_; clear hL; intro b w hL; simp only [Act.put, List.setIfInBounds_toArray, List.set_cons_succ, List.set_cons_zero]) | (refine wpl_run rfl (run_load_plain rfl p_int rfl (hL.at (by first | exact .head _ | exact .tail _ (.head _) | exact .tail _ (.tail _ (.head _)) | exact .tail _ (.tail _ (.tail _ (.head _))) | exact .tail _ (.tail _ (.tail _ (.tail _ (.head _)))) | exact .tail _ (.tail _ (.tail _ (.tail _ (.tail _ (.head _))))) | exact List.mem_append_right _ (.head _) | exact List.mem_append_right _ (.tail _ (.head _)) | exact List.mem_append_right _ (.tail _ (.tail _ (.head _))) | exact List.mem_append_right _ (.tail _ (.tail _ (.tail _ (.head _)))) | exact .tail _ (List.mem_append_right _ (.head _)) | exact .tail _ (List.mem_append_right _ (.tail _ (.head _))) | exact .tail _ (List.mem_append_right _ (.tail _ (.tail _ (.head _)))) | exact .tail _ (List.mem_append_right _ (.tail _ (.tail _ (.tail _ (.head _))))) | exact .tail _ (.tail _ (List.mem_append_right _ (.head _))) | exact .tail _ (.tail _ (List.mem_append_right _ (.tail _ (.head _)))) | exact .tail _ (.tail _ (List.mem_append_right _ (.tail _ (.tail _ (.head _))))) | exact .tail _ (.tail _ (List.mem_append_right _ (.tail _ (.tail _ (.tail _ (.head _))))))) (by rfl))) ?_; simp only [Act.put, List.setIfInBounds_toArray, List.set_cons_succ, List.set_cons_zero]))
          go_ret
          exact ⟨rfl, hL.below⟩
        · have t4 : decide ((8 : Int) < lines.length) = false := by simp; omega
          have e : validV lines dims = !lines.any (badRow dims) := by unfold validV; simp; omega
          rw [e]
          clear e
          have hcn := fun b w (hL : Sees w0 w [⟨b, 3, [.int .i64 dims]⟩]) => containsR_any (.func (.func 37) #[] #[.pointer (some ⟨b, 0, none⟩)]) (badRow dims) a cap lines w (fun a cap l hR hl => .of (by kernel_rfl) (bad_any b dims a cap l w (hL.at (.head _) rfl) hR hl)) (hR.sees hL)
          generalize lines.any (badRow dims) = q at hcn ⊢
          go_enter Tryd.func11, Tryd.ntmps11
          go_wp2_with (first | (refine wpl_box hL rfl _ _ rfl (.int .i64 dims) rfl [.int .i64 dims] rfl ?_; clear hL; intro b w hL; simp only [Act.put, List.setIfInBounds_toArray, List.set_cons_succ, List.set_cons_zero]) | (refine wpl_run rfl (run_load_plain rfl p_int rfl (hL.at (by first | exact .head _ | exact .tail _ (.head _) | exact .tail _ (.tail _ (.head _)) | exact .tail _ (.tail _ (.tail _ (.head _))) | exact .tail _ (.tail _ (.tail _ (.tail _ (.head _)))) | exact .tail _ (.tail _ (.tail _ (.tail _ (.tail _ (.head _))))) | exact List.mem_append_right _ (.head _) | exact List.mem_append_right _ (.tail _ (.head _)) | exact List.mem_append_right _ (.tail _ (.tail _ (.head _))) | exact List.mem_append_right _ (.tail _ (.tail _ (.tail _ (.head _)))) | exact .tail _ (List.mem_append_right _ (.head _)) | exact .tail _ (List.mem_append_right _ (.tail _ (.head _))) | exact .tail _ (List.mem_append_right _ (.tail _ (.tail _ (.head _)))) | exact .tail _ (List.mem_append_right _ (.tail _ (.tail _ (.tail _ (.head _))))) | exact .tail _ (.tail _ (List.mem_append_right _ (.head _))) | exact .tail _ (.tail _ (List.mem_append_right _ (.tail _ (.head _)))) | exact .tail _ (.tail _ (List.mem_append_right _ (.tail _ (.tail _ (.head _))))) | exact .tail _ (.tail _ (List.mem_append_right _ (.tail _ (.tail _ (.tail _ (.head _))))))) (by rfl))) ?_; simp only [Act.put, List.setIfInBounds_toArray, List.set_cons_succ, List.set_cons_zero]) | (go_at_call 36; refine (hcn _ _ hL).mono ?_; rintro e w ⟨rfl, rfl⟩))
          go_ret
          exact ⟨rfl, hL.below⟩
end Go.Proofs.YticponffemffnaaDoor
end
section
/- The functions over lines, ranges and vectors in the print's form: what each answers, and that it does. -/
set_option linter.unusedVariables false
set_option linter.unusedSimpArgs false
namespace Go.Proofs.YticponffemffnaaDoor.Ext
open Go Go.RowKit Go.Lx Go.Proofs.YticponffemffnaaDoor Go.Proofs.YticponffemffnaaDoor.P Go.Proofs.YticponffemffnaaDoorW.PrintWords
theorem if_some {α : Type} {p : Prop} [Decidable p] {x r : α} (h : (if p then some x else none) = some r) : p ∧ x = r := by
  split at h
  · exact ⟨by assumption, Option.some.inj h⟩
  · cases h
/-- every row fits into n places -/
def fitB (l : List (List Int)) (n : Nat) : Bool := l.all fun r => decide (r.length ≤ n)
theorem fitB_iff {l : List (List Int)} {n : Nat} (h : fitB l n = true) : ∀ r ∈ l, r.length ≤ n := fun r hr => of_decide_eq_true (List.all_eq_true.1 h r hr)

def project_Valid.f (l0 : List (List Int)) (a1 : Int) : Option (Bool) := some (validV l0 a1)
theorem project_Valid.calls (A0 : Option Addr) (c0 : Nat) (l0 : List (List Int)) (a1 : Int) (r : Bool) (w : World) (hr0 : Kd.C (Kd.slice 3 (Kd.int .i64)) w A0 l0.length l0) (hc0 : l0.length ≤ c0) (h : project_Valid.f l0 a1 = some r) :
    Calls Tryd.prog 11 #[.slice A0 l0.length c0, .int .i64 a1] w fun e w' => e = .returned (.bool r) ∧ Below w.heap.size w w' := by
  obtain rfl := Option.some.inj h
  exact valid_any A0 c0 l0 a1 w (rdM_of_C hr0)

def project_Apply.f (l0 : List (List Int)) (l1 : List Int) : Option (List Int) := if l0.length / 1000000 = 0 ∧ fitB l0 l1.length = true then some (applyV l0 l1) else none
theorem project_Apply.calls (A0 : Option Addr) (c0 : Nat) (l0 : List (List Int)) (A1 : Option Addr) (c1 : Nat) (l1 : List Int) (r : List Int) (w : World) (hr0 : Kd.C (Kd.slice 3 (Kd.int .i64)) w A0 l0.length l0) (hc0 : l0.length ≤ c0) (hr1 : Kd.C (Kd.int .i64) w A1 l1.length l1) (hc1 : l1.length ≤ c1) (h : project_Apply.f l0 l1 = some r) :
    Calls Tryd.prog 24 #[.slice A0 l0.length c0, .slice A1 l1.length c1] w fun e w' => ∃ v0_ : Value, e = .returned (v0_) ∧ Kd.R (Kd.int .i64) 3 w' w.heap.size (fun _ => True) v0_ r ∧ Below w.heap.size w w' := by
  obtain ⟨⟨h1, h2⟩, rfl⟩ := if_some h
  refine (apply_any _ _ l0 l1 w (rdM_of_C hr0) (rd_of_C hr1) (by omega) hr1.2.1 (fitB_iff h2)).mono ?_
  rintro e w' ⟨u, Lv, rfl, hM, hV⟩
  exact ⟨u, rfl, R_of_sl (h1 := fun _ => rfl) hV hM (fun _ h => h), hM.below⟩

def project_Of.f (l0 : List (List Int)) (l1 : List (List Int)) : Option ((List (S45))) := if l0.length / 1000000 = 0 ∧ l1.isEmpty = false ∧ (l1.all fun v => fitB l0 v.length) = true then some (ofV l0 l1) else none
theorem project_Of.calls (A0 : Option Addr) (c0 : Nat) (l0 : List (List Int)) (A1 : Option Addr) (c1 : Nat) (l1 : List (List Int)) (r : List (S45)) (w : World) (hr0 : Kd.C (Kd.slice 3 (Kd.int .i64)) w A0 l0.length l0) (hc0 : l0.length ≤ c0) (hr1 : Kd.C (Kd.slice 3 (Kd.int .i64)) w A1 l1.length l1) (hc1 : l1.length ≤ c1) (h : project_Of.f l0 l1 = some r) :
    Calls Tryd.prog 17 #[.slice A0 l0.length c0, .slice A1 l1.length c1] w fun e w' => ∃ v0_ : Value, e = .returned (v0_) ∧ Kd.R k45 45 w' w.heap.size (fun _ => True) v0_ r ∧ Below w.heap.size w w' := by
  obtain ⟨⟨h1, h2, h3⟩, rfl⟩ := if_some h
  cases l1 with
  | nil => cases h2
  | cons q qs =>
    refine (of_rng_any A0 c0 c1 A1 l0 q qs w (rdM_of_C hr0) (rdM_of_C hr1) hc1 (by omega) (fun v hv => fitB_iff (List.all_eq_true.1 h3 v hv))).mono ?_
    rintro e w' ⟨u, Lv, rfl, hM, hV⟩
    exact ⟨u, rfl, R_of_slK (d := k45) rngC (fun _ => rfl) (fun w base ok x => k45_mkM w base ok x) (ofAcc_len l0 q qs).symm hV hM (fun _ h => h), hM.below⟩

def project_Join.f (l0 : List (S45)) (l1 : List (S45)) : Option ((List (S45))) := if l0.length / 1000000 = 0 ∧ l1.length = l0.length then some (joinV l0 l1) else none
theorem project_Join.calls (A0 : Option Addr) (c0 : Nat) (l0 : List (S45)) (A1 : Option Addr) (c1 : Nat) (l1 : List (S45)) (r : List (S45)) (w : World) (hr0 : Kd.C k45 w A0 l0.length l0) (hc0 : l0.length ≤ c0) (hr1 : Kd.C k45 w A1 l1.length l1) (hc1 : l1.length ≤ c1) (h : project_Join.f l0 l1 = some r) :
    Calls Tryd.prog 22 #[.slice A0 l0.length c0, .slice A1 l1.length c1] w fun e w' => ∃ v0_ : Value, e = .returned (v0_) ∧ Kd.R k45 45 w' w.heap.size (fun _ => True) v0_ r ∧ Below w.heap.size w w' := by
  obtain ⟨⟨h1, h2⟩, rfl⟩ := if_some h
  refine (join_any A0 A1 c0 c1 l0 l1 w hr0 hr1 (by omega) h2).mono ?_
  rintro e w' ⟨u, Lv, rfl, hM, hV⟩
  exact ⟨u, rfl, R_of_slK (d := k45) rngC (fun _ => rfl) (fun w base ok x => k45_mkM w base ok x) (joinV_len l0 l1 h2).symm hV hM (fun _ h => h), hM.below⟩

def okAll (m : Int) (l1 : List (List Int)) (l2 : List (S45)) (l3 : List Int) : Bool := (l1.zip l2).all fun p => okG m (gapOf p.1 l3 p.2) p.1
def project_Bound.f (a0 : Int) (l1 : List (List Int)) (l2 : List (S45)) (l3 : List Int) : Option (Int) := if l1.length / 1000000 = 0 ∧ l1.length ≤ l2.length ∧ fitB l1 l3.length = true ∧ okAll a0 l1 l2 l3 = true then some (boundV a0 l1 l2 l3) else none
theorem project_Bound.calls (a0 : Int) (A1 : Option Addr) (c1 : Nat) (l1 : List (List Int)) (A2 : Option Addr) (c2 : Nat) (l2 : List (S45)) (A3 : Option Addr) (c3 : Nat) (l3 : List Int) (r : Int) (w : World) (hr1 : Kd.C (Kd.slice 3 (Kd.int .i64)) w A1 l1.length l1) (hc1 : l1.length ≤ c1) (hr2 : Kd.C k45 w A2 l2.length l2) (hc2 : l2.length ≤ c2) (hr3 : Kd.C (Kd.int .i64) w A3 l3.length l3) (hc3 : l3.length ≤ c3) (h : project_Bound.f a0 l1 l2 l3 = some r) :
    Calls Tryd.prog 32 #[.int .i64 a0, .slice A1 l1.length c1, .slice A2 l2.length c2, .slice A3 l3.length c3] w fun e w' => e = .returned (.int .i64 r) ∧ Below w.heap.size w w' := by
  obtain ⟨⟨h1, h2, h3, h4⟩, rfl⟩ := if_some h
  have hok : ∀ (k : Nat) (hk : k < l1.length), okG a0 (gapOf l1[k] l3 (l2[k]'(by omega))) l1[k] = true := fun k hk => by
    refine List.all_eq_true.1 h4 (l1[k], l2[k]'(by omega)) ?_
    rw [List.mem_iff_getElem]
    exact ⟨k, by simp; omega, by simp⟩
  rcases Decidable.em (a0 = 2) with e | e
  · exact bound2_any a0 e A1 A2 A3 c1 c2 c3 l1 l2 l3 w (rdM_of_C hr1) hr2 (rd_of_C hr3) (by omega) h2 hr3.2.1 (fitB_iff h3) hok
  · rcases Decidable.em (a0 = 3) with e' | e'
    · exact bound3_any a0 e' A1 A2 A3 c1 c2 c3 l1 l2 l3 w (rdM_of_C hr1) hr2 (rd_of_C hr3) (by omega) h2 hr3.2.1 (fitB_iff h3) hok
    · exact bound1_any a0 ⟨e, e'⟩ A1 A2 A3 c1 c2 c3 l1 l2 l3 w (rdM_of_C hr1) hr2 (rd_of_C hr3) (by omega) h2 hr3.2.1 (fitB_iff h3) hok

def vector_Key.f (a0 : Int) (l1 : List Int) (l2 : List Int) : Option (Int) := if l1.length / 1000000 = 0 ∧ l1.length ≤ l2.length ∧ (a0 = 1 ∨ a0 = 2 ∨ a0 = 3) then some (keyV a0 l1 l2) else none
theorem vector_Key.calls (a0 : Int) (A1 : Option Addr) (c1 : Nat) (l1 : List Int) (A2 : Option Addr) (c2 : Nat) (l2 : List Int) (r : Int) (w : World) (hr1 : Kd.C (Kd.int .i64) w A1 l1.length l1) (hc1 : l1.length ≤ c1) (hr2 : Kd.C (Kd.int .i64) w A2 l2.length l2) (hc2 : l2.length ≤ c2) (h : vector_Key.f a0 l1 l2 = some r) :
    Calls Tryd.prog 35 #[.int .i64 a0, .slice A1 l1.length c1, .slice A2 l2.length c2] w fun e w' => e = .returned (.int .i64 r) ∧ Below w.heap.size w w' := by
  obtain ⟨⟨h1, h2, h3⟩, rfl⟩ := if_some h
  exact key_any a0 h3 _ _ l1 l2 w (rd_of_C hr1) (rd_of_C hr2) (by omega) h2 hr2.2.1
end Go.Proofs.YticponffemffnaaDoor.Ext
end
