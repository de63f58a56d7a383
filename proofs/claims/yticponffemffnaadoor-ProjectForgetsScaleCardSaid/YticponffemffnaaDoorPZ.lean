/- One text out of: Ps, PLF. -/
import Derived.Test.YticponffemffnaaDoorPV
import Derived.Test.YticponffemffnaaDoorP4
import Derived.Test.YticponffemffnaaDoorP17
section
set_option linter.unusedVariables false
set_option linter.unusedSimpArgs false
namespace Go.Proofs.YticponffemffnaaDoor.Pure
open Go Go.RowKit Go.Lx Go.Proofs.YticponffemffnaaDoor Go.Proofs.YticponffemffnaaDoor.P Go.Proofs.YticponffemffnaaDoor.Ext Go.Proofs.YticponffemffnaaDoorW.PrintWords Go.Proofs.YticponffemffnaaDoorW.PrintLast
theorem sane : Ev (fun k => antiquarylaw07_sanity.f k) true := Ev.of antiquarylaw07_sanity.mono (k := 30) (by kernel_rfl)
theorem sane1 : Ev (fun k => (antiquarylaw07_sanity.f k).bind fun t => some t) true := Ev.bind sane (Ev.now true)
end Go.Proofs.YticponffemffnaaDoor.Pure
end
section
/- Lines and ranges, multiplied: Bound stays; fewer lines: Bound is not greater. -/
set_option linter.unusedVariables false
set_option linter.unusedSimpArgs false
namespace Go.Proofs.YticponffemffnaaDoor.Pure
open Go Go.RowKit Go.Lx Go.Proofs.YticponffemffnaaDoor Go.Proofs.YticponffemffnaaDoor.P Go.Proofs.YticponffemffnaaDoor.Ext Go.Proofs.YticponffemffnaaDoorW.PrintWords Go.Proofs.YticponffemffnaaDoorW.PrintLast

def mulL (c : Int) (l : List Int) : List Int := l.map fun x => c * x
def mulR (c : Int) (r : S45) : S45 := ⟨c * r.f0, c * r.f1⟩
theorem mulL_len (c : Int) (l : List Int) : (mulL c l).length = l.length := by simp [mulL]
theorem mul_le_iff {c a b : Int} (hc : 0 < c) : c * a ≤ c * b ↔ a ≤ b := ⟨fun h => Int.le_of_mul_le_mul_left h hc, fun h => Int.mul_le_mul_of_nonneg_left h (by omega)⟩
theorem mx_mul {c : Int} (hc : 0 < c) (a b : Int) : mx (c * a) (c * b) = c * mx a b := by
  unfold mx
  have h := @mul_le_iff c b a hc
  split <;> split
  · rfl
  · omega
  · omega
  · rfl
theorem absI_mulc {c : Int} (hc : 0 < c) (a : Int) : absI (c * a) = c * absI a := by
  rw [show absI (c * a) = absI c * absI a from by
    unfold absI
    rcases Int.lt_or_le a 0 with ha | ha
    · have : c * a < 0 := Int.mul_neg_of_pos_of_neg hc ha
      rw [if_pos this, if_neg (show ¬ c < 0 by omega), if_pos ha, Int.mul_neg]
    · have : 0 ≤ c * a := Int.mul_nonneg (by omega) ha
      rw [if_neg (show ¬ c * a < 0 by omega), if_neg (show ¬ c < 0 by omega), if_neg (show ¬ a < 0 by omega)]]
  congr 1
  unfold absI; rw [if_neg (by omega)]
theorem dot_mul (c : Int) : ∀ (l q : List Int), dotE (mulL c l) q = c * dotE l q
  | [], q => by simp [mulL, dotE]
  | a :: l, [] => by simp [mulL, dotE]
  | a :: l, b :: q => by
    have ih := dot_mul c l q
    unfold mulL at ih ⊢
    simp only [List.map_cons, dotE, ih, Int.mul_add, Int.mul_assoc]
theorem sum_mul {c : Int} (hc : 0 < c) : ∀ l : List Int, sumE (mulL c l) = c * sumE l
  | [] => by simp [mulL, sumE]
  | a :: l => by
    have ih := sum_mul hc l
    unfold mulL at ih ⊢
    simp only [List.map_cons, sumE, ih, absI_mulc hc, Int.mul_add]
theorem sq_mul (c : Int) : ∀ l : List Int, sqE (mulL c l) = c * c * sqE l
  | [] => by simp [mulL, sqE]
  | a :: l => by
    have ih := sq_mul c l
    unfold mulL at ih ⊢
    simp only [List.map_cons, sqE, ih, Int.mul_add]
    rw [show c * a * (c * a) = c * c * (a * a) from by grind]
theorem max_mul {c : Int} (hc : 0 < c) : ∀ l : List Int, maxE (mulL c l) = c * maxE l
  | [] => by simp [mulL, maxE]
  | a :: l => by
    have ih := max_mul hc l
    unfold mulL at ih ⊢
    simp only [List.map_cons, maxE, ih, absI_mulc hc, mx_mul hc]
theorem up_mul {c n b : Int} (hc : 0 < c) (hb : 0 < b) : upV (c * n) (c * b) = upV n b := by
  unfold upV
  rw [← Int.ediv_ediv_of_nonneg (show 0 ≤ c by omega), show c * n + c * b - 1 = (c - 1) + c * (n + b - 1) from by grind, Int.add_mul_ediv_left _ _ (show c ≠ 0 by omega), Int.ediv_eq_zero_of_lt (a := c - 1) (b := c) (by omega) (by omega), Int.zero_add]
theorem gap_mul {c : Int} (hc : 0 < c) (l q : List Int) (r : S45) : gapX (mulL c l) q (mulR c r) = c * gapX l q r := by
  unfold gapX mulR
  rw [dot_mul]
  simp only
  rw [← Int.mul_sub, ← Int.mul_sub, show (0 : Int) = c * 0 from by simp, mx_mul hc, mx_mul hc]
  simp
theorem nrm_exact {l : List Int} {n : Nat} (h : Line l n) (m : Int) : nrm m l = if m = 2 then sqE l else if m = 3 then sumE l else maxE l := by
  unfold nrm
  rw [(line_norm h 1).1, (line_norm h 2).1, (line_norm h 3).1]
  rfl
theorem one_mul' {c : Int} (hc : 0 < c) {l q : List Int} {n : Nat} (h : Line l n) (h' : Line (mulL c l) n) (hq : ∀ x ∈ q, -1000 ≤ x ∧ x ≤ 1000) (r : S45) (hr : rightI r) (hr' : rightI (mulR c r)) (m : Int) : oneV m q (mulL c l) (mulR c r) = oneV m q l r := by
  rw [one_exact h hq r hr, one_exact h' hq _ hr', gap_mul hc]
  have hp := (nrm_line h m).1
  rw [nrm_exact h] at hp ⊢
  rw [nrm_exact h', sum_mul hc, sq_mul, max_mul hc]
  by_cases h2 : m = 2
  · rw [if_pos h2, if_pos h2, if_pos h2, if_pos h2, show c * gapX l q r * (c * gapX l q r) = c * c * (gapX l q r * gapX l q r) from by grind]
    rw [if_pos h2] at hp
    exact up_mul (Int.mul_pos hc hc) hp
  · rw [if_neg h2, if_neg h2, if_neg h2, if_neg h2]
    rw [if_neg h2] at hp
    by_cases h3 : m = 3
    · rw [if_pos h3, if_pos h3]
      rw [if_pos h3] at hp
      exact up_mul hc hp
    · rw [if_neg h3, if_neg h3]
      rw [if_neg h3] at hp
      exact up_mul hc hp
def mulLs (c : Int) (lines : List (List Int)) : List (List Int) := lines.map (mulL c)
def mulRs (c : Int) (r : List S45) : List S45 := r.map (mulR c)
theorem mulLs_at (c : Int) (lines : List (List Int)) (i : Nat) (h : i < (mulLs c lines).length) (h' : i < lines.length) : (mulLs c lines)[i] = mulL c lines[i] := List.getElem_map (mulL c)
theorem mulRs_at (c : Int) (r : List S45) (i : Nat) (h : i < (mulRs c r).length) (h' : i < r.length) : (mulRs c r)[i] = mulR c r[i] := List.getElem_map (mulR c)
theorem mulRs_right {c : Int} (h1 : 1 ≤ c) (h16 : c ≤ 16) {r : List S45} (hr : right r) (hs : ∀ (j : Nat) (h : j < r.length), -67108864 ≤ r[j].f0 ∧ r[j].f1 ≤ 67108864) : right (mulRs c r) := by
  intro x hx
  obtain ⟨y, hy, rfl⟩ := List.mem_map.1 hx
  obtain ⟨j, hj, rfl⟩ := List.mem_iff_getElem.1 hy
  have h2 := hs j hj
  have h3 := hr _ (List.getElem_mem hj)
  have e0 := mul_le' (x := c) (y := r[j].f0) (a := 16) (b := 67108864) (by omega) (by omega) (by omega)
  have e1 := mul_le' (x := c) (y := r[j].f1) (a := 16) (b := 67108864) (by omega) (by omega) (by omega)
  have e2 := (@mul_le_iff c r[j].f0 r[j].f1 (by omega)).2 h3.2.1
  show -1073741824 ≤ c * r[j].f0 ∧ c * r[j].f0 ≤ c * r[j].f1 ∧ c * r[j].f1 ≤ 1073741824
  omega
theorem bound_mul {c : Int} (h1 : 1 ≤ c) (h16 : c ≤ 16) {lines : List (List Int)} {q : List Int} (hs : Sett lines q) (hs' : Sett (mulLs c lines) q) {r : List S45} (hr : right r) (hr' : right (mulRs c r)) (m : Int) : boundV m (mulLs c lines) (mulRs c r) q = boundV m lines r q := by
  have e : ∀ (i : Nat) (a : i < lines.length) (b : i < r.length), oneV m q (mulL c lines[i]) (mulR c r[i]) = oneV m q lines[i] r[i] := fun i a b =>
    one_mul' (by omega) (hs.line _ (List.getElem_mem a)) (hs'.line _ (List.mem_map.2 ⟨_, List.getElem_mem a, rfl⟩)) hs.bd _ (hr _ (List.getElem_mem b)) (hr' _ (List.mem_map.2 ⟨_, List.getElem_mem b, rfl⟩)) m
  refine Int.le_antisymm (bound_le bound_nn fun i a b => ?_) (bound_le bound_nn fun i a b => ?_)
  · have a' : i < lines.length := by simpa [mulLs] using a
    have b' : i < r.length := by simpa [mulRs] using b
    rw [mulLs_at c lines i a a', mulRs_at c r i b b', e i a' b']
    exact bound_ge i a' b'
  · rw [← e i a b, ← mulLs_at c lines i (by simpa [mulLs] using a) a, ← mulRs_at c r i (by simpa [mulRs] using b) b]
    exact bound_ge i _ _
theorem bound_take {m : Int} {lines : List (List Int)} {r : List S45} {q : List Int} : boundV m (lines.take 1) (r.take 1) q ≤ boundV m lines r q := by
  refine bound_le bound_nn fun i a b => ?_
  rw [List.getElem_take, List.getElem_take]
  exact bound_ge i (by simp at a; omega) (by simp at b; omega)
/-! ### the walk's loops -/
theorem scale_in {lines : List (List Int)} {r : List S45} {q : List Int} (hs : Sett lines q) (m c : Int) (h1 : 1 ≤ c) (h16 : c ≤ 16) (i : Nat) (hi : i < lines.length) (X12 : List (List Int)) (X13 : List S45)
    (hend : Ev (fun k => antiquarylaw07_ProjectForgetsScale.l1 k m lines r q c X12 X13 (i : Int) (mulL c lines[i]) lines (lines.length : Int) (i : Int) lines[i] (lines[i].length : Int) (lines[i].length : Int)) true) (d : Nat) :
    ∀ j : Nat, lines[i].length - j = d → j ≤ lines[i].length → Ev (fun k => antiquarylaw07_ProjectForgetsScale.l1 k m lines r q c X12 X13 (i : Int) ((mulL c lines[i]).take j) lines (lines.length : Int) (i : Int) lines[i] (lines[i].length : Int) (j : Int)) true := by
  have hL := hs.line _ (List.getElem_mem hi)
  have hlen := hL.len
  have hdim := hL.dim
  have hml := mulL_len c lines[i]
  induction d with
  | zero =>
    intro j hd hj
    rw [List.take_of_length_le (by omega)]
    obtain rfl : j = lines[i].length := by omega
    exact hend
  | succ d ih =>
    intro j hd hj
    have hlt : j < lines[i].length := by omega
    have hx := hL.bd _ (List.getElem_mem hlt)
    have hnext := ih (j + 1) (by omega) (by omega)
    have e : (mulL c lines[i])[j]'(by omega) = c * lines[i][j] := List.getElem_map (fun x => c * x)
    have hb := mul_le' (x := c) (y := lines[i][j]) (a := 16) (b := 16) (by omega) hx (by omega)
    rw [List.take_succ_eq_append_getElem (show j < (mulL c lines[i]).length by omega), e] at hnext
    refine Ev.step (fun k => ?_) hnext
    simp only [antiquarylaw07_ProjectForgetsScale.l1]
    rw [if_pos (by omega), if_pos (by omega), if_pos (by omega), rd_at lines[i] j hlt, w64 (n := c * lines[i][j]) (by omega) (by omega), wr j lines[i].length hlt (by unfold big; omega)]
    simp only [Option.bind_some, List.length_cons, List.length_nil, List.length_take]
    rw [if_pos (by omega)]
theorem scale_l {lines : List (List Int)} {r : List S45} {q : List Int} (hs : Sett lines q) (hr : right r) (hl : r.length = lines.length) (m c : Int) (h1 : 1 ≤ c) (h16 : c ≤ 16) (d : Nat) : ∀ i : Nat, lines.length - i = d → i ≤ lines.length → (∀ (j : Nat) (h : j < r.length), j < i → -67108864 ≤ r[j].f0 ∧ r[j].f1 ≤ 67108864) →
    Ev (fun k => antiquarylaw07_ProjectForgetsScale.l0 k m lines r q c ((mulLs c lines).take i) ((mulRs c r).take i) lines (lines.length : Int) (i : Int)) true := by
  have h8 := hs.le8
  have h0 := hs.ge1
  have ll : (mulLs c lines).length = lines.length := by simp [mulLs]
  have lr : (mulRs c r).length = r.length := by simp [mulRs]
  induction d with
  | zero =>
    intro i hd hi hsm
    rw [List.take_of_length_le (by omega), List.take_of_length_le (by omega)]
    have hs1 : Sett (lines.take 1) q := ⟨fun l hl => hs.line l (List.mem_of_mem_take hl), by simp; omega, by simp; omega, hs.bd⟩
    have hr1 : right (r.take 1) := fun x hx => hr x (List.mem_of_mem_take hx)
    have b1 := bound_f hs r hr (by omega) m
    have b2 := bound_f hs1 (r.take 1) hr1 (by simp; omega) m
    have hle := bound_take (m := m) (lines := lines) (r := r) (q := q)
    refine Ev.step (f := fun k => _) (fun k => by simp only [antiquarylaw07_ProjectForgetsScale.l0]; rfl) ?_
    simp only [if_neg (show ¬ (i : Int) < (lines.length : Int) by omega), b1, b2, Option.bind_some, if_pos (show (1 : Int) ≤ (lines.length : Int) by omega), if_pos (show (1 : Int) ≤ (r.length : Int) by omega), if_neg (show ¬ boundV m (lines.take 1) (r.take 1) q > boundV m lines r q by omega)]
    refine Ev.bind sane ?_
    simp only [if_true, project_Valid.f, Option.bind_some]
    cases e : validV (mulLs c lines) (q.length : Int)
    · simpa using Ev.now true
    · obtain ⟨_, _, hline⟩ := valid_line e
      have hs' : Sett (mulLs c lines) q := ⟨hline, by omega, by omega, hs.bd⟩
      have hr' := mulRs_right h1 h16 hr fun j hj => hsm j hj (by omega)
      simp only [if_true, bound_f hs' (mulRs c r) hr' (by omega) m, Option.bind_some, bound_mul h1 h16 hs hs' hr hr' m, beq_self_eq_true]
      exact Ev.now true
  | succ d ih =>
    intro i hd hi hsm
    have hlt : i < lines.length := by omega
    have hlt2 : i < r.length := by omega
    have er := rr_at r i hlt2
    have hL := hs.line _ (List.getElem_mem hlt)
    have hlen := hL.len
    have hdim := hL.dim
    refine Ev.step (f := fun k => antiquarylaw07_ProjectForgetsScale.l1 k m lines r q c ((mulLs c lines).take i) ((mulRs c r).take i) (i : Int) [] lines (lines.length : Int) (i : Int) lines[i] (lines[i].length : Int) 0) (fun k => ?_) ?_
    · simp only [antiquarylaw07_ProjectForgetsScale.l0]
      rw [if_pos (by omega), if_pos (by omega), if_pos (by omega), rl_at lines i hlt]
    refine scale_in hs m c h1 h16 i hlt _ _ ?_ lines[i].length 0 (by omega) (by omega)
    by_cases c1 : r[i].f0 < -67108864
    · refine Ev.to (fun k => ?_) sane1 rfl
      simp only [antiquarylaw07_ProjectForgetsScale.l1]
      rw [if_neg (by omega), if_pos (by omega), if_pos (by omega), er, if_pos c1]
    by_cases c2 : r[i].f1 > 67108864
    · refine Ev.to (fun k => ?_) sane1 rfl
      simp only [antiquarylaw07_ProjectForgetsScale.l1]
      rw [if_neg (by omega), if_pos (by omega), if_pos (by omega), er, if_neg c1, if_pos c2]
    have hnext := ih (i + 1) (by omega) (by omega) fun j hj hji => by
      rcases Nat.lt_or_ge j i with h | h
      · exact hsm j hj h
      · obtain rfl : j = i := by omega
        omega
    have hr3 := hr _ (List.getElem_mem hlt2)
    have e0 := mul_le' (x := c) (y := r[i].f0) (a := 16) (b := 67108864) (by omega) (by omega) (by omega)
    have e1 := mul_le' (x := c) (y := r[i].f1) (a := 16) (b := 67108864) (by omega) (by omega) (by omega)
    rw [List.take_succ_eq_append_getElem (show i < (mulLs c lines).length by omega), List.take_succ_eq_append_getElem (show i < (mulRs c r).length by omega), mulLs_at c lines i _ hlt, mulRs_at c r i _ hlt2] at hnext
    refine Ev.step (fun k => ?_) hnext
    simp only [antiquarylaw07_ProjectForgetsScale.l1]
    rw [if_neg (by omega), if_pos (by omega), if_pos (by omega), er, if_neg c1, if_neg c2, w64 (n := c * r[i].f0) (by omega) (by omega), w64 (n := c * r[i].f1) (by omega) (by omega), wr i lines.length hlt (by unfold big; omega)]
    simp only [Option.bind_some, List.length_cons, List.length_nil, List.length_take]
    rw [if_pos (by omega), if_pos (by omega)]
    rfl
theorem forgets (m : Int) (lines : List (List Int)) (r : List S45) (q : List Int) (a : Int) (h1 : lines.length ≤ big) (h2 : ∀ l ∈ lines, l.length ≤ big) (h3 : r.length ≤ big) (h4 : q.length ≤ big) (ha : 0 ≤ a ∧ a ≤ 255) :
    Ev (fun k => antiquarylaw07_ProjectForgetsScale.f k m lines r q a) true := by
  have ht : Ev (fun k => antiquarylaw07_ProjectForgetsScale.j0 k m lines r q a true) true := Ev.to (fun k => by simp only [antiquarylaw07_ProjectForgetsScale.j0]; rfl) sane1 rfl
  unfold antiquarylaw07_ProjectForgetsScale.f
  refine Ev.bind (v04_f q h4) ?_
  cases e1 : v04 q
  · simpa using ht
  simp only [if_true]
  refine Ev.bind (valid_f lines _ h1 h2) ?_
  cases e2 : validV lines (q.length : Int)
  · simpa using ht
  simp only [if_true]
  refine Ev.bind (ranges_f r _ h3) ?_
  cases e3 : rangesB r (lines.length : Int)
  · simpa using ht
  simp only [if_true, metric_f]
  cases e4 : metB m
  · simpa using ht
  have hlen := (rangesB_iff e3).1
  have hc : 1 ≤ wrap64 (1 + Int.tmod (wrap64 a) 16) ∧ wrap64 (1 + Int.tmod (wrap64 a) 16) ≤ 16 := by
    rw [w64 (n := a) (by omega) (by omega), Int.tmod_eq_emod_of_nonneg ha.1, w64 (by omega) (by omega)]
    omega
  simp only [Option.bind_some, Bool.not_true]
  refine Ev.step (f := fun k => _) (fun k => by simp only [antiquarylaw07_ProjectForgetsScale.j0]; rfl) ?_
  simp only [Bool.false_eq_true, if_false]
  exact scale_l (sett e1 e2) (right_of e3) (by omega) m _ hc.1 hc.2 lines.length 0 (by omega) (by omega) fun j _ h => absurd h (Nat.not_lt_zero _)
end Go.Proofs.YticponffemffnaaDoor.Pure
end
