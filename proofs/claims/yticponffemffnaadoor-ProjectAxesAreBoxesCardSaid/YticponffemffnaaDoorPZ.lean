/- One text out of: Ps, PLA. -/
import Derived.Test.YticponffemffnaaDoorPV
import Derived.Test.YticponffemffnaaDoorP4
import Derived.Test.YticponffemffnaaDoorP20
section
set_option linter.unusedVariables false
set_option linter.unusedSimpArgs false
namespace Go.Proofs.YticponffemffnaaDoor.Pure
open Go Go.RowKit Go.Lx Go.Proofs.YticponffemffnaaDoor Go.Proofs.YticponffemffnaaDoor.P Go.Proofs.YticponffemffnaaDoor.Ext Go.Proofs.YticponffemffnaaDoorW.PrintWords Go.Proofs.YticponffemffnaaDoorW.PrintLast
theorem sane : Ev (fun k => antiquarylaw07_sanity.f k) true := Ev.of antiquarylaw07_sanity.mono (k := 30) (by kernel_rfl)
theorem sane1 : Ev (fun k => (antiquarylaw07_sanity.f k).bind fun t => some t) true := Ev.bind sane (Ev.now true)
end Go.Proofs.YticponffemffnaaDoor.Pure
end
section
/- The axes as lines: Bound is the distance to the box. -/
set_option linter.unusedVariables false
set_option linter.unusedSimpArgs false
namespace Go.Proofs.YticponffemffnaaDoor.Pure
open Go Go.RowKit Go.Lx Go.Proofs.YticponffemffnaaDoor Go.Proofs.YticponffemffnaaDoor.P Go.Proofs.YticponffemffnaaDoor.Ext Go.Proofs.YticponffemffnaaDoorW.PrintWords Go.Proofs.YticponffemffnaaDoorW.PrintLast

def axis (n i : Nat) : List Int := (List.replicate n 0).set i 1
theorem axis_len (n i : Nat) : (axis n i).length = n := by simp [axis]
theorem dot_zeros : ∀ (n : Nat) (v : List Int), dotE (List.replicate n 0) v = 0
  | 0, v => by simp [dotE]
  | n + 1, [] => by simp [List.replicate_succ, dotE]
  | n + 1, x :: v => by simp [List.replicate_succ, dotE, dot_zeros n v]
theorem sum_zeros : ∀ n : Nat, sumE (List.replicate n 0) = 0
  | 0 => rfl
  | n + 1 => by simp [List.replicate_succ, sumE, sum_zeros n, absI]
theorem dot_axis : ∀ (n i : Nat) (v : List Int) (hv : v.length = n) (hi : i < n), dotE (axis n i) v = v[i]'(by omega)
  | 0, i, v, hv, hi => absurd hi (Nat.not_lt_zero _)
  | n + 1, i, [], hv, hi => by simp at hv
  | n + 1, 0, x :: v, hv, hi => by simp [axis, List.replicate_succ, dotE, dot_zeros]
  | n + 1, i + 1, x :: v, hv, hi => by
    have ih := dot_axis n i v (by simpa using hv) (by omega)
    unfold axis at ih
    simp [axis, List.replicate_succ, dotE, ih]
theorem sum_axis : ∀ (n i : Nat) (hi : i < n), sumE (axis n i) = 1
  | 0, i, hi => absurd hi (Nat.not_lt_zero _)
  | n + 1, 0, hi => by simp [axis, List.replicate_succ, sumE, sum_zeros, absI]
  | n + 1, i + 1, hi => by
    have ih := sum_axis n i (by omega)
    unfold axis at ih
    simp [axis, List.replicate_succ, sumE, ih, absI]
theorem axis_line (n i : Nat) (hi : i < n) (hn : n ≤ 32) : Line (axis n i) n := by
  refine ⟨axis_len n i, ⟨by omega, hn⟩, fun x hx => ?_, ⟨1, ?_, by decide⟩⟩
  · unfold axis at hx
    rcases List.mem_or_eq_of_mem_set hx with h | rfl
    · have := List.eq_of_mem_replicate h; omega
    · omega
  · rw [List.mem_iff_getElem]
    exact ⟨i, by rw [axis_len]; exact hi, by unfold axis; rw [List.getElem_set_self]⟩
def axes (n : Nat) : List (List Int) := (List.range n).map (axis n)
theorem axes_len (n : Nat) : (axes n).length = n := by simp [axes]
theorem axes_at (n i : Nat) (h : i < (axes n).length) : (axes n)[i] = axis n i := by
  have : (axes n)[i]? = some (axis n i) := by rw [axes_len] at h; simp [axes, h]
  rw [List.getElem?_eq_getElem h] at this
  exact Option.some.inj this
def clampR (x : Int) (r : S45) : Int := mn (mx x r.f0) r.f1
def near (q : List Int) (r : List S45) : List Int := List.zipWith clampR q r
theorem near_len (q : List Int) (r : List S45) (h : r.length = q.length) : (near q r).length = q.length := by simp [near]; omega
theorem near_at (q : List Int) (r : List S45) (i : Nat) (h : i < (near q r).length) (h1 : i < q.length) (h2 : i < r.length) : (near q r)[i] = clampR q[i] r[i] := List.getElem_zipWith (f := clampR)
theorem axes_set {q : List Int} (h1 : 1 ≤ q.length) (h8 : q.length ≤ 8) (hq : ∀ x ∈ q, -1000 ≤ x ∧ x ≤ 1000) (v : List Int) (hv : v.length = q.length) (hb : ∀ x ∈ v, -1000 ≤ x ∧ x ≤ 1000) : Sett (axes q.length) v := by
  refine ⟨fun l hl => ?_, by rw [axes_len]; exact h8, by rw [axes_len]; exact h1, hb⟩
  obtain ⟨i, hi, rfl⟩ := List.mem_map.1 hl
  rw [List.mem_range] at hi
  rw [hv]
  exact axis_line _ i hi (by omega)
theorem near_bd {q : List Int} {r : List S45} (hl : r.length = q.length) (hr : right r) (hs : ∀ (j : Nat) (h : j < r.length), -1000 ≤ r[j].f0 ∧ r[j].f1 ≤ 1000) : ∀ x ∈ near q r, -1000 ≤ x ∧ x ≤ 1000 := by
  intro x hx
  obtain ⟨i, hi, rfl⟩ := List.mem_iff_getElem.1 hx
  have hi2 := hi
  rw [near_len q r hl] at hi2
  rw [near_at q r i hi hi2 (by omega)]
  have h1 := hs i (by omega)
  have h2 := hr _ (List.getElem_mem (l := r) (n := i) (by omega))
  unfold clampR mn mx
  split <;> split <;> omega
theorem near_has {q : List Int} {r : List S45} (h1 : 1 ≤ q.length) (h8 : q.length ≤ 8) (hq : ∀ x ∈ q, -1000 ≤ x ∧ x ≤ 1000) (hl : r.length = q.length) (hr : right r) (hs : ∀ (j : Nat) (h : j < r.length), -1000 ≤ r[j].f0 ∧ r[j].f1 ≤ 1000) : hasB r (applyV (axes q.length) (near q r)) = true := by
  have hnl := near_len q r hl
  have hnb := near_bd hl hr hs
  rw [hasB_iff]
  intro i a1 a2
  rw [applyV_at, axes_at]
  have hi : i < q.length := by omega
  rw [(line_dot (axis_line q.length i hi (by omega)) 1000 (by omega) (by omega) hnb).1, dot_axis _ _ _ hnl hi, near_at q r i (by omega) hi a1]
  have h2 := hr _ (List.getElem_mem a1)
  unfold inR clampR mn mx
  simp only [Bool.and_eq_true, decide_eq_true_eq]
  split <;> split <;> omega
theorem maxE_le' (B : Int) (hB : 0 ≤ B) : ∀ l : List Int, (∀ x ∈ l, absI x ≤ B) → maxE l ≤ B
  | [], _ => by simpa [maxE] using hB
  | a :: s, h => by
    have := maxE_le' B hB s fun x hx => h x (.tail _ hx)
    have := h a (.head _)
    simp only [maxE]; unfold mx; split <;> omega
theorem box3 {q : List Int} {r : List S45} (h1 : 1 ≤ q.length) (h8 : q.length ≤ 8) (hq : ∀ x ∈ q, -1000 ≤ x ∧ x ≤ 1000) (hl : r.length = q.length) (hr : right r) (hs : ∀ (j : Nat) (h : j < r.length), -1000 ≤ r[j].f0 ∧ r[j].f1 ≤ 1000) : keyV 3 q (near q r) ≤ boundV 3 (axes q.length) r q := by
  have hnl := near_len q r hl
  have hnb := near_bd hl hr hs
  rw [key_exact 3 q (near q r) (by omega) hq hnb]
  show maxE _ ≤ _
  refine maxE_le' _ bound_nn _ fun x hx => ?_
  obtain ⟨i, hi, rfl⟩ := List.mem_iff_getElem.1 hx
  have hi2 : i < q.length ∧ i < (near q r).length := by unfold subE at hi; simp at hi; omega
  have e : (subE q (near q r))[i] = q[i]'hi2.1 - (near q r)[i]'hi2.2 := List.getElem_zipWith (f := fun x y : Int => x - y)
  have hr2 := hr _ (List.getElem_mem (l := r) (n := i) (by omega))
  have hax := axis_line q.length i hi2.1 (by omega)
  have hb := bound_ge (m := 3) (lines := axes q.length) (r := r) (q := q) i (by rw [axes_len]; exact hi2.1) (by omega)
  rw [axes_at, one_exact hax hq _ hr2 3, if_neg (by decide)] at hb
  have hn : nrm 3 (axis q.length i) = 1 := by show normV 1 _ = _; rw [(line_norm hax 1).1]; exact sum_axis _ _ hi2.1
  rw [hn] at hb
  have hup : ∀ n : Int, upV n 1 = n := fun n => by unfold upV; rw [Int.ediv_one]; omega
  rw [hup] at hb
  refine Int.le_trans ?_ hb
  unfold gapX
  rw [dot_axis _ _ _ rfl hi2.1, e, near_at q r i hi2.2 hi2.1 (by omega)]
  unfold absI clampR mn mx
  split <;> split <;> split <;> split <;> split <;> omega
theorem axes_take (n i : Nat) (h : i < n) : (axes n).take (i + 1) = (axes n).take i ++ [axis n i] := by
  rw [List.take_succ_eq_append_getElem (by rw [axes_len]; exact h), axes_at]
theorem axes_l {q : List Int} {r : List S45} (h1 : 1 ≤ q.length) (h8 : q.length ≤ 8) (hq : ∀ x ∈ q, -1000 ≤ x ∧ x ≤ 1000) (hl : r.length = q.length) (hr : right r) (m : Int) (hm : m = 1 ∨ m = 2 ∨ m = 3) (d : Nat) : ∀ i : Nat, q.length - i = d → i ≤ q.length → (∀ (j : Nat) (h : j < r.length), j < i → -1000 ≤ r[j].f0 ∧ r[j].f1 ≤ 1000) →
    Ev (fun k => antiquarylaw07_ProjectAxesAreBoxes.l0 k m r q ((axes q.length).take i) ((near q r).take i) (q.length : Int) (i : Int)) true := by
  have hnl := near_len q r hl
  have hxl := axes_len q.length
  induction d with
  | zero =>
    intro i hd hi hs
    have hs' : ∀ (j : Nat) (h : j < r.length), -1000 ≤ r[j].f0 ∧ r[j].f1 ≤ 1000 := fun j h => hs j h (by omega)
    have hnb := near_bd hl hr hs'
    have sq := axes_set h1 h8 hq q rfl hq
    have sn := axes_set h1 h8 hq (near q r) hnl hnb
    have hh := near_has h1 h8 hq hl hr hs'
    have hle := t9 sq sn hnl.symm r hr (by omega) m hm hh
    have bf := bound_f sq r hr (by omega) m
    have kf := keyP_f m q (near q r) (by omega) (by omega) hm
    have af := applyP_f sn
    have hf := has_f r (applyV (axes q.length) (near q r)) (by unfold big; omega) (by rw [applyV_len]; omega)
    rw [hh] at hf
    refine Ev.step (f := fun k => _) (fun k => by simp only [antiquarylaw07_ProjectAxesAreBoxes.l0]; rfl) ?_
    rw [List.take_of_length_le (by omega), List.take_of_length_le (by omega)]
    simp only [if_neg (show ¬ (i : Int) < (q.length : Int) by omega), bf, kf, Option.bind_some]
    refine Ev.bind sane ?_
    simp only [if_true, if_pos hle, af, Option.bind_some]
    by_cases h3 : m = 3
    · subst h3
      have := box3 h1 h8 hq hl hr hs'
      simp only [if_true, if_pos (show boundV 3 (axes q.length) r q = keyV 3 q (near q r) by omega)]
      exact Ev.bind hf (Ev.now true)
    · simp only [if_neg h3]
      exact Ev.bind hf (Ev.now true)
  | succ d ih =>
    intro i hd hi hs
    have hlt : i < q.length := by omega
    have hlt2 : i < r.length := by omega
    have er := rr_at r i hlt2
    have eq := rd_at q i hlt
    by_cases c1 : r[i].f0 < -1000
    · refine Ev.to (fun k => ?_) sane1 rfl
      simp only [antiquarylaw07_ProjectAxesAreBoxes.l0]
      rw [if_pos (by omega), if_pos (by omega), if_pos (by omega), er, if_pos c1]
    by_cases c2 : r[i].f1 > 1000
    · refine Ev.to (fun k => ?_) sane1 rfl
      simp only [antiquarylaw07_ProjectAxesAreBoxes.l0]
      rw [if_pos (by omega), if_pos (by omega), if_pos (by omega), er, if_neg c1, if_pos c2]
    have hnext := ih (i + 1) (by omega) (by omega) fun j hj hji => by
      rcases Nat.lt_or_ge j i with h | h
      · exact hs j hj h
      · obtain rfl : j = i := by omega
        omega
    rw [axes_take _ _ hlt, List.take_succ_eq_append_getElem (show i < (near q r).length by omega), near_at q r i (by omega) hlt hlt2] at hnext
    refine Ev.step (fun k => ?_) hnext
    simp only [antiquarylaw07_ProjectAxesAreBoxes.l0]
    rw [if_pos (by omega), if_pos (by omega), if_pos (by omega), er, if_neg c1, if_neg c2, if_pos (by omega), if_pos (by omega), wr i q.length hlt (by unfold big; omega)]
    simp only [Option.bind_some, List.length_replicate, List.length_cons, List.length_nil, List.length_take, Int.toNat_natCast, eq]
    rw [if_pos (by omega), if_pos (by omega), if_pos (by omega), if_pos (by omega)]
    rfl
theorem axesare (m : Int) (r : List S45) (q : List Int) (h3 : r.length ≤ big) (h4 : q.length ≤ big) : Ev (fun k => antiquarylaw07_ProjectAxesAreBoxes.f k m r q) true := by
  have ht : Ev (fun k => antiquarylaw07_ProjectAxesAreBoxes.j0 k m r q true) true := Ev.to (fun k => by simp only [antiquarylaw07_ProjectAxesAreBoxes.j0]; rfl) sane1 rfl
  unfold antiquarylaw07_ProjectAxesAreBoxes.f
  refine Ev.bind (v04_f q h4) ?_
  cases e1 : v04 q
  · simpa using ht
  obtain ⟨v1, v2, v3⟩ := v04_iff e1
  simp only [if_true]
  by_cases c : (q.length : Int) > 8
  · simp only [if_pos c]; exact ht
  simp only [if_neg c]
  refine Ev.bind (ranges_f r _ h3) ?_
  cases e3 : rangesB r (q.length : Int)
  · simpa using ht
  simp only [if_true, metric_f]
  cases e4 : metB m
  · simpa using ht
  have hlen := (rangesB_iff e3).1
  simp only [Option.bind_some, Bool.not_true]
  refine Ev.step (f := fun k => _) (fun k => by simp only [antiquarylaw07_ProjectAxesAreBoxes.j0]; rfl) ?_
  simp only [Bool.false_eq_true, if_false]
  exact axes_l v2 (by omega) v1 (by omega) (right_of e3) m (metB_iff e4) q.length 0 (by omega) (by omega) fun j _ h => absurd h (Nat.not_lt_zero _)
end Go.Proofs.YticponffemffnaaDoor.Pure
end
