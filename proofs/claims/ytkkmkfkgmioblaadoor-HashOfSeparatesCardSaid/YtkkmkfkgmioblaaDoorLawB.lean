/- The laws of the hash chapter over lists of strings. -/
import Derived.Test.YtkkmkfkgmioblaaDoorLawA
import Derived.SliceStrings
set_option linter.unusedVariables false
set_option linter.unusedSimpArgs false
namespace Go.Lx
open Go.ChangeShapes Go.WideShapes
open Go Go.RowKit Go.Proofs.YtkkmkfkgmioblaaDoorW.PrintWords Go.ChangeShapes
/-- a slice of strings that came in -/
theorem read_strings {H : Type} {enc : TypeId × Value → H} {P : Program} {W : World} {base : Nat} {spare : Nat → Bool} {held : Bool} {t e : TypeId} {a : Option Addr} {len cap : Nat} {d : DataW H} {ps : List MemPlace}
    (hu : P.underlying t = some (.slice e)) (he : P.underlying e = some .string) (hc : P.cellsOf e = 1) (h : DataW.Trod enc P W base spare held t (.slice a len cap) d ps) : ∃ l : List ByteArray, len = l.length ∧ l.length ≤ cap ∧ Kd.string.C W a l.length l := by
  obtain ⟨fuel, hf⟩ := h
  rcases open_strings hu he hc hf with ⟨hcs, _⟩ | ⟨x, l, c, ss, hcs, _, hl, hm, hz, _, hcell, _⟩
  · simp [Value.cells] at hcs
    obtain ⟨rfl, rfl, rfl⟩ := hcs
    exact ⟨[], rfl, Nat.le_refl _, Kd.C_nil _ _⟩
  · simp [Value.cells] at hcs
    obtain ⟨rfl, rfl, rfl⟩ := hcs
    have hlen : len ≤ ss.length := by rw [hz]; split <;> omega
    have e1 : (ss.take len).length = len := by rw [List.length_take]; omega
    refine ⟨ss.take len, e1.symm, by omega, ⟨rfl, by rw [e1]; unfold maxLen at hm; omega, fun _ => ⟨x, rfl, fun j p hj => ⟨[.string p], rfl, rfl, fun i u hu => ?_⟩⟩⟩⟩
    have hi : i = 0 := by
      rcases i with _ | i
      · rfl
      · simp at hu
    subst hi
    obtain rfl : Value.string p = u := by simpa using hu
    obtain ⟨hj1, hj2⟩ := List.getElem?_eq_some_iff.1 hj
    rw [show Kd.string.sz = 1 from rfl, Nat.mul_one, Nat.add_zero]
    have := hcell j (by omega)
    rw [this, List.getD_eq_getElem?_getD, List.getElem?_eq_getElem (show j < ss.length by omega)]
    rw [List.getElem_take] at hj2
    rw [← hj2]; rfl
end Go.Lx
namespace Go.Proofs.YtkkmkfkgmioblaaDoor
open Go Go.RowKit Go.Lx CrcMath Go.Proofs.YtkkmkfkgmioblaaDoorW.PrintWords
attribute [local irreducible] Calls

def fewB (l : List ByteArray) : Bool := decide (l.length ≤ 12) && l.all fun s => decide (s.size ≤ 400)
theorem fewB_true {l : List ByteArray} (h : fewB l = true) : l.length ≤ 12 ∧ ∀ s ∈ l, s.size ≤ 400 := by
  unfold fewB at h
  simp only [Bool.and_eq_true, decide_eq_true_eq, List.all_eq_true] at h
  exact h
set_option maxHeartbeats 1000000 in
theorem few_any (v : Value) (l : List ByteArray) (w0 : World) (hR : Rd w0 v l.length 1 (strV l)) (hl : l.length ≤ 9223372036854775807) :
    Calls Tryd.prog 18 #[v] w0 fun e w' => e = .returned (.bool (fewB l)) ∧ w' = w0 := by
  obtain ⟨⟨a, cap, rfl, hcells⟩, -⟩ := hR
  have hL := Sees.refl w0
  by_cases h12 : l.length ≤ 12
  · have t1 : decide ((l.length : Int) > 12) = false := by simp; omega
    have t2 : decide ((12 : Int) < (l.length : Int)) = false := by simp; omega
    have t3 : decide (12 < l.length) = false := by simp; omega
    go_enter Tryd.func18, Tryd.ntmps18
    go_wp2
    go_loopw [3] (fun i wr => ∃ k : Nat, k ≤ l.length ∧ i = .int .i64 k ∧ Hid (∀ j, j < k → ∀ h : j < l.length, (l[j]).size ≤ 400) ∧ w0 = wr) (fun i _ => l.length - (intOf i).toNat)
    case atStart => exact ⟨0, Nat.zero_le _, rfl, Lib.hid (fun j h => by omega), rfl⟩
    case round =>
      obtain ⟨k, hk, rfl, hall, rfl⟩ := hrel
      by_cases hlt : k < l.length
      · obtain ⟨ad, rfl, hcc⟩ := hcells (by intro h; have := congrArg List.length h; simp [strV] at this; subst this; simp at hlt)
        have hc1 := hcc k _ (strV_at l k hlt)
        by_cases h400 : (l[k]).size ≤ 400
        · have H4 : Hid ((l[k]).size ≤ 400) := Lib.hid h400
          generalize l[k] = x at hc1 h400
          have u1 : decide ((x.size : Int) > 400) = false := by simp; omega
          have u2 : decide ((400 : Int) < (x.size : Int)) = false := by simp; omega
          have u3 : decide (400 < x.size) = false := by simp; omega
          go_wp2_with (first | (refine wpl_run rfl (run_load_plain rfl p_str rfl (hL.old hc1)) ?_; simp only [Act.put, List.setIfInBounds_toArray, List.set_cons_succ, List.set_cons_zero]))
          refine ⟨⟨k + 1, by omega, rfl, Lib.hid (fun j h hj => ?_), by trivial⟩, ?_⟩
          · by_cases e : j = k
            · subst e; exact H4.out
            · exact hall.out j (by omega) hj
          · simp [intOf]; omega
        · have H4 : Hid (fewB l = false) := Lib.hid (by
            rw [Bool.eq_false_iff]
            intro h
            exact h400 ((fewB_true h).2 _ (List.getElem_mem _)))
          generalize l[k] = x at hc1 h400
          have u1 : decide ((x.size : Int) > 400) = true := by simp; omega
          have u2 : decide ((400 : Int) < (x.size : Int)) = true := by simp; omega
          have u3 : decide (400 < x.size) = true := by simp; omega
          go_wp2_with (first | (refine wpl_run rfl (run_load_plain rfl p_str rfl (hL.old hc1)) ?_; simp only [Act.put, List.setIfInBounds_toArray, List.set_cons_succ, List.set_cons_zero]))
          go_ret
          rw [H4.out]
          exact ⟨rfl, rfl⟩
      · obtain rfl : k = l.length := by omega
        have H4 : Hid (fewB l = true) := Lib.hid (by
          unfold fewB
          simp only [Bool.and_eq_true, decide_eq_true_eq, List.all_eq_true]
          refine ⟨h12, fun s hs => ?_⟩
          obtain ⟨j, hj, rfl⟩ := List.mem_iff_getElem.1 hs
          exact hall.out j hj hj)
        go_wp2
        go_ret
        rw [H4.out]
        exact ⟨rfl, rfl⟩
  · have t1 : decide ((l.length : Int) > 12) = true := by simp; omega
    have t2 : decide ((12 : Int) < (l.length : Int)) = true := by simp; omega
    have t3 : decide (12 < l.length) = true := by simp; omega
    have H4 : Hid (fewB l = false) := Lib.hid (by
      rw [Bool.eq_false_iff]
      intro h
      exact h12 (fewB_true h).1)
    go_enter Tryd.func18, Tryd.ntmps18
    go_wp2
    go_ret
    rw [H4.out]
    exact ⟨rfl, rfl⟩

/-- strings one after the other -/
def cat (l : List ByteArray) : List UInt8 := l.flatMap fun t => t.data.toList
def joinS (l : List ByteArray) : ByteArray := ⟨(cat l).toArray⟩
theorem cat_succ (l : List ByteArray) (k : Nat) (h : k < l.length) : cat (l.take (k + 1)) = cat (l.take k) ++ (l[k]).data.toList := by
  unfold cat; rw [List.take_succ_eq_append_getElem h, List.flatMap_append]; simp
theorem ba_ext {a b : ByteArray} (h : a.data.toList = b.data.toList) : a = b := by
  cases a; cases b; simp at h; simp [h]
theorem joinS_succ (l : List ByteArray) (k : Nat) (h : k < l.length) : joinS (l.take k) ++ l[k] = joinS (l.take (k + 1)) := by
  apply ba_ext
  rw [ByteArray.data_append, Array.toList_append]
  show cat _ ++ _ = cat _
  rw [cat_succ l k h]
theorem cat_len (l : List ByteArray) (n : Nat) (h : ∀ t ∈ l, t.size ≤ n) : (cat l).length ≤ l.length * n := by
  induction l with
  | nil => simp [cat]
  | cons x l ih =>
    have := ih fun t ht => h t (.tail _ ht)
    have hx := h x (.head _)
    have e : cat (x :: l) = x.data.toList ++ cat l := by simp [cat]
    rw [e, List.length_append, List.length_cons, Nat.add_mul, Array.length_toList]
    have : x.data.size = x.size := rfl
    omega
theorem joinS_size (l : List ByteArray) : (joinS l).size = (cat l).length := by show (cat l).toArray.size = _; simp
set_option maxHeartbeats 1000000 in
theorem joined_any (v : Value) (l : List ByteArray) (w0 : World) (hR : Rd w0 v l.length 1 (strV l)) (hl : l.length ≤ 12) (hs : ∀ t ∈ l, t.size ≤ 400) :
    Calls Tryd.prog 21 #[v] w0 fun e w' => e = .returned (.string (joinS l)) ∧ w' = w0 := by
  obtain ⟨⟨a, cap, rfl, hcells⟩, -⟩ := hR
  go_enter Tryd.func21, Tryd.ntmps21
  go_wp2
  go_loopw [3, 4] (fun s i wr => ∃ k : Nat, k ≤ l.length ∧ i = .int .i64 k ∧ s = .string (joinS (l.take k)) ∧ w0 = wr) (fun _ i _ => l.length - (intOf i).toNat)
  case atStart => exact ⟨0, Nat.zero_le _, rfl, rfl, rfl⟩
  case round =>
    obtain ⟨k, hk, rfl, rfl, rfl⟩ := hrel
    obtain ⟨J, hJ⟩ : ∃ J, J = joinS (l.take k) := ⟨_, rfl⟩
    rw [← hJ]
    have hJs : J.size ≤ 4800 := by
      rw [hJ, joinS_size]
      have := cat_len (l.take k) 400 fun t ht => hs t (List.mem_of_mem_take ht)
      rw [List.length_take] at this
      have : min k l.length ≤ 12 := by omega
      omega
    have HJ := Lib.hid hJ
    clear hJ
    by_cases hlt : k < l.length
    · obtain ⟨ad, rfl, hcc⟩ := hcells (by intro h; have := congrArg List.length h; simp [strV] at this; subst this; simp at hlt)
      have hc1 := hcc k _ (strV_at l k hlt)
      generalize hx : l[k] = x at hc1
      have hxs : x.size ≤ 400 := by rw [← hx]; exact hs _ (List.getElem_mem _)
      have hJx : ¬ 9223372036854775807 < J.size + x.size := by omega
      have HX := Lib.hid hx
      clear hx
      go_wp2_with (first | (refine wpl_run rfl (run_load_plain rfl p_str rfl (hL.old hc1)) ?_; simp only [Act.put, List.setIfInBounds_toArray, List.set_cons_succ, List.set_cons_zero]))
      refine ⟨⟨k + 1, by omega, rfl, ?_, by trivial⟩, ?_⟩
      · rw [← joinS_succ l k hlt, HX.out, ← HJ.out]
      · simp [intOf]; omega
    · obtain rfl : k = l.length := by omega
      go_wp2
      go_ret
      rw [HJ.out, List.take_length]
      exact ⟨rfl, rfl⟩
theorem en_joined : enterable Tryd.prog 21 = true := by kernel_rfl
end Go.Proofs.YtkkmkfkgmioblaaDoor
