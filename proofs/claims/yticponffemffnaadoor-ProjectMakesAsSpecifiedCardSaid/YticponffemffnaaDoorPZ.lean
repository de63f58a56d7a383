/- One text out of: Ps, PLM. -/
import Derived.Test.YticponffemffnaaDoorPV
import Derived.Test.YticponffemffnaaDoorP4
import Derived.Test.YticponffemffnaaDoorP7
section
set_option linter.unusedVariables false
set_option linter.unusedSimpArgs false
namespace Go.Proofs.YticponffemffnaaDoor.Pure
open Go Go.RowKit Go.Lx Go.Proofs.YticponffemffnaaDoor Go.Proofs.YticponffemffnaaDoor.P Go.Proofs.YticponffemffnaaDoor.Ext Go.Proofs.YticponffemffnaaDoorW.PrintWords Go.Proofs.YticponffemffnaaDoorW.PrintLast
theorem sane : Ev (fun k => antiquarylaw07_sanity.f k) true := Ev.of antiquarylaw07_sanity.mono (k := 30) (by kernel_rfl)
theorem sane1 : Ev (fun k => (antiquarylaw07_sanity.f k).bind fun t => some t) true := Ev.bind sane (Ev.now true)
end Go.Proofs.YticponffemffnaaDoor.Pure
end
section
/- Lines of a seed. -/
set_option linter.unusedVariables false
set_option linter.unusedSimpArgs false
namespace Go.Proofs.YticponffemffnaaDoor.Pure
open Go Go.RowKit Go.Lx Go.Proofs.YticponffemffnaaDoor Go.Proofs.YticponffemffnaaDoor.P Go.Proofs.YticponffemffnaaDoor.Ext Go.Proofs.YticponffemffnaaDoorW.PrintWords Go.Proofs.YticponffemffnaaDoorW.PrintLast
theorem nS_set (D : Nat) : ∀ (l : List Int), (∀ x ∈ l, -1 ≤ x ∧ x ≤ 1) → (∀ x ∈ fixLine l, -1 ≤ x ∧ x ≤ 1) := by
  intro l h x hx
  unfold fixLine at hx
  split at hx
  · rcases List.mem_or_eq_of_mem_set hx with h' | rfl
    · exact h x h'
    · omega
  · exact h x hx
theorem maxE_zero : ∀ l : List Int, maxE l ≠ 0 → ∃ x ∈ l, x ≠ 0
  | [], h => absurd rfl h
  | a :: s, h => by
    by_cases ha : a = 0
    · subst ha
      have : maxE s ≠ 0 := fun e => h (by simp [maxE, e, absI, mx])
      obtain ⟨x, hx, hz⟩ := maxE_zero s this
      exact ⟨x, .tail _ hx, hz⟩
    · exact ⟨a, .head _, ha⟩
theorem line_ok (seed k : Int) (D : Nat) (hD : 1 ≤ D) (hD2 : D ≤ 32) : badRow (D : Int) (lineV seed k D) = false := by
  have hraw : ∀ x ∈ rawLine seed k D, -1 ≤ x ∧ x ≤ 1 := by
    intro x hx
    unfold rawLine at hx
    obtain ⟨i, _, rfl⟩ := List.mem_map.1 hx
    unfold rawI
    omega
  have hlen : (lineV seed k D).length = D := lineV_len seed k D
  have hbd := nS_set D _ hraw
  have hnz : (lineV seed k D).any nzB = true := by
    rw [List.any_eq_true]
    unfold lineV fixLine
    split
    · refine ⟨1, ?_, by decide⟩
      rw [List.mem_iff_getElem]
      exact ⟨0, by rw [List.length_set, rawLine_len]; omega, by rw [List.getElem_set_self]⟩
    · rename_i hne
      rw [normV_exact 3 1 (by decide) (by decide) _ (by rw [rawLine_len]; omega) hraw] at hne
      obtain ⟨x, hx, hz⟩ := maxE_zero _ hne
      exact ⟨x, hx, by simpa [nzB] using hz⟩
  have hw : (lineV seed k D).any wideB = false := by
    rw [List.any_eq_false]
    intro x hx
    have := hbd x hx
    unfold wideB; simp; omega
  unfold badRow
  rw [hnz, hw, hlen]
  simp
theorem lines_valid (seed : Int) (n D : Nat) (hn : 1 ≤ n) (hn2 : n ≤ 8) (hD : 1 ≤ D) (hD2 : D ≤ 32) : validV (linesV seed n D) (D : Int) = true := by
  have h : (linesV seed n D).any (badRow (D : Int)) = false := by
    rw [List.any_eq_false]
    intro r hr
    obtain ⟨k, _, rfl⟩ := List.mem_map.1 hr
    rw [line_ok seed k D hD hD2]; decide
  unfold validV
  rw [h, linesV_len]
  simp
  omega
theorem makes_l (seed n D : Int) (L : List (List Int)) (h3 : L.length ≤ 12) (h4 : ∀ l ∈ L, l.length ≤ big) (hs : isI64 seed) (d : Nat) : ∀ i : Nat, L.length - i = d → i ≤ L.length → Ev (fun k => antiquarylaw07_ProjectMakesAsSpecified.l0 k seed n D L L (L.length : Int) (i : Int)) true := by
  have ht : Ev (fun k => antiquarylaw07_ProjectMakesAsSpecified.j1 k seed n D true) true := Ev.to (fun k => by simp only [antiquarylaw07_ProjectMakesAsSpecified.j1]; rfl) sane1 rfl
  induction d with
  | zero =>
    intro i hd hi
    refine Ev.step (f := fun k => _) (fun k => by simp only [antiquarylaw07_ProjectMakesAsSpecified.l0]; rfl) ?_
    simp only [if_neg (show ¬ (i : Int) < (L.length : Int) by omega), project_Valid.f, Option.bind_some]
    refine Ev.bind (valid_f L D (by unfold big; omega) h4) ?_
    simp only [bne_self_eq_false, Bool.false_eq_true, if_false]
    by_cases c1 : n < 1
    · simp only [if_pos c1]; exact ht
    by_cases c2 : n > 8
    · simp only [if_neg c1, if_pos c2]; exact ht
    by_cases c3 : D < 1
    · simp only [if_neg c1, if_neg c2, if_pos c3]; exact ht
    simp only [if_neg c1, if_neg c2, if_neg c3]
    by_cases c4 : D > 32
    · rw [decide_eq_true c4]; exact ht
    rw [decide_eq_false c4]
    have hok : okL seed n D = true := by
      unfold okL; unfold isI64 at hs
      simp only [Bool.and_eq_true, Bool.or_eq_true, decide_eq_true_eq]
      omega
    obtain ⟨n, rfl⟩ := Int.eq_ofNat_of_zero_le (show 0 ≤ n by omega)
    obtain ⟨D, rfl⟩ := Int.eq_ofNat_of_zero_le (show 0 ≤ D by omega)
    have hv := lines_valid seed n D (by omega) (by omega) (by omega) (by omega)
    refine Ev.step (f := fun k => _) (fun k => by simp only [antiquarylaw07_ProjectMakesAsSpecified.j1]; rfl) ?_
    simp only [Bool.false_eq_true, if_false, project_Lines.f, antiquaryref07_Lines.f, hok, if_true, Option.bind_some, Int.toNat_natCast]
    refine Ev.bind sane ?_
    simp only [if_true]
    refine Ev.bind (sameL_f (linesV seed n D) (by rw [linesV_len]; unfold big; omega) fun r hr => by rw [linesV_D seed n D r hr]; unfold big; omega) ?_
    simp only [if_true, project_Valid.f, hv, Option.bind_some]
    exact Ev.now true
  | succ d ih =>
    intro i hd hi
    have hlt : i < L.length := by omega
    by_cases c : ((rd_L1 L (i : Int)).length : Int) > 40
    · refine Ev.to (fun k => ?_) sane1 rfl
      simp only [antiquarylaw07_ProjectMakesAsSpecified.l0]
      rw [if_pos (by omega), if_pos (by omega), if_pos (by omega), if_pos c]
    · refine Ev.step (fun k => ?_) (ih (i + 1) (by omega) (by omega))
      simp only [antiquarylaw07_ProjectMakesAsSpecified.l0]
      rw [if_pos (by omega), if_pos (by omega), if_pos (by omega), if_neg c, wr i L.length hlt (by unfold big; omega)]
theorem makes (seed n D : Int) (L : List (List Int)) (h3 : L.length ≤ big) (h4 : ∀ l ∈ L, l.length ≤ big) (hs : isI64 seed) : Ev (fun k => antiquarylaw07_ProjectMakesAsSpecified.f k seed n D L) true := by
  unfold antiquarylaw07_ProjectMakesAsSpecified.f
  by_cases c : (L.length : Int) > 12
  · simp only [if_pos c]; exact sane1
  · simp only [if_neg c]; exact makes_l seed n D L (by omega) h4 hs L.length 0 (by omega) (by omega)
end Go.Proofs.YticponffemffnaaDoor.Pure
end
