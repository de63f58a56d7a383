/- An array of two bytes that came in. -/
import Derived.Test.YtkkmkfkgmioblaaDoorLawH
import Derived.OpenShut
set_option linter.unusedVariables false
set_option linter.unusedSimpArgs false
namespace Go.Lx
open Go Go.RowKit Go.ChangeShapes Go.WideShapes
theorem trod_array2 {H : Type} {enc : TypeId × Value → H} {P : Program} {w : World} {base : Nat} {spare : Nat → Bool} {held : Bool} {t e : TypeId} {fuel : Nat} {c0 c1 : Value} {x : DataW H × List MemPlace} (ht : P.underlying t = some (.array 2 e)) (hce : P.cellsOf e = 1)
    (h : DataW.trod enc P w base spare held fuel t [c0, c1] = some x) :
    ∃ y0 y1 n, x = (.agg [y0.1, y1.1], y0.2 ++ y1.2) ∧ DataW.trod enc P w base spare held n e [c0] = some y0 ∧ DataW.trod enc P w base spare held n e [c1] = some y1 := by
  cases fuel with
  | zero => simp [DataW.trod] at h
  | succ n =>
    unfold DataW.trod at h
    rw [ht] at h
    have r2 : List.range 2 = [0, 1] := rfl
    simp [r2, hce] at h
    obtain ⟨_, h⟩ := h
    cases h0 : DataW.trod enc P w base spare held n e [c0] with
    | none => simp [h0] at h
    | some y0 =>
      cases h1 : DataW.trod enc P w base spare held n e [c1] with
      | none => simp [h0, h1] at h
      | some y1 =>
        simp [h0, h1] at h
        exact ⟨y0, y1, n, h.symm, h0, h1⟩
theorem read_two {H : Type} {enc : TypeId × Value → H} {P : Program} {w : World} {base base' : Nat} {spare : Nat → Bool} {held : Bool} {t e : TypeId} {v : Value} {d : DataW H} {ps : List MemPlace} (ht : P.underlying t = some (.array 2 e)) (he : P.underlying e = some (.int .u8)) (hct : P.cellsOf t = 2) (hce : P.cellsOf e = 1)
    (hv : Value.okWide P w .any base' t v) (h : DataW.Trod enc P w base spare held t v d ps) : ∃ x y, v = .agg #[.int .u8 x, .int .u8 y] ∧ (Lit.int .u8 x).wf = true ∧ (Lit.int .u8 y).wf = true := by
  obtain ⟨cs, rfl, hsz⟩ : ∃ cs, v = .agg cs ∧ cs.size = P.cellsOf t := by
    simp only [Value.okWide, ht] at hv
    obtain ⟨cs, h1, h2, _⟩ := hv
    exact ⟨cs, h1, h2⟩
  rw [hct] at hsz
  obtain ⟨l⟩ := cs
  obtain ⟨c0, c1, rfl⟩ : ∃ c0 c1, l = [c0, c1] := by
    rcases l with _ | ⟨c0, _ | ⟨c1, _ | _⟩⟩ <;> simp at hsz
    exact ⟨c0, c1, rfl⟩
  obtain ⟨fuel, hf⟩ := h
  simp only [Value.cells] at hf
  obtain ⟨y0, y1, n, -, h0, h1⟩ := trod_array2 ht hce hf
  obtain ⟨x, e0, -, w0⟩ := DataW.trod_int he h0
  obtain ⟨y, e1, -, w1⟩ := DataW.trod_int he h1
  cases e0; cases e1
  exact ⟨x, y, rfl, w0, w1⟩
end Go.Lx
namespace Go.Proofs.YtkkmkfkgmioblaaDoor.P
open Go Go.RowKit Go.Lx Go.Proofs.YtkkmkfkgmioblaaDoor Go.Proofs.YtkkmkfkgmioblaaDoorW.PrintWords
theorem antiquarylaw02_HashOfSeparates.walk (_ : True) (x y : Int) (a1 : Option Addr) (len1 cap1 : Nat) (z1 : List ByteArray) (a2 : Option Addr) (len2 cap2 : Nat) (z2 : List ByteArray) (w : World) (wx : (Lit.int .u8 x).wf = true) (wy : (Lit.int .u8 y).wf = true) (w1 : len1 = z1.length ∧ z1.length ≤ cap1 ∧ Kd.string.C w a1 z1.length z1) (w2 : len2 = z2.length ∧ z2.length ≤ cap2 ∧ Kd.string.C w a2 z2.length z2) (hT : Tab w) :
    Calls Tryd.prog 14 #[.agg #[.int .u8 x, .int .u8 y], .slice a1 len1 cap1, .slice a2 len2 cap2] w fun e w' => e = .returned (.bool true) ∧ Below w.heap.size w w' := by
  obtain ⟨rfl, -, hC1⟩ := w1
  obtain ⟨rfl, -, hC2⟩ := w2
  refine sep_any x y z1 z2 a1 a2 cap1 cap2 w ?_ ?_ (rd_of_C hC1) (rd_of_C hC2) hC1.2.1 hC2.2.1 hT
  · simp [Lit.wf, IntKind.min, IntKind.max, IntKind.signed, IntKind.bits] at wx
    omega
  · simp [Lit.wf, IntKind.min, IntKind.max, IntKind.signed, IntKind.bits] at wy
    omega
end Go.Proofs.YtkkmkfkgmioblaaDoor.P
