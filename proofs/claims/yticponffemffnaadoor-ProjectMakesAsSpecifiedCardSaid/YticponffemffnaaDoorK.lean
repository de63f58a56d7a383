/- One text out of: Lib, Base, Open, Fn, Kd, Mat, SRow. -/
import Derived.Still
import Derived.WalkKit
import Derived.Below
import Derived.Laws.CopyOwn
import Derived.Laws.BytesArg
import Derived.Lib.ConvBytes
import Derived.Laws.IdiomStrings
import Derived.Lib.BufferWrite
import Derived.Laws.Tables
import Derived.Lib.AppendStr
import Derived.DeepKeys
import Derived.Test.YticponffemffnaaDoorProg
import Derived.Lib.Hide
import Derived.Test.YticponffemffnaaDoorWA
import Derived.Deep.Slices
import Derived.Deep.Fields
import Derived.OpenShut
import Derived.MapKept
import Derived.Carry
import Derived.Deep.OwnRows
import Derived.Test.YticponffemffnaaDoorWB
section
set_option linter.unusedVariables false
set_option linter.unusedSimpArgs false
namespace Go.Lx
open Go
section
variable {P : Program} {ops : Array Oper} {md : Region.Mode}
/-- no way out but the plain one -/
def QF : Exit → Act → World → Prop := fun _ _ _ => False

theorem not_letsOut_QF : ¬ LetsOut QF := fun ⟨_, _, h⟩ => h

/-- the frame behind an operation -/
def After (a : Act) (o : Oper) (a' : Act) : Prop := ∃ u d, a' = ({ a with defers := d } : Act).put o.dst u

theorem Oper.wp_form {o : Oper} {a : Act} {w : World} {K : Act → World → Prop} (h : o.wp P a w K QF) :
    o.wp P a w (fun a' w' => K a' w' ∧ After a o a') QF := by
  unfold Oper.wp at *
  generalize (execOp a.eval o).run P w = r at *
  cases r with
  | ok n w' =>
    cases n <;> simp only [Oper.upon] at h ⊢
    case value v => exact ⟨h, v, a.defers, rfl⟩
    case skip => exact ⟨h, _, a.defers, rfl⟩
    case defer d => exact ⟨h, _, _, rfl⟩
    case enter f args =>
      refine h.mono fun e w'' he => ?_
      cases e with
      | returned v => exact ⟨he, v, a.defers, rfl⟩
      | panicked c => exact he
      | outgrown => exact he
    case row r args => exact h.mono fun v w'' hv => ⟨hv, v, a.defers, rfl⟩
    all_goals exact h
  | halt x w' => cases x <;> simp only [Oper.upon] at h ⊢ <;> exact h

theorem Oper.wp_some {o : Oper} {a : Act} {w : World} {K : Act → World → Prop} (h : o.wp P a w K QF) : ∃ a' w', K a' w' := by
  unfold Oper.wp at *
  generalize (execOp a.eval o).run P w = r at *
  cases r with
  | ok n w' =>
    cases n <;> simp only [Oper.upon] at h
    case value v => exact ⟨_, _, h⟩
    case skip => exact ⟨_, _, h⟩
    case defer d => exact ⟨_, _, h⟩
    case enter f args =>
      obtain ⟨e, w'', fr, he, _⟩ := h []
      cases e with
      | returned v => exact ⟨_, _, he⟩
      | panicked c => exact he.elim
      | outgrown => exact (not_letsOut_QF he).elim
    case row r args =>
      obtain ⟨v, w'', hv, _⟩ := h default []
      exact ⟨_, _, hv⟩
  | halt x w' => cases x <;> simp only [Oper.upon] at h <;> exact h.elim

/-- an operation in a frame in which a slot has been written that it doesn't look at -/
theorem Oper.wp_put {o : Oper} {a : Act} {w : World} {d : Option Tmp} {u : Value} {K : Act → World → Prop} (hs : ∀ cs b, o.op ≠ .select cs b)
    (h1 : ∀ t, d = some t → t ∉ o.looksAt ops) (h2 : ∀ t, d = some t → o.dst ≠ some t) :
    o.wp P (a.put d u) w K QF ↔ o.wp P a w (fun a' w' => K (a'.put d u) w') QF := by
  unfold Oper.wp
  rw [execOp_put o hs a d u h1]
  generalize (execOp a.eval o).run P w = r at *
  cases r with
  | ok n w' =>
    cases n <;> simp only [Oper.upon]
    case value v => rw [Act.put_comm a u v h2]
    case skip => rw [Act.put_comm a u undef h2]
    case defer x => rw [Act.put_defers, Act.put_comm _ u undef h2]
    case enter f args =>
      constructor <;> intro h <;> refine h.mono fun e w'' he => ?_ <;> cases e <;> simp only at he ⊢
      all_goals first | exact he | (rw [← Act.put_comm a u _ h2]; exact he) | (rw [Act.put_comm a u _ h2]; exact he)
    case row r args =>
      constructor <;> intro h <;> refine h.mono fun v w'' hv => ?_
      · rw [← Act.put_comm a u _ h2]; exact hv
      · rw [Act.put_comm a u _ h2]; exact hv
  | halt x w' => cases x <;> simp only [Oper.upon] <;> rfl


theorem exec_defers (a : Act) (d : List Deferred) (o : Oper) : execOp ({ a with defers := d } : Act).eval o = execOp a.eval o := by
  have : ({ a with defers := d } : Act).eval = a.eval := by funext x; cases x <;> rfl
  rw [this]

/-- what is said of an operation: 'val': a value that hangs on its operands alone · 'call': a call that hangs on its arguments alone, and leaves the world · 'calm': it leaves this world · 'old': a value that hangs on its operands and on the memory that was there when the region began · 'ext': anything that leaves that memory · 'eff': anything -/
inductive Cls where
  | val | call | calm | eff | old | ext
  deriving DecidableEq

/-- what was there when the region began stands as it stood -/
abbrev Since (wI w : World) : Prop := RowKit.Below wI.heap.size wI w

/-- one operation, told by its class -/
def lexRun (P : Program) (wI : World) (c : Cls) (o : Oper) (K : Act → World → Prop) (a : Act) (w : World) : Prop :=
  match c with
  | .val => ∃ v, (∀ w2, (execOp a.eval o).run P w2 = .ok (.value v) w2) ∧ K (a.put o.dst v) w
  | .call => ∃ f args v, (∀ w2, (execOp a.eval o).run P w2 = .ok (.enter f args) w2) ∧ (∀ w2, Calls P f args w2 fun e w' => e = .returned v ∧ w' = w2) ∧ K (a.put o.dst v) w
  | .calm => ∃ v, ((execOp a.eval o).run P w = .ok (.value v) w ∨ ∃ f args, (execOp a.eval o).run P w = .ok (.enter f args) w ∧ Calls P f args w fun e w' => e = .returned v ∧ w' = w) ∧ K (a.put o.dst v) w
  | .old => ∃ v, (∀ w2, Since wI w2 → (execOp a.eval o).run P w2 = .ok (.value v) w2) ∧ Since wI w ∧ K (a.put o.dst v) w
  | .ext => Since wI w ∧ o.wp P a w (fun a' w' => Since wI w' ∧ K a' w') QF
  | .eff => o.wp P a w K QF

def lexOp (P : Program) (wI : World) (ops : Array Oper) (c : Cls) (o : Oper) (K : Act → World → Prop) (a : Act) (w : World) : Prop :=
  if Region.wanted o (yielded ops a.tmps) then lexRun P wI c o K a w else K (a.put o.dst undef) w

variable {wI : World}
theorem lexRun_mono {c : Cls} {o : Oper} {K K' : Act → World → Prop} {a : Act} {w : World} (h : ∀ a w, K a w → K' a w) (hh : lexRun P wI c o K a w) : lexRun P wI c o K' a w := by
  cases c <;> simp only [lexRun] at hh ⊢
  · obtain ⟨v, h1, h2⟩ := hh; exact ⟨v, h1, h _ _ h2⟩
  · obtain ⟨f, args, v, h1, h2, h3⟩ := hh; exact ⟨f, args, v, h1, h2, h _ _ h3⟩
  · obtain ⟨v, h1, h2⟩ := hh; exact ⟨v, h1, h _ _ h2⟩
  · exact Oper.wp_mono h hh
  · obtain ⟨v, h1, h2, h3⟩ := hh; exact ⟨v, h1, h2, h _ _ h3⟩
  · exact ⟨hh.1, Oper.wp_mono (fun a w hk => ⟨hk.1, h _ _ hk.2⟩) hh.2⟩
theorem lexOp_mono {c : Cls} {o : Oper} {K K' : Act → World → Prop} {a : Act} {w : World} (h : ∀ a w, K a w → K' a w) (hh : lexOp P wI ops c o K a w) : lexOp P wI ops c o K' a w := by
  unfold lexOp at *
  split
  · rename_i hw; rw [if_pos hw] at hh; exact lexRun_mono h hh
  · rename_i hw; rw [if_neg hw] at hh; exact h _ _ hh

/-- which two may stand in either order (the first one ahead in the text) -/
def Cls.ok : Cls → Cls → Bool
  | .val, _ | .call, _ | _, .val | .calm, .call | .calm, .calm | .calm, .old | .old, .call | .old, .calm | .old, .old | .old, .ext | .ext, .old => true
  | _, _ => false

/-- a step that comes to one frame and one world, whatever else -/
theorem lexRun_at {c : Cls} {o : Oper} {K : Act → World → Prop} {a : Act} {w : World} (hc : c ≠ .eff) (hc' : c ≠ .ext) (h : lexRun P wI c o K a w) :
    ∃ v, K (a.put o.dst v) w ∧ ∀ (a' : Act) (K' : Act → World → Prop), execOp a'.eval o = execOp a.eval o → K' (a'.put o.dst v) w → lexRun P wI c o K' a' w := by
  cases c <;> simp only [lexRun] at h ⊢
  · obtain ⟨v, h1, h2⟩ := h; exact ⟨v, h2, fun a' K' e hk => ⟨v, by rw [e]; exact h1, hk⟩⟩
  · obtain ⟨f, args, v, h1, h2, h3⟩ := h; exact ⟨v, h3, fun a' K' e hk => ⟨f, args, v, by rw [e]; exact h1, h2, hk⟩⟩
  · obtain ⟨v, h1, h2⟩ := h; exact ⟨v, h2, fun a' K' e hk => ⟨v, by rw [e]; exact h1, hk⟩⟩
  · exact absurd rfl hc
  · obtain ⟨v, h1, h2, h3⟩ := h; exact ⟨v, h3, fun a' K' e hk => ⟨v, by rw [e]; exact h1, h2, hk⟩⟩
  · exact absurd rfl hc'

theorem lexRun_free {c : Cls} {o : Oper} {K : Act → World → Prop} {a : Act} {w : World} (hc : c = .val ∨ c = .call) (h : lexRun P wI c o K a w) :
    ∃ v, K (a.put o.dst v) w ∧ ∀ (a' : Act) (w' : World) (K' : Act → World → Prop), execOp a'.eval o = execOp a.eval o → K' (a'.put o.dst v) w' → lexRun P wI c o K' a' w' := by
  rcases hc with rfl | rfl <;> simp only [lexRun] at h ⊢
  · obtain ⟨v, h1, h2⟩ := h; exact ⟨v, h2, fun a' w' K' e hk => ⟨v, by rw [e]; exact h1, hk⟩⟩
  · obtain ⟨f, args, v, h1, h2, h3⟩ := h; exact ⟨v, h3, fun a' w' K' e hk => ⟨f, args, v, by rw [e]; exact h1, h2, hk⟩⟩

/-- a step in a frame in which another slot has been written -/
theorem lexRun_put {c : Cls} {o : Oper} {a : Act} {w : World} {d : Option Tmp} {u : Value} {K : Act → World → Prop} (hs : ∀ cs b, o.op ≠ .select cs b)
    (h1 : ∀ t, d = some t → t ∉ o.looksAt ops) (h2 : ∀ t, d = some t → o.dst ≠ some t) :
    lexRun P wI c o K (a.put d u) w ↔ lexRun P wI c o (fun a' w' => K (a'.put d u) w') a w := by
  have e := execOp_put o hs a d u h1
  cases c <;> simp only [lexRun, e]
  · constructor <;> rintro ⟨v, r, k⟩ <;> refine ⟨v, r, ?_⟩
    · rw [← Act.put_comm a u v h2]; exact k
    · rw [Act.put_comm a u v h2]; exact k
  · constructor <;> rintro ⟨f, args, v, r, cc, k⟩ <;> refine ⟨f, args, v, r, cc, ?_⟩
    · rw [← Act.put_comm a u v h2]; exact k
    · rw [Act.put_comm a u v h2]; exact k
  · constructor <;> rintro ⟨v, r, k⟩ <;> refine ⟨v, r, ?_⟩
    · rw [← Act.put_comm a u v h2]; exact k
    · rw [Act.put_comm a u v h2]; exact k
  · exact Oper.wp_put hs h1 h2
  · constructor <;> rintro ⟨v, r, b, k⟩ <;> refine ⟨v, r, b, ?_⟩
    · rw [← Act.put_comm a u v h2]; exact k
    · rw [Act.put_comm a u v h2]; exact k
  · exact and_congr_right fun _ => Oper.wp_put hs h1 h2

theorem lexRun_form {c : Cls} {o : Oper} {K : Act → World → Prop} {a : Act} {w : World} (h : lexRun P wI c o K a w) : lexRun P wI c o (fun a' w' => K a' w' ∧ After a o a') a w := by
  cases c <;> simp only [lexRun] at h ⊢
  · obtain ⟨v, r, k⟩ := h; exact ⟨v, r, k, v, a.defers, rfl⟩
  · obtain ⟨f, args, v, r, cc, k⟩ := h; exact ⟨f, args, v, r, cc, k, v, a.defers, rfl⟩
  · obtain ⟨v, r, k⟩ := h; exact ⟨v, r, k, v, a.defers, rfl⟩
  · exact Oper.wp_form h
  · obtain ⟨v, r, b, k⟩ := h; exact ⟨v, r, b, k, v, a.defers, rfl⟩
  · exact ⟨h.1, Oper.wp_mono (fun a' w' hh => ⟨hh.1.1, hh.1.2, hh.2⟩) (Oper.wp_form h.2)⟩
theorem lexRun_some {c : Cls} {o : Oper} {K : Act → World → Prop} {a : Act} {w : World} (h : lexRun P wI c o K a w) : ∃ a' w', K a' w' := by
  cases c <;> simp only [lexRun] at h
  · obtain ⟨v, r, k⟩ := h; exact ⟨_, _, k⟩
  · obtain ⟨f, args, v, r, cc, k⟩ := h; exact ⟨_, _, k⟩
  · obtain ⟨v, r, k⟩ := h; exact ⟨_, _, k⟩
  · exact Oper.wp_some h
  · obtain ⟨v, r, b, k⟩ := h; exact ⟨_, _, k⟩
  · obtain ⟨a', w', h⟩ := Oper.wp_some h.2; exact ⟨a', w', h.2⟩

theorem lexOp_put {c : Cls} {o : Oper} {a : Act} {w : World} {d : Option Tmp} {u : Value} {K : Act → World → Prop} (hs : ∀ cs b, o.op ≠ .select cs b)
    (h1 : ∀ t, d = some t → t ∉ o.looksAt ops) (h2 : ∀ t, d = some t → o.dst ≠ some t) (h : lexOp P wI ops c o K (a.put d u) w) :
    lexOp P wI ops c o (fun a' w' => K (a'.put d u) w' ∧ After a o a') a w := by
  unfold lexOp at *
  rw [wanted_put o a d u h1] at h
  split
  · rename_i hw; rw [if_pos hw] at h; exact lexRun_form ((lexRun_put hs h1 h2).1 h)
  · rename_i hw; rw [if_neg hw] at h
    exact ⟨by rw [← Act.put_comm a u _ h2]; exact h, undef, a.defers, rfl⟩

theorem exec_after {o j : Oper} (hs : ∀ cs b, o.op ≠ .select cs b) {a a' : Act} (h : After a j a') (h1 : ∀ t, j.dst = some t → t ∉ o.looksAt ops) :
    execOp a'.eval o = execOp a.eval o ∧ Region.wanted o (yielded ops a'.tmps) = Region.wanted o (yielded ops a.tmps) := by
  obtain ⟨u, d, rfl⟩ := h
  exact ⟨by rw [execOp_put o hs _ _ _ h1, exec_defers], by rw [wanted_put o _ _ _ h1]⟩

/-- TWO OPERATIONS IN THE OTHER ORDER -/
theorem lexOp_comm {ck cj : Cls} {k j : Oper} {R : Act → World → Prop} {a : Act} {w : World} (hok : ck.ok cj = true) (hap : k.apart ops j = true)
    (hsk : ∀ cs b, k.op ≠ .select cs b) (hsj : ∀ cs b, j.op ≠ .select cs b)
    (h : lexOp P wI ops ck k (lexOp P wI ops cj j R) a w) : lexOp P wI ops cj j (lexOp P wI ops ck k R) a w := by
  obtain ⟨a1, a2, a3⟩ := Oper.apart_spec hap
  have a2' : ∀ t, j.dst = some t → k.dst ≠ some t := fun t ht hk => a2 t hk ht
  by_cases hwk : Region.wanted k (yielded ops a.tmps) = true
  case neg =>
    unfold lexOp at h
    rw [if_neg hwk] at h
    have h' := lexOp_put (c := cj) (ops := ops) hsj a1 a2 h
    refine lexOp_mono (fun a' w' hh => ?_) h'
    unfold lexOp
    rw [(exec_after hsk hh.2 a3).2, if_neg hwk]
    exact hh.1
  case pos =>
    have hk : lexRun P wI ck k (lexOp P wI ops cj j R) a w := by unfold lexOp at h; rw [if_pos hwk] at h; exact h
    by_cases hwj : Region.wanted j (yielded ops a.tmps) = true
    case neg =>
      -- the second one is passed over
      unfold lexOp
      rw [if_neg hwj, wanted_put k a j.dst undef a3, if_pos hwk]
      refine (lexRun_put hsk a3 a2').2 (lexRun_mono (fun a' w' hh => ?_) (lexRun_form hk))
      have e := exec_after hsj hh.2 a1
      have h1 := hh.1
      unfold lexOp at h1
      rw [e.2, if_neg hwj] at h1
      exact h1
    case pos =>
      -- the second one is carried out
      have hkj : lexRun P wI ck k (fun a' w' => lexRun P wI cj j R a' w' ∧ After a k a') a w := by
        refine lexRun_mono (fun a' w' hh => ⟨?_, hh.2⟩) (lexRun_form hk)
        have e := exec_after hsj hh.2 a1
        have h1 := hh.1
        unfold lexOp at h1
        rw [e.2, if_pos hwj] at h1
        exact h1
      suffices hs : lexRun P wI cj j (fun a' w' => After a j a' → lexRun P wI ck k R a' w') a w by
        unfold lexOp
        rw [if_pos hwj]
        refine lexRun_mono (fun a' w' hh => ?_) (lexRun_form hs)
        have e := exec_after hsk hh.2 a3
        rw [e.2, if_pos hwk]
        exact hh.1 hh.2
      by_cases hfree : ck = .val ∨ ck = .call
      · obtain ⟨v, hv, hback⟩ := lexRun_free hfree hkj
        refine lexRun_mono (fun a' w' hh haf => ?_) ((lexRun_put hsj a1 a2).1 hv.1)
        exact hback a' w' R (exec_after hsk haf a3).1 hh
      · by_cases hstill : (ck = .calm ∨ ck = .old) ∧ cj ≠ .eff ∧ cj ≠ .ext
        · obtain ⟨hck, hc1, hc2⟩ := hstill
          obtain ⟨v, hv, hback⟩ := lexRun_at (by rcases hck with rfl | rfl <;> decide) (by rcases hck with rfl | rfl <;> decide) hkj
          obtain ⟨u, hu, hb⟩ := lexRun_at hc1 hc2 ((lexRun_put hsj a1 a2).1 hv.1)
          exact hb a _ rfl fun haf => hback _ R (exec_after hsk haf a3).1 hu
        · by_cases hjv : cj = .val
          · subst hjv
            obtain ⟨a', w', hj', haf⟩ := lexRun_some hkj
            obtain ⟨v, hv, _⟩ := hj'
            rw [(exec_after hsj haf a1).1] at hv
            refine ⟨v, hv, fun _ => (lexRun_put hsk a3 a2').2 (lexRun_mono (fun a' w' hh => ?_) hkj)⟩
            obtain ⟨⟨v', hv', hr⟩, haf⟩ := hh
            rw [(exec_after hsj haf a1).1] at hv'
            have : v' = v := by
              have := (hv' w).symm.trans (hv w)
              injection this with this _
              injection this
            subst this
            exact hr
          · have hcases : (ck = .old ∧ cj = .ext) ∨ (ck = .ext ∧ cj = .old) := by
              cases ck <;> cases cj <;> simp_all [Cls.ok]
            rcases hcases with ⟨rfl, rfl⟩ | ⟨rfl, rfl⟩
            · obtain ⟨v, hst, hB, hj', _⟩ := hkj
              obtain ⟨hB', hjw⟩ := (lexRun_put hsj a1 a2).1 hj'
              refine ⟨hB, Oper.wp_mono (fun a' w' hh => ⟨hh.1, fun haf => ⟨v, ?_, hh.1, hh.2⟩⟩) hjw⟩
              rw [(exec_after hsk haf a3).1]
              exact hst
            · obtain ⟨hB, hkw⟩ := hkj
              obtain ⟨a', w', _, hj', haf⟩ := Oper.wp_some hkw
              obtain ⟨v, hst, _, _⟩ := hj'
              rw [(exec_after hsj haf a1).1] at hst
              refine ⟨v, hst, hB, fun _ => (lexRun_put (c := .ext) hsk a3 a2').2 ⟨hB, Oper.wp_mono (fun a' w' hh => ⟨hh.1, ?_⟩) hkw⟩⟩
              obtain ⟨_, ⟨v', hst', _, hr⟩, haf⟩ := hh
              rw [(exec_after hsj haf a1).1] at hst'
              have : v' = v := by
                have := (hst' wI (RowKit.Below.refl _ _)).symm.trans (hst wI (RowKit.Below.refl _ _))
                injection this with this _
                injection this
              subst this
              exact hr

def lexAt (P : Program) (wI : World) (ops : Array Oper) (cls : Array Cls) (i : Nat) (K : Act → World → Prop) (a : Act) (w : World) : Prop :=
  match ops[i]? with
  | none => K a w
  | some o => lexOp P wI ops (cls.getD i .eff) o K a w
def anyL (P : Program) (wI : World) (md : Region.Mode) (ops : Array Oper) (cls : Array Cls) (Q : Act → World → Prop) : Nat → Array Bool → Act → World → Prop
  | 0, listed, a, w => Region.ready md ops listed = [] ∧ Q a w
  | fuel + 1, listed, a, w => (Region.ready md ops listed = [] → Q a w) ∧ ∀ i ∈ Region.ready md ops listed, lexAt P wI ops cls i (anyL P wI md ops cls Q fuel (listed.setIfInBounds i true)) a w

/-- what is listed hangs on nothing that is not -/
def Closed (md : Region.Mode) (ops : Array Oper) (listed : Array Bool) : Prop :=
  ∀ m o, ops[m]? = some o → listed.getD m false = true → ∀ e ∈ o.after, Region.binds md e = true → listed.getD e.on false = true
theorem Closed.set {listed : Array Bool} {i : Nat} (h : Closed md ops listed) (hi : i ∈ Region.ready md ops listed) : Closed md ops (listed.setIfInBounds i true) := by
  intro m o ho hm e he hb
  by_cases hmi : i = m
  · subst hmi
    obtain ⟨_, o', ho', hall⟩ := mem_ready.1 hi
    obtain rfl : o' = o := Option.some.inj (ho'.symm.trans ho)
    exact getD_set_true (hall e he hb)
  · rw [getD_set_ne false hmi] at hm
    exact getD_set_true (h m o ho hm e he hb)
def ancOf (md : Region.Mode) (acc : List Nat) (l : List Edge) : Nat := l.foldl (fun s e => if Region.binds md e then s ||| 2 ^ e.on ||| acc.getD e.on 0 else s) 0
def ancs (md : Region.Mode) : List Oper → List Nat → List Nat
  | [], acc => acc
  | o :: l, acc => ancs md l (acc ++ [ancOf md acc o.after.toList])
theorem ancOf_spec (acc : List Nat) (i : Nat) : ∀ (l : List Edge) (s : Nat), (l.foldl (fun s e => if Region.binds md e then s ||| 2 ^ e.on ||| acc.getD e.on 0 else s) s).testBit i = true →
    s.testBit i = true ∨ ∃ e ∈ l, Region.binds md e = true ∧ (e.on = i ∨ (acc.getD e.on 0).testBit i = true) := by
  intro l
  induction l with
  | nil => intro s h; exact .inl h
  | cons e l ih =>
    intro s h
    simp only [List.foldl_cons] at h
    rcases ih _ h with h1 | ⟨x, hx, h2⟩
    · by_cases hb : Region.binds md e = true
      · rw [if_pos hb] at h1
        simp only [Nat.testBit_or, Bool.or_eq_true] at h1
        rcases h1 with (h1 | h1) | h1
        · exact .inl h1
        · refine .inr ⟨e, .head _, hb, .inl ?_⟩
          rw [Nat.testBit_two_pow] at h1
          simpa using h1
        · exact .inr ⟨e, .head _, hb, .inr h1⟩
      · rw [if_neg hb] at h1; exact .inl h1
    · exact .inr ⟨x, .tail _ hx, h2⟩
def AncGood (md : Region.Mode) (ops : Array Oper) (acc : List Nat) : Prop :=
  ∀ j o, ops[j]? = some o → ∀ i, (acc.getD j 0).testBit i = true → ∀ listed, Closed md ops listed → (∀ e ∈ o.after, Region.binds md e = true → listed.getD e.on false = true) → listed.getD i false = true
theorem ancs_good : ∀ (l : List Oper) (acc : List Nat), (∀ j, l[j]? = ops[acc.length + j]?) → AncGood md ops acc → AncGood md ops (ancs md l acc)
  | [], acc, _, h => h
  | o :: l, acc, hl, h => by
    refine ancs_good l _ (fun j => ?_) ?_
    · have := hl (j + 1)
      simpa [Nat.add_assoc, Nat.add_comm 1 j] using this
    · intro j oj hoj i hi listed hc hall
      by_cases hj : j < acc.length
      · refine h j oj hoj i ?_ listed hc hall
        simpa [List.getD_eq_getElem?_getD, List.getElem?_append_left hj] using hi
      · by_cases hje : j = acc.length
        · subst hje
          have ho : ops[acc.length]? = some o := by simpa using (hl 0).symm
          obtain rfl : o = oj := Option.some.inj (ho.symm.trans hoj)
          have hi' : (ancOf md acc o.after.toList).testBit i = true := by simpa [List.getD_eq_getElem?_getD] using hi
          rcases ancOf_spec acc i _ 0 hi' with h0 | ⟨e, he, hb, h1⟩
          · simp at h0
          · have hel := hall e (by simpa using he) hb
            rcases h1 with rfl | h1
            · exact hel
            · -- the edge's operation is listed: so is all that it hangs on
              cases hoe : ops[e.on]? with
              | none =>
                exfalso
                have hlt : e.on < acc.length := by
                  rcases Nat.lt_or_ge e.on acc.length with h' | h'
                  · exact h'
                  · simp [List.getD_eq_getElem?_getD, List.getElem?_eq_none h'] at h1
                have : acc.length < ops.size := (Array.getElem?_eq_some_iff.1 ho).1
                have := Array.getElem?_eq_none_iff.1 hoe
                omega
              | some oe => exact h e.on oe hoe i h1 listed hc (hc e.on oe hoe hel)
        · exfalso
          have : (acc ++ [ancOf md acc o.after.toList]).getD j 0 = 0 := by
            rw [List.getD_eq_getElem?_getD, List.getElem?_eq_none (by simp; omega)]; rfl
          rw [this] at hi
          simp at hi

theorem anyL_first {anc : List Nat} (hanc : AncGood md ops anc) {cls : Array Cls} {Q : Act → World → Prop} {i : Nat} {oi : Oper} (hi : ops[i]? = some oi) (hsel : ∀ (j : Nat) (o : Oper) cs b, ops[j]? = some o → o.op ≠ .select cs b) :
    ∀ (fuel : Nat) (listed : Array Bool) (a : Act) (w : World),
      (∀ j oj, ops[j]? = some oj → j ≠ i → listed.getD j true = false → (anc.getD j 0).testBit i = false → oi.apart ops oj = true ∧ (cls.getD i .eff).ok (cls.getD j .eff) = true) →
      Closed md ops listed → i ∈ Region.ready md ops listed →
      lexAt P wI ops cls i (anyL P wI md ops cls Q fuel (listed.setIfInBounds i true)) a w → anyL P wI md ops cls Q (fuel + 1) listed a w := by
  intro fuel
  induction fuel with
  | zero =>
    intro listed a w _ _ hr H
    refine ⟨fun h => (by rw [h] at hr; cases hr), fun j hj => ?_⟩
    by_cases hji : j = i
    · subst hji; exact H
    · -- nothing is left behind i: so j is i
      exfalso
      have hs : ∃ a' w', anyL P wI md ops cls Q 0 (listed.setIfInBounds i true) a' w' := by
        unfold lexAt at H
        simp only [hi] at H
        unfold lexOp at H
        split at H
        · exact lexRun_some H
        · exact ⟨_, _, H⟩
      obtain ⟨a', w', hh⟩ := hs
      have := ready_mono hj hji
      rw [hh.1] at this
      cases this
  | succ fuel ih =>
    intro listed a w hfree hcl hr H
    refine ⟨fun h => (by rw [h] at hr; cases hr), fun j hj => ?_⟩
    by_cases hji : j = i
    · subst hji; exact H
    · obtain ⟨hjun, oj, hoj, hall⟩ := mem_ready.1 hj
      have hnot : (anc.getD j 0).testBit i = false := by
        cases ht : (anc.getD j 0).testBit i with
        | false => rfl
        | true =>
          have h1 := hanc j oj hoj i ht listed hcl hall
          have h0 := (mem_ready.1 hr).1
          rcases Nat.lt_or_ge i listed.size with h' | h'
          · simp [h'] at h0 h1; rw [h0] at h1; cases h1
          · simp [Array.getElem?_eq_none h'] at h1
      obtain ⟨hap, hok⟩ := hfree j oj hoj hji hjun hnot
      have H2 : lexOp P wI ops (cls.getD i .eff) oi (lexOp P wI ops (cls.getD j .eff) oj (anyL P wI md ops cls Q fuel ((listed.setIfInBounds i true).setIfInBounds j true))) a w := by
        unfold lexAt at H
        simp only [hi] at H
        refine lexOp_mono (fun a' w' hh => ?_) H
        have := hh.2 j (ready_mono hj hji)
        unfold lexAt at this
        simp only [hoj] at this
        exact this
      have H3 := lexOp_comm hok hap (fun cs b => hsel i oi cs b hi) (fun cs b => hsel j oj cs b hoj) H2
      have hfree' : ∀ k ok, ops[k]? = some ok → k ≠ i → (listed.setIfInBounds j true).getD k true = false →
          (anc.getD k 0).testBit i = false → oi.apart ops ok = true ∧ (cls.getD i .eff).ok (cls.getD k .eff) = true := fun k ok hk hki hun hno => by
        refine hfree k ok hk hki ?_ hno
        by_cases hjk : j = k
        · subst hjk; exact hjun
        · rw [getD_set_ne true hjk] at hun; exact hun
      unfold lexAt
      simp only [hoj]
      refine lexOp_mono (fun a' w' h3 => ih (listed.setIfInBounds j true) a' w' hfree' (hcl.set hj) (ready_mono hr (Ne.symm hji)) ?_) H3
      unfold lexAt
      simp only [hi]
      rw [Array.setIfInBounds_comm _ _ hji]
      exact h3

/-- the look over the region's text, by the kernel -/
def freeC (ops : Array Oper) (cls : Array Cls) (anc : List Nat) (listed : Array Bool) (i : Nat) : Bool :=
  match ops[i]? with
  | none => false
  | some oi => (List.range ops.size).all fun j => j == i || listed.getD j true || match ops[j]? with
      | some oj => (anc.getD j 0).testBit i || (oi.apart ops oj && (cls.getD i .eff).ok (cls.getD j .eff))
      | none => true
theorem freeC_spec {cls : Array Cls} {anc : List Nat} {i : Nat} {oi : Oper} {listed : Array Bool} (hi : ops[i]? = some oi) (h : freeC ops cls anc listed i = true) (j : Nat) (oj : Oper)
    (hj : ops[j]? = some oj) (hne : j ≠ i) (hun : listed.getD j true = false) (hno : (anc.getD j 0).testBit i = false) :
    oi.apart ops oj = true ∧ (cls.getD i .eff).ok (cls.getD j .eff) = true := by
  simp only [freeC, hi, List.all_eq_true, List.mem_range] at h
  have h1 := h j (Array.getElem?_eq_some_iff.1 hj).1
  simp only [hj, Bool.or_eq_true, beq_iff_eq, hne, false_or, hun, Bool.false_eq_true, hno] at h1
  simpa using h1
def lexC (md : Region.Mode) (ops : Array Oper) (cls : Array Cls) (anc : List Nat) : Nat → Nat → Array Bool → Bool
  | 0, _, listed => (Region.ready md ops listed).isEmpty
  | fuel + 1, k, listed => (Region.ready md ops listed).contains k && freeC ops cls anc listed k && lexC md ops cls anc fuel (k + 1) (listed.setIfInBounds k true)
def lexB (ops : Array Oper) (cls : Array Cls) : Bool := Region.noSelect ops && lexC .any ops cls (ancs .any ops.toList []) ops.size 0 (Array.replicate ops.size false)

/-- THE WALK IN THE TEXT's ORDER -/
def wpLex (P : Program) (wI : World) (ops : Array Oper) (Q : Act → World → Prop) : List (Cls × Oper) → Act → World → Prop
  | [], a, w => Q a w
  | (c, o) :: rest, a, w => lexOp P wI ops c o (wpLex P wI ops Q rest) a w

theorem anyL_lex {anc : List Nat} (hanc : AncGood md ops anc) {cls : Array Cls} {Q : Act → World → Prop} (hs : Region.noSelect ops = true) : ∀ (l : List (Cls × Oper)) (k : Nat) (listed : Array Bool) (a : Act) (w : World),
    (∀ j, (l[j]?).map (·.2) = ops[k + j]?) → (∀ j c, (l[j]?).map (·.1) = some c → cls.getD (k + j) .eff = c) →
    lexC md ops cls anc l.length k listed = true → Closed md ops listed → wpLex P wI ops Q l a w → anyL P wI md ops cls Q l.length listed a w
  | [], _, _, _, _, _, _, hB, _, h => ⟨by simpa [lexC] using hB, h⟩
  | (c, o) :: l, k, listed, a, w, hl, hc, hB, hcl, h => by
    have h0 : ops[k]? = some o := by simpa using (hl 0).symm
    have hc0 : cls.getD k .eff = c := by simpa using hc 0 c (by simp)
    simp only [List.length_cons, lexC, Bool.and_eq_true] at hB
    obtain ⟨⟨hr, hf⟩, hB'⟩ := hB
    have hr' : k ∈ Region.ready md ops listed := by simpa using hr
    refine anyL_first hanc h0 (Region.noSelect_spec hs) l.length listed a w (freeC_spec h0 hf) hcl hr' ?_
    unfold lexAt
    simp only [h0, hc0]
    refine lexOp_mono (fun a' w' hh => ?_) (show lexOp P wI ops c o (wpLex P wI ops Q l) a w from h)
    refine anyL_lex hanc hs l (k + 1) _ a' w' (fun j => ?_) (fun j c' hj => ?_) hB' (hcl.set hr') hh
    · have := hl (j + 1); simpa [Nat.add_assoc, Nat.add_comm 1 j] using this
    · have := hc (j + 1) c' (by simpa using hj); simpa [Nat.add_assoc, Nat.add_comm 1 j] using this

theorem Oper.wp_QF {o : Oper} {a : Act} {w : World} {K : Act → World → Prop} {Q : Exit → Act → World → Prop} (h : o.wp P a w K QF) : o.wp P a w K Q := by
  unfold Oper.wp at *
  generalize (execOp a.eval o).run P w = r at *
  cases r with
  | ok n w' =>
    cases n <;> simp only [Oper.upon] at h ⊢
    case enter f args =>
      refine h.mono fun e w'' he => ?_
      cases e with
      | returned v => exact he
      | panicked c => exact he.elim
      | outgrown => exact (not_letsOut_QF he).elim
    all_goals exact h
  | halt x w' => cases x <;> simp only [Oper.upon] at h ⊢ <;> exact h.elim

theorem wpOp_of_lexAt {wI : World} {cls : Array Cls} {Q' : Exit → Act → World → Prop} {i : Nat} {K : Act → World → Prop} {a : Act} {w : World} (h : lexAt P wI ops cls i K a w) : wpOp P ops Q' i K a w := by
  unfold lexAt at h
  unfold wpOp
  split
  · rename_i ho; simpa only [ho] using h
  · rename_i o ho
    simp only [ho] at h
    unfold lexOp at h
    split
    · rename_i hw
      rw [if_pos hw] at h
      refine .inl ?_
      cases hc : cls.getD i .eff <;> rw [hc] at h
      · obtain ⟨v, hr, hk⟩ := h; unfold Oper.wp; rw [hr w]; exact hk
      · obtain ⟨f, args, v, hr, hcall, hk⟩ := h
        unfold Oper.wp; rw [hr w]
        exact (hcall w).mono fun e w' ⟨he, hw'⟩ => by subst he; subst hw'; exact hk
      · obtain ⟨v, hr | ⟨f, args, hr, hcall⟩, hk⟩ := h
        · unfold Oper.wp; rw [hr]; exact hk
        · unfold Oper.wp; rw [hr]
          exact hcall.mono fun e w' ⟨he, hw'⟩ => by subst he; subst hw'; exact hk
      · exact Oper.wp_QF h
      · obtain ⟨v, hr, hB, hk⟩ := h; unfold Oper.wp; rw [hr w hB]; exact hk
      · exact Oper.wp_mono (fun a w hh => hh.2) (Oper.wp_QF h.2)
    · rename_i hw; rw [if_neg hw] at h; exact h

theorem wpAny_of_anyL {wI : World} {cls : Array Cls} {Q : Act → World → Prop} {Q' : Exit → Act → World → Prop} (hQ : ∀ a w, Q a w → Q' .normal a w) : ∀ (fuel : Nat) (listed : Array Bool) (a : Act) (w : World),
    anyL P wI md ops cls Q fuel listed a w → wpAny P md ops Q' fuel listed a w
  | 0, _, _, _, h => ⟨h.1, hQ _ _ h.2⟩
  | fuel + 1, _, _, _, h => ⟨fun h0 => hQ _ _ (h.1 h0), fun i hi => wpOp_mono (fun a' w' => wpAny_of_anyL hQ fuel _ a' w') (wpOp_of_lexAt (h.2 i hi))⟩

/-- ████ A REGION THAT DRAWS, BY ONE WALK IN THE TEXT's ORDER ████ -/
theorem wp_region_lex {id : Nat} {Q : Exit → Act → World → Prop} {a : Act} {w : World} (l : List (Cls × Oper)) {os : List Oper} (hos : l.map (·.2) = os) (hm : P.follows .mixedOrders = true)
    (hB : lexB os.toArray (l.map (·.1)).toArray = true) (h : wpLex P w.drew os.toArray (fun a' w' => Q .normal a' w') l a w.drew) : (Code.region id os.toArray true).wp P Q a w := by
  subst hos
  simp only [lexB, Bool.and_eq_true] at hB
  refine wp_region_any hm (wpAny_of_anyL (wI := w.drew) (cls := (l.map (·.1)).toArray) (Q := fun a' w' => Q .normal a' w') (fun _ _ h => h) _ _ _ _ ?_)
  have hg : AncGood .any (l.map (·.2)).toArray (ancs .any (l.map (·.2)).toArray.toList []) := ancs_good _ [] (fun j => by simp) (fun j o _ i hi => by simp at hi)
  have := anyL_lex (wI := w.drew) (md := .any) hg (cls := (l.map (·.1)).toArray) hB.1 l 0 (Array.replicate (l.map (·.2)).toArray.size false) a w.drew (by simp) (fun j c hj => by simp at hj ⊢; obtain ⟨a, ha⟩ := hj; simp [ha]) (by simpa using hB.2) (fun m o ho hm => by
    have hlt : m < (l.map (·.2)).toArray.size := (Array.getElem?_eq_some_iff.1 ho).1
    simp at hlt
    simp [hlt] at hm) h
  simpa using this

theorem wpLex_nil {Q : Act → World → Prop} {a : Act} {w : World} (h : Q a w) : wpLex P wI ops Q [] a w := h
theorem wpLex_val {Q : Act → World → Prop} {a : Act} {w : World} {o : Oper} {rest : List (Cls × Oper)} (hw : Region.wanted o (yielded ops a.tmps) = true) (v : Value)
    (hr : ∀ w2, (execOp a.eval o).run P w2 = .ok (.value v) w2) (h : wpLex P wI ops Q rest (a.put o.dst v) w) : wpLex P wI ops Q ((.val, o) :: rest) a w := by
  show lexOp P wI ops .val o _ a w
  unfold lexOp; rw [if_pos hw]; exact ⟨v, hr, h⟩
theorem wpLex_calm {Q : Act → World → Prop} {a : Act} {w : World} {o : Oper} {rest : List (Cls × Oper)} (hw : Region.wanted o (yielded ops a.tmps) = true) (v : Value)
    (hr : (execOp a.eval o).run P w = .ok (.value v) w) (h : wpLex P wI ops Q rest (a.put o.dst v) w) : wpLex P wI ops Q ((.calm, o) :: rest) a w := by
  show lexOp P wI ops .calm o _ a w
  unfold lexOp; rw [if_pos hw]; exact ⟨v, .inl hr, h⟩
theorem wpLex_call {Q : Act → World → Prop} {a : Act} {w : World} {o : Oper} {rest : List (Cls × Oper)} (hw : Region.wanted o (yielded ops a.tmps) = true) (f : FuncId) (args : Array Value) (v : Value)
    (hr : ∀ w2, (execOp a.eval o).run P w2 = .ok (.enter f args) w2) (hc : ∀ w2, Calls P f args w2 fun e w' => e = .returned v ∧ w' = w2) (h : wpLex P wI ops Q rest (a.put o.dst v) w) : wpLex P wI ops Q ((.call, o) :: rest) a w := by
  show lexOp P wI ops .call o _ a w
  unfold lexOp; rw [if_pos hw]; exact ⟨f, args, v, hr, hc, h⟩
theorem wpLex_eff {Q : Act → World → Prop} {a : Act} {w : World} {o : Oper} {rest : List (Cls × Oper)} (hw : Region.wanted o (yielded ops a.tmps) = true)
    (h : ∀ K : Act → World → Prop, (∀ a w, wpLex P wI ops Q rest a w → K a w) → o.wp P a w K QF) : wpLex P wI ops Q ((.eff, o) :: rest) a w := by
  show lexOp P wI ops .eff o _ a w
  unfold lexOp; rw [if_pos hw]; exact h _ (fun _ _ h => h)

theorem wpLex_old {Q : Act → World → Prop} {a : Act} {w : World} {o : Oper} {rest : List (Cls × Oper)} (hw : Region.wanted o (yielded ops a.tmps) = true) (hs : Since wI w) (v : Value)
    (hr : ∀ w2, Since wI w2 → (execOp a.eval o).run P w2 = .ok (.value v) w2) (h : wpLex P wI ops Q rest (a.put o.dst v) w) : wpLex P wI ops Q ((.old, o) :: rest) a w := by
  show lexOp P wI ops .old o _ a w
  unfold lexOp; rw [if_pos hw]; exact ⟨v, hr, hs, h⟩
theorem wpLex_ext {Q : Act → World → Prop} {a : Act} {w : World} {o : Oper} {rest : List (Cls × Oper)} (hw : Region.wanted o (yielded ops a.tmps) = true) (hs : Since wI w)
    (h : ∀ K : Act → World → Prop, (∀ a w, Since wI w → wpLex P wI ops Q rest a w → K a w) → o.wp P a w K QF) : wpLex P wI ops Q ((.ext, o) :: rest) a w := by
  show lexOp P wI ops .ext o _ a w
  unfold lexOp; rw [if_pos hw]; exact ⟨hs, h _ (fun _ _ h1 h2 => ⟨h1, h2⟩)⟩

end
attribute [irreducible] wpLex lexOp lexRun
end Go.Lx
namespace Go.Lx
open Go Go.RowKit
/-- a block of the call's own: its number, its type, its cells; none is frozen -/
structure Blk where
  b : Nat
  t : TypeId
  cs : List Value
def Blk.In (e : Blk) (w : World) : Prop := w.heap[e.b]? = some (.cells e.cs.toArray e.t (0, 0))

/-- THE WORLD w, SEEN FROM w0 ON: what w0 had stands as it stood; of the new blocks those of L are known -/
structure Sees (w0 w : World) (L : List Blk) : Prop where
  below : Below w0.heap.size w0 w
  own : ∀ e ∈ L, w0.heap.size ≤ e.b
  inn : ∀ e ∈ L, e.In w
  nd : (L.map (·.b)).Nodup

theorem Sees.refl (w : World) : Sees w w [] := ⟨Below.refl _ _, fun _ h => (by cases h), fun _ h => (by cases h), List.nodup_nil⟩

theorem Blk.In.lt {e : Blk} {w : World} (h : e.In w) : e.b < w.heap.size := by
  unfold Blk.In at h
  rcases Nat.lt_or_ge e.b w.heap.size with h' | h'
  · exact h'
  · rw [Array.getElem?_eq_none h'] at h; cases h

theorem Sees.size {w0 w : World} {L : List Blk} (h : Sees w0 w L) : w0.heap.size ≤ w.heap.size := h.below.size

theorem Sees.drew {w0 w : World} {L : List Blk} (h : Sees w0 w L) : Sees w0 w.drew L := ⟨h.below.drew, h.own, h.inn, h.nd⟩
theorem Sees.forget {w0 w : World} {L L' : List Blk} (h : Sees w0 w L) (hs : L'.Sublist L) : Sees w0 w L' :=
  ⟨h.below, fun e he => h.own e (hs.subset he), fun e he => h.inn e (hs.subset he), h.nd.sublist (hs.map _)⟩

theorem Sees.alloc {w0 w : World} {L : List Blk} (h : Sees w0 w L) (t : TypeId) (cs : List Value) :
    Sees w0 (w.alloc (.cells cs.toArray t)) (⟨w.heap.size, t, cs⟩ :: L) := by
  refine ⟨h.below.alloc h.size _, fun e he => ?_, fun e he => ?_, ?_⟩
  · rcases List.mem_cons.1 he with rfl | he
    · exact h.size
    · exact h.own e he
  · rcases List.mem_cons.1 he with rfl | he
    · exact (show (w.heap.push _)[w.heap.size]? = _ by simp)
    · exact (Below.heap_alloc w _ _ (h.inn e he).lt).trans (h.inn e he)
  · simp only [List.map_cons, List.nodup_cons]
    refine ⟨fun hm => ?_, h.nd⟩
    obtain ⟨e, he, hb⟩ := List.mem_map.1 hm
    have := (h.inn e he).lt
    omega
/-- a block that is not to be known -/
theorem Sees.allocAny {w0 w : World} {L : List Blk} (h : Sees w0 w L) (o : Obj) : Sees w0 (w.alloc o) L := by
  refine ⟨h.below.alloc h.size _, h.own, fun e he => ?_, h.nd⟩
  exact (Below.heap_alloc w _ _ (h.inn e he).lt).trans (h.inn e he)
/-- behind a call that leaves what there was -/
theorem Sees.call {w0 w w' : World} {L : List Blk} (h : Sees w0 w L) (hb : Below w.heap.size w w') : Sees w0 w' L :=
  ⟨h.below.trans (hb.mono h.size), h.own, fun e he => (hb.block _ (h.inn e he).lt).trans (h.inn e he), h.nd⟩
theorem Sees.perm {w0 w : World} {L M : List Blk} (h : Sees w0 w L) (hp : L.Perm M) : Sees w0 w M :=
  ⟨h.below, fun e he => h.own e (hp.mem_iff.2 he), fun e he => h.inn e (hp.mem_iff.2 he), (hp.map _).nodup_iff.1 h.nd⟩
theorem Sees.swap2 {w0 w : World} {x y : Blk} {L : List Blk} (h : Sees w0 w (x :: y :: L)) : Sees w0 w (y :: x :: L) := h.perm (List.Perm.swap _ _ _)
/-- a callee's blocks become the caller's -/
theorem Sees.join {w0 w w' : World} {L M : List Blk} (h : Sees w0 w L) (k : Sees w w' M) : Sees w0 w' (M ++ L) := by
  have h' := h.call k.below
  refine ⟨h'.below, fun e he => ?_, fun e he => ?_, ?_⟩
  · rcases List.mem_append.1 he with he | he
    · exact Nat.le_trans h.size (k.own e he)
    · exact h.own e he
  · rcases List.mem_append.1 he with he | he
    · exact k.inn e he
    · exact h'.inn e he
  · rw [List.map_append, List.nodup_append]
    refine ⟨k.nd, h.nd, fun x hx y hy => ?_⟩
    obtain ⟨e, he, rfl⟩ := List.mem_map.1 hx
    obtain ⟨f, hf, rfl⟩ := List.mem_map.1 hy
    have h1 := k.own e he
    have h2 := (h.inn f hf).lt
    omega

/-- L' is L with other cells in the block b -/
inductive Upd : List Blk → Nat → TypeId → List Value → List Value → List Blk → Prop
  | here {b t cs cs' L} : Upd (⟨b, t, cs⟩ :: L) b t cs cs' (⟨b, t, cs'⟩ :: L)
  | there {e L b t cs cs' L'} : Upd L b t cs cs' L' → Upd (e :: L) b t cs cs' (e :: L')
theorem Upd.mem {L L' : List Blk} {b : Nat} {t : TypeId} {cs cs' : List Value} (h : Upd L b t cs cs' L') : (⟨b, t, cs⟩ : Blk) ∈ L := by
  induction h with
  | here => exact .head _
  | there _ ih => exact .tail _ ih
theorem Upd.map {L L' : List Blk} {b : Nat} {t : TypeId} {cs cs' : List Value} (h : Upd L b t cs cs' L') : L'.map (·.b) = L.map (·.b) := by
  induction h with
  | here => rfl
  | there _ ih => simp [ih]
theorem Upd.cases {L L' : List Blk} {b : Nat} {t : TypeId} {cs cs' : List Value} (h : Upd L b t cs cs' L') (hn : (L.map (·.b)).Nodup) : ∀ e ∈ L', e = ⟨b, t, cs'⟩ ∨ (e ∈ L ∧ e.b ≠ b) := by
  induction h with
  | here =>
    intro e he
    rcases List.mem_cons.1 he with rfl | he
    · exact .inl rfl
    · refine .inr ⟨.tail _ he, fun hb => ?_⟩
      simp only [List.map_cons, List.nodup_cons] at hn
      exact hn.1 (hb ▸ List.mem_map.2 ⟨e, he, rfl⟩)
  | @there x L b t cs cs' L' hu ih =>
    intro e he
    simp only [List.map_cons, List.nodup_cons] at hn
    rcases List.mem_cons.1 he with rfl | he
    · refine .inr ⟨.head _, fun hb => ?_⟩
      exact hn.1 (hb ▸ List.mem_map.2 ⟨_, hu.mem, rfl⟩)
    · rcases ih hn.2 e he with h | ⟨h1, h2⟩
      · exact .inl h
      · exact .inr ⟨.tail _ h1, h2⟩

/-- the cells of a row turn -/
theorem Sees.upd {w0 w w' : World} {L L' : List Blk} {b : Nat} {t : TypeId} {cs cs' : List Value} (h : Sees w0 w L) (hu : Upd L b t cs cs' L')
    (hos : w'.os = w.os) (htape : w'.tape = w.tape) (hout : w'.output = w.output) (hsz : w'.heap.size = w.heap.size)
    (hb : w'.heap[b]? = some (.cells cs'.toArray t (0, 0))) (ho : ∀ k, k ≠ b → w'.heap[k]? = w.heap[k]?) : Sees w0 w' L' := by
  have hown := h.own _ hu.mem
  refine ⟨⟨hos.trans h.below.os, htape.trans h.below.tape, hout.trans h.below.output, by rw [hsz]; exact h.size, fun k hk => ?_⟩, fun e he => ?_, fun e he => ?_, by rw [hu.map]; exact h.nd⟩
  · have hown' : w0.heap.size ≤ b := hown
    exact (ho k (by omega)).trans (h.below.block k hk)
  · rcases hu.cases h.nd e he with rfl | ⟨h1, _⟩
    · exact hown
    · exact h.own e h1
  · rcases hu.cases h.nd e he with rfl | ⟨h1, h2⟩
    · exact hb
    · exact (ho e.b h2).trans (h.inn e h1)
theorem Sees.setCell {w0 w : World} {L L' : List Blk} {b i : Nat} {t : TypeId} {cs : List Value} {v : Value} (h : Sees w0 w L) (hu : Upd L b t cs (cs.set i v) L') :
    Sees w0 (w.setCell ⟨b, i, none⟩ v) L' := by
  have hin := h.inn _ hu.mem
  refine h.upd hu rfl rfl rfl (by simp) ?_ (fun k hk => heap_setCell_other w _ k v hk)
  have := heap_setCell_same w b i cs.toArray t v hin
  simpa using this

theorem Sees.cell {w0 w : World} {L : List Blk} (h : Sees w0 w L) {e : Blk} (he : e ∈ L) (i : Nat) : w.cell? ⟨e.b, i, none⟩ = e.cs[i]? := by
  have := cell_of_row w e.b i e.cs.toArray e.t (0, 0) (h.inn e he)
  simpa using this
theorem Sees.frozen {w0 w : World} {L : List Blk} (h : Sees w0 w L) {e : Blk} (he : e ∈ L) (i : Nat) : w.frozen? ⟨e.b, i, none⟩ = false :=
  frozen_of_row w e.b i e.cs.toArray e.t (h.inn e he)
theorem Sees.at {w0 w : World} {L : List Blk} (h : Sees w0 w L) {b : Nat} {t : TypeId} {cs : List Value} (hm : (⟨b, t, cs⟩ : Blk) ∈ L) {i : Nat} {v : Value} (hv : cs[i]? = some v) : w.cell? ⟨b, i, none⟩ = some v :=
  (h.cell hm i).trans hv
theorem Sees.row {w0 w : World} {L : List Blk} (h : Sees w0 w L) {b : Nat} {t : TypeId} {cs : List Value} (hm : (⟨b, t, cs⟩ : Blk) ∈ L) (j : Nat) (v : Value) (hv : cs[j]? = some v) : w.cell? ((⟨b, 0, none⟩ : Addr).add j) = some v := by
  have e : (⟨b, 0, none⟩ : Addr).add j = ⟨b, j, none⟩ := by unfold Addr.add; split <;> simp_all
  rw [e]; exact h.at hm hv
theorem Sees.old {w0 w : World} {L : List Blk} (h : Sees w0 w L) {a : Addr} {v : Value} (hc : w0.cell? a = some v) : w.cell? a = some v :=
  (h.below.cell (World.block_lt_of_cell? w0 a hc)).trans hc

/-- a value of one cell -/
def _root_.Go.Value.one1 : Value → Bool
  | .agg _ | .tuple _ => false
  | _ => true

section
variable {P : Program} {o : Oper} {a : Act} {w0 w : World} {L : List Blk} {K : Act → World → Prop} {Q : Exit → Act → World → Prop}
theorem wp_box (hL : Sees w0 w L) (T : TypeId) (x : Operand) (ho : o.op = .box T x) (v : Value) (hx : a.eval x = v) (cs : List Value) (hcs : v.cells = cs.toArray)
    (h : ∀ b w', Sees w0 w' (⟨b, T, cs⟩ :: L) → K (a.put o.dst (.pointer (some ⟨b, 0, none⟩))) w') : o.wp P a w K Q := by
  unfold Oper.wp execOp
  simp only [ho, hx, Instr.box, newVar, newRow, newObj, hcs]
  exact h w.heap.size (w.alloc (.cells cs.toArray T)) (hL.alloc T cs)

/-- the zero of a type, as a list of cells -/
def zeroOf (P : Program) (t : TypeId) : Option (List Value) := ((P.info? t).bind (·.zero)).map fun v => v.cells.toList
theorem run_zeroValue {t : TypeId} {cs : List Value} (h : zeroOf P t = some cs) (w : World) : ∃ v, (zeroValue t).run P w = .ok v w ∧ v.cells = cs.toArray := by
  unfold zeroOf at h
  cases hi : P.info? t with
  | none => simp [hi] at h
  | some i =>
    cases hz : i.zero with
    | none => simp [hi, hz] at h
    | some z =>
      refine ⟨z, by simp [zeroValue, typeInfo, Sem.run_bind, hi, hz], ?_⟩
      simp [hi, hz] at h
      rw [← h]
theorem wp_alloc (hL : Sees w0 w L) (T : TypeId) (ho : o.op = .alloc T) (cs : List Value) (hz : zeroOf P T = some cs)
    (h : ∀ b w', Sees w0 w' (⟨b, T, cs⟩ :: L) → K (a.put o.dst (.pointer (some ⟨b, 0, none⟩))) w') : o.wp P a w K Q := by
  obtain ⟨z, hrun, hzc⟩ := run_zeroValue hz w
  unfold Oper.wp execOp
  simp only [ho, Instr.alloc, Sem.run_bind, hrun, Result.andThen_ok]
  simp only [newVar, newRow, newObj, hzc]
  exact h w.heap.size (w.alloc (.cells cs.toArray T)) (hL.alloc T cs)

def plainVar (P : Program) (t : TypeId) : Bool := match P.underlying t with | some (.struct _) | some (.array _ _) | none => false | _ => true
def aggVar (P : Program) (t : TypeId) : Option Nat := match P.underlying t with | some (.struct _) | some (.array _ _) => (P.info? t).map (·.size) | _ => none

theorem run_loadVar_plain {t : TypeId} (ht : plainVar P t = true) {ad : Addr} {v : Value} (hc : w.cell? ad = some v) : (loadVar t ad).run P w = .ok v w := by
  unfold plainVar at ht
  cases hu : P.underlying t with
  | none => simp [hu] at ht
  | some d =>
    have hagg : (isAgg t).run P w = .ok false w := by
      unfold isAgg
      rw [Sem.run_bind, run_underlying hu w]
      cases d <;> simp_all
    simp [loadVar, Sem.run_bind, hagg, run_load, hc]
theorem run_loadVar_agg {t : TypeId} {n : Nat} (ht : aggVar P t = some n) {ad : Addr} {vs : List Value} (hn : vs.length = n) (hc : ∀ j v, vs[j]? = some v → w.cell? (ad.add j) = some v) :
    (loadVar t ad).run P w = .ok (.agg vs.toArray) w := by
  unfold aggVar at ht
  cases hu : P.underlying t with
  | none => simp [hu] at ht
  | some d =>
    have hagg : (isAgg t).run P w = .ok true w := by
      unfold isAgg
      rw [Sem.run_bind, run_underlying hu w]
      cases d <;> simp_all
    have hi : (P.info? t).map (·.size) = some n := by cases d <;> simp_all
    cases hq : P.info? t with
    | none => simp [hq] at hi
    | some i =>
      have hs : i.size = n := by simpa [hq] using hi
      have hl := run_loadCells_list (P := P) w ad vs hc
      rw [hn] at hl
      simp [loadVar, Sem.run_bind, hagg, sizeOf, typeInfo, hq, hs, hl]

theorem run_load_plain {T : TypeId} {x : Operand} (ho : o.op = .load T x) (ht : plainVar P T = true) {ad : Addr} (hx : a.eval x = .pointer (some ad)) {v : Value} (hc : w.cell? ad = some v) :
    (execOp a.eval o).run P w = .ok (.value v) w := by
  unfold execOp
  simp only [ho, hx, Instr.loadAt, Instr.sureAddr, Sem.run_bind, Sem.run_pure, Result.andThen_ok, run_loadVar_plain ht hc]
theorem run_load_agg {T : TypeId} {x : Operand} (ho : o.op = .load T x) {n : Nat} (ht : aggVar P T = some n) {ad : Addr} (hx : a.eval x = .pointer (some ad)) {vs : List Value} (hn : vs.length = n)
    (hc : ∀ j v, vs[j]? = some v → w.cell? (ad.add j) = some v) : (execOp a.eval o).run P w = .ok (.value (.agg vs.toArray)) w := by
  unfold execOp
  simp only [ho, hx, Instr.loadAt, Instr.sureAddr, Sem.run_bind, Sem.run_pure, Result.andThen_ok, run_loadVar_agg ht hn hc]

theorem run_load_row (hL : Sees w0 w L) {T : TypeId} {x : Operand} (ho : o.op = .load T x) {n : Nat} (ht : aggVar P T = some n) {b : Nat} (hx : a.eval x = .pointer (some ⟨b, 0, none⟩)) {t : TypeId} {vs : List Value} (hm : (⟨b, t, vs⟩ : Blk) ∈ L) (hn : vs.length = n) :
    (execOp a.eval o).run P w = .ok (.value (.agg vs.toArray)) w := run_load_agg ho ht hx hn (hL.row hm)

theorem wp_of_run {v : Value} (hr : (execOp a.eval o).run P w = .ok (.value v) w) (h : K (a.put o.dst v) w) : o.wp P a w K Q := by
  unfold Oper.wp; rw [hr]; exact h

theorem run_storeCells {w0 : World} : ∀ (vs : List Value) (w : World) (L L' : List Blk) (b i j : Nat) (t : TypeId) (pre cs post : List Value), Sees w0 w L → (∀ v ∈ vs, v.one1 = true) → pre.length = i + j → cs.length = vs.length →
    Upd L b t (pre ++ cs ++ post) (pre ++ vs ++ post) L' → ∃ w', (storeCells ⟨b, i, none⟩ vs j).run P w = .ok () w' ∧ Sees w0 w' L'
  | [], w, L, L', b, i, j, t, pre, cs, post, hL, _, _, hcs, hu => by
    refine ⟨w, by simp [storeCells], ?_⟩
    have : cs = [] := List.eq_nil_of_length_eq_zero (by simpa using hcs)
    subst this
    exact hL.upd hu rfl rfl rfl rfl (hL.inn _ hu.mem) (fun _ _ => rfl)
  | v :: vs, w, L, L', b, i, j, t, pre, cs, post, hL, h1, hpre, hcs, hu => by
    cases cs with
    | nil => simp at hcs
    | cons c cs =>
      have hv : v.one1 = true := h1 v (.head _)
      -- the list between
      have key : ∃ Lm, Upd L b t (pre ++ (c :: cs) ++ post) ((pre ++ (c :: cs) ++ post).set (i + j) v) Lm ∧ Upd Lm b t ((pre ++ [v]) ++ cs ++ post) ((pre ++ [v]) ++ vs ++ post) L' := by
        have e1 : (pre ++ (c :: cs) ++ post).set (i + j) v = (pre ++ [v]) ++ cs ++ post := by
          rw [← hpre]; simp
        have e2 : pre ++ (v :: vs) ++ post = (pre ++ [v]) ++ vs ++ post := by simp
        rw [e1]
        rw [e2] at hu
        generalize pre ++ (c :: cs) ++ post = X at hu ⊢
        generalize (pre ++ [v]) ++ cs ++ post = Y
        generalize (pre ++ [v]) ++ vs ++ post = Z at hu ⊢
        clear hL
        induction hu with
        | here => exact ⟨_, .here, .here⟩
        | there _ ih => obtain ⟨Lm, h1, h2⟩ := ih; exact ⟨_, .there h1, .there h2⟩
      obtain ⟨Lm, hu1, hu2⟩ := key
      have hadd : (⟨b, i, none⟩ : Addr).add j = ⟨b, i + j, none⟩ := by unfold Addr.add; split <;> simp_all
      have hcell : w.cell? ⟨b, i + j, none⟩ = some c := by
        have := hL.cell hu1.mem (i + j)
        rw [this, ← hpre]
        simp
      have hfr := hL.frozen hu1.mem (i + j)
      obtain ⟨w', hrun, hL'⟩ := run_storeCells vs (w.setCell ⟨b, i + j, none⟩ v) Lm L' b i (j + 1) t (pre ++ [v]) cs post (hL.setCell hu1) (fun x hx => h1 x (.tail _ hx)) (by simp; omega) (by simpa using hcs) hu2
      refine ⟨w', ?_, hL'⟩
      have hst : (store (⟨b, i + j, none⟩ : Addr) v).run P w = .ok () (w.setCell ⟨b, i + j, none⟩ v) := by
        cases v <;> simp [Value.one1] at hv <;> simp [store, Sem.run, hcell, hfr]
      simp only [storeCells, Sem.run_bind, hadd, hst, Result.andThen_ok, hrun]

theorem wp_store (hL : Sees w0 w L) (T : TypeId) (x y : Operand) (ho : o.op = .store T x y) (b i : Nat) (hx : a.eval x = .pointer (some ⟨b, i, none⟩)) (v : Value) (hy : a.eval y = v)
    (n : Nat) (hT : (P.info? T).map (·.size) = some n) (t : TypeId) (pre cs vs post : List Value) (L' : List Blk) (hv : v.cells = vs.toArray) (h1 : ∀ u ∈ vs, u.one1 = true) (hpre : pre.length = i)
    (hn : vs.length = n) (hcs : cs.length = n) (hu : Upd L b t (pre ++ cs ++ post) (pre ++ vs ++ post) L') (h : ∀ w', Sees w0 w' L' → K (a.put o.dst undef) w') : o.wp P a w K Q := by
  obtain ⟨w', hrun, hL'⟩ := run_storeCells (P := P) vs w L L' b i 0 t pre cs post hL h1 (by simpa using hpre) (by omega) hu
  cases hq : P.info? T with
  | none => simp [hq] at hT
  | some inf =>
    have hs : inf.size = n := by simpa [hq] using hT
    unfold Oper.wp execOp
    simp only [ho, hx, hy, Instr.storeAt, Instr.sureAddr, storeVar, sizeOf, typeInfo, hv]
    simp [Sem.run_bind, hq, hs, hn, hrun]
    exact h w' hL'

variable {ops : Array Oper} {rest : List Oper}
theorem wpl_box (hL : Sees w0 w L) (hw : Region.wanted o (yielded ops a.tmps) = true) (T : TypeId) (x : Operand) (ho : o.op = .box T x) (v : Value) (hx : a.eval x = v) (cs : List Value) (hcs : v.cells = cs.toArray)
    (h : ∀ b w', Sees w0 w' (⟨b, T, cs⟩ :: L) → wpList P ops Q rest (a.put o.dst (.pointer (some ⟨b, 0, none⟩))) w') : wpList P ops Q (o :: rest) a w :=
  BigFrame.wpList_want hw fun _ hK => wp_box hL T x ho v hx cs hcs fun b w' hb => hK _ _ (h b w' hb)
theorem wpl_alloc (hL : Sees w0 w L) (hw : Region.wanted o (yielded ops a.tmps) = true) (T : TypeId) (ho : o.op = .alloc T) (cs : List Value) (hz : zeroOf P T = some cs)
    (h : ∀ b w', Sees w0 w' (⟨b, T, cs⟩ :: L) → wpList P ops Q rest (a.put o.dst (.pointer (some ⟨b, 0, none⟩))) w') : wpList P ops Q (o :: rest) a w :=
  BigFrame.wpList_want hw fun _ hK => wp_alloc hL T ho cs hz fun b w' hb => hK _ _ (h b w' hb)
theorem wpl_run (hw : Region.wanted o (yielded ops a.tmps) = true) {v : Value} (hr : (execOp a.eval o).run P w = .ok (.value v) w) (h : wpList P ops Q rest (a.put o.dst v) w) : wpList P ops Q (o :: rest) a w :=
  BigFrame.wpList_want hw fun _ hK => wp_of_run hr (hK _ _ h)
variable {wI : World} {lrest : List (Cls × Oper)} {QL : Act → World → Prop}
theorem x_alloc (hL : Sees w0 w L) (hw : Region.wanted o (yielded ops a.tmps) = true) (T : TypeId) (ho : o.op = .alloc T) (cs : List Value) (hz : zeroOf P T = some cs)
    (h : ∀ b w', Sees w0 w' (⟨b, T, cs⟩ :: L) → wpLex P wI ops QL lrest (a.put o.dst (.pointer (some ⟨b, 0, none⟩))) w') : wpLex P wI ops QL ((.eff, o) :: lrest) a w :=
  wpLex_eff hw fun _ hK => wp_alloc hL T ho cs hz fun b w' hb => hK _ _ (h b w' hb)
/-- a function that is entered -/
def enterable (P : Program) (f : FuncId) : Bool := match P.funcs[f]? with | some fn => fn.body.isSome && fn.name != "runtime.NumGoroutine" | none => false
theorem exec_call {f : FuncId} (he : enterable P f = true) {c : Call} (ho : o.op = .call c) {x : Operand} (hc : c.callee = .value x) (hx : a.eval x = .func (.func f) #[] #[]) (w : World) :
    (execOp a.eval o).run P w = .ok (.enter f (c.args.toList.map a.eval).toArray) w := by
  unfold enterable at he
  cases hf : P.funcs[f]? with
  | none => simp [hf] at he
  | some fn =>
    simp only [hf, Bool.and_eq_true, bne_iff_ne, ne_eq] at he
    have hb : fn.body.isNone = false := by cases h : fn.body <;> simp_all
    have hn : (fn.name == "runtime.NumGoroutine") = false := by simpa using he.2
    unfold execOp
    simp only [ho, resolve, hc, hx, Deferred.ofValue]
    have hb' : ¬ fn.body = none := by intro h; rw [h] at hb; simp at hb
    simp [Sem.run_bind, invoke, callFunc, program, Sem.run, hf, hb', he.2, ← Array.toList_map]
theorem x_call {f : FuncId} (he : enterable P f = true) (hw : Region.wanted o (yielded ops a.tmps) = true) {c : Call} (ho : o.op = .call c) {x : Operand} (hc : c.callee = .value x) (hx : a.eval x = .func (.func f) #[] #[]) {R : Ending → World → Prop} (hcall : Calls P f (c.args.toList.map a.eval).toArray w R)
    (h : ∀ e w', R e w' → ∃ v, e = .returned v ∧ wpLex P wI ops QL lrest (a.put o.dst v) w') : wpLex P wI ops QL ((.eff, o) :: lrest) a w :=
  wpLex_eff hw fun _ hK => by
    unfold Oper.wp; rw [exec_call he ho hc hx w]
    refine hcall.mono fun e w' h' => ?_
    obtain ⟨v, rfl, hk⟩ := h e w' h'
    exact hK _ _ hk
theorem xx_call {f : FuncId} (he : enterable P f = true) (hw : Region.wanted o (yielded ops a.tmps) = true) (hs : Since wI w) {c : Call} (ho : o.op = .call c) {x : Operand} (hc : c.callee = .value x) (hx : a.eval x = .func (.func f) #[] #[]) {R : Ending → World → Prop} (hcall : Calls P f (c.args.toList.map a.eval).toArray w R)
    (h : ∀ e w', R e w' → ∃ v, e = .returned v ∧ Since wI w' ∧ wpLex P wI ops QL lrest (a.put o.dst v) w') : wpLex P wI ops QL ((.ext, o) :: lrest) a w :=
  wpLex_ext hw hs fun _ hK => by
    unfold Oper.wp; rw [exec_call he ho hc hx w]
    refine hcall.mono fun e w' h' => ?_
    obtain ⟨v, rfl, hs', hk⟩ := h e w' h'
    exact hK _ _ hs' hk

/-- a store over a whole row -/
theorem wp_strow (hL : Sees w0 w L) (T : TypeId) (x y : Operand) (ho : o.op = .store T x y) (b : Nat) (hx : a.eval x = .pointer (some ⟨b, 0, none⟩)) (v : Value) (hy : a.eval y = v)
    (n : Nat) (hT : (P.info? T).map (·.size) = some n) (vs : List Value) (hv : v.cells = vs.toArray) (t : TypeId) (cs : List Value) (L' : List Blk) (hu : Upd L b t cs vs L') (h1 : ∀ u ∈ vs, u.one1 = true)
    (hn : vs.length = n) (hcs : cs.length = n) (h : ∀ w', Sees w0 w' L' → K (a.put o.dst undef) w') : o.wp P a w K Q :=
  wp_store hL T x y ho b 0 hx v hy n hT t [] cs vs [] L' hv h1 rfl hn hcs (by simpa using hu) h
theorem wpl_strow (hL : Sees w0 w L) (hw : Region.wanted o (yielded ops a.tmps) = true) (T : TypeId) (x y : Operand) (ho : o.op = .store T x y) (b : Nat) (hx : a.eval x = .pointer (some ⟨b, 0, none⟩)) (v : Value) (hy : a.eval y = v)
    (n : Nat) (hT : (P.info? T).map (·.size) = some n) (vs : List Value) (hv : v.cells = vs.toArray) (t : TypeId) (cs : List Value) (L' : List Blk) (hu : Upd L b t cs vs L') (h1 : ∀ u ∈ vs, u.one1 = true)
    (hn : vs.length = n) (hcs : cs.length = n) (h : ∀ w', Sees w0 w' L' → wpList P ops Q rest (a.put o.dst undef) w') : wpList P ops Q (o :: rest) a w :=
  BigFrame.wpList_want hw fun _ hK => wp_strow hL T x y ho b hx v hy n hT vs hv t cs L' hu h1 hn hcs fun w' hb => hK _ _ (h w' hb)
theorem x_strow (hL : Sees w0 w L) (hw : Region.wanted o (yielded ops a.tmps) = true) (T : TypeId) (x y : Operand) (ho : o.op = .store T x y) (b : Nat) (hx : a.eval x = .pointer (some ⟨b, 0, none⟩)) (v : Value) (hy : a.eval y = v)
    (n : Nat) (hT : (P.info? T).map (·.size) = some n) (vs : List Value) (hv : v.cells = vs.toArray) (t : TypeId) (cs : List Value) (L' : List Blk) (hu : Upd L b t cs vs L') (h1 : ∀ u ∈ vs, u.one1 = true)
    (hn : vs.length = n) (hcs : cs.length = n) (h : ∀ w', Sees w0 w' L' → wpLex P wI ops QL lrest (a.put o.dst undef) w') : wpLex P wI ops QL ((.eff, o) :: lrest) a w :=
  wpLex_eff hw fun _ hK => wp_strow hL T x y ho b hx v hy n hT vs hv t cs L' hu h1 hn hcs fun w' hb => hK _ _ (h w' hb)

theorem bodyPost_cell {fn : Func} {p : Tmp} {ty : TypeId} {R : Ending → World → Prop} {n b : Nat} {t : TypeId} {cs : List Value} (hres : fn.results = #[.cell p ty]) (ht : aggVar P ty = some n) (hp : a.tmps.getD p undef = .pointer (some ⟨b, 0, none⟩)) (hd : a.defers = [])
    (hL : Sees w0 w L) (hm : (⟨b, t, cs⟩ : Blk) ∈ L) (hn : cs.length = n) (hR : R (.returned (.agg cs.toArray)) w) : bodyPost P fn R .ret a w := by
  refine bodyPost_ret (v := .agg cs.toArray) ?_ hd hR
  have hp' : a.tmps[p]?.getD undef = .pointer (some ⟨b, 0, none⟩) := by simpa using hp
  have := run_loadVar_agg (P := P) (w := w) ht hn (ad := ⟨b, 0, none⟩) (hL.row hm)
  simp [results, hres, hp', asAddr, this]
end
end Go.Lx
namespace Go.Lx
open Go Go.RowKit
/-- the slice v holds n elements, in the cells vs, one after the other -/
structure Rd (w : World) (v : Value) (n size : Nat) (vs : List Value) : Prop where
  shape : ∃ a cap, v = .slice a n cap ∧ (vs ≠ [] → ∃ ad, a = some ad ∧ ∀ j x, vs[j]? = some x → w.cell? (ad.add j) = some x)
  len : vs.length = n * size
theorem Rd.below {w w' : World} {v : Value} {n size : Nat} {vs : List Value} (h : Rd w v n size vs) (hb : Below w.heap.size w w') : Rd w' v n size vs := by
  obtain ⟨⟨a, cap, hv, h1⟩, h2⟩ := h
  refine ⟨⟨a, cap, hv, fun hn => ?_⟩, h2⟩
  obtain ⟨ad, ha, hc⟩ := h1 hn
  exact ⟨ad, ha, fun j x hx => (hb.cell (World.block_lt_of_cell? w _ (hc j x hx))).trans (hc j x hx)⟩
theorem Rd.sees {w w' : World} {L : List Blk} {v : Value} {n size : Nat} {vs : List Value} (h : Rd w v n size vs) (hL : Sees w w' L) : Rd w' v n size vs := h.below hL.below

/-- the slice v, of n elements of type e (size cells each), holds the cells xs; it is nil, or lies at the head of a row of the call's own (Lv: that row) -/
inductive IsSl (v : Value) (e : TypeId) (size n : Nat) (xs : List Value) (Lv : List Blk) : Prop
  | nil (hv : v = .slice none 0 0) (hn : n = 0) (hx : xs = []) (hl : Lv = []) : IsSl v e size n xs Lv
  | row (b cap : Nat) (rest : List Value) (hv : v = .slice (some ⟨b, 0, none⟩) n cap) (hx : xs.length = n * size) (hc : (xs ++ rest).length = cap * size) (hn : n ≤ cap) (hm : cap ≤ maxLen) (hl : Lv = [⟨b, e, xs ++ rest⟩]) : IsSl v e size n xs Lv

theorem IsSl.len {v : Value} {e : TypeId} {size n : Nat} {xs : List Value} {Lv : List Blk} (h : IsSl v e size n xs Lv) : xs.length = n * size := by
  cases h with
  | nil _ hn hx _ => simp [hn, hx]
  | row _ _ _ _ hx => exact hx
theorem IsSl.rd {w0 w : World} {L : List Blk} {v : Value} {e : TypeId} {size n : Nat} {xs : List Value} {Lv : List Blk} (h : IsSl v e size n xs Lv) (hL : Sees w0 w L) (hs : ∀ x ∈ Lv, x ∈ L) : Rd w v n size xs := by
  cases h with
  | nil hv hn hx hl => exact ⟨⟨none, 0, by rw [hv, hn], fun h => absurd hx h⟩, by simp [hn, hx]⟩
  | row b cap rest hv hx hc hn hm hl =>
    refine ⟨⟨some ⟨b, 0, none⟩, cap, hv, fun _ => ⟨_, rfl, fun j x hj => ?_⟩⟩, hx⟩
    refine hL.row (t := e) (cs := xs ++ rest) (hs _ (by rw [hl]; exact .head _)) j x ?_
    rw [List.getElem?_append_left]
    · exact hj
    · rcases Nat.lt_or_ge j xs.length with h | h
      · exact h
      · rw [List.getElem?_eq_none h] at hj; cases hj

theorem all_cell' {vs : List Value} (h : ∀ u ∈ vs, u.one1 = true) : ∀ u ∈ vs, u.oneCell' = true := fun u hu => by
  have := h u hu
  cases u <;> simp_all [Value.one1, Value.oneCell']

/-- a row among others gets other cells -/
theorem Upd.mid {P0 S : List Blk} {b : Nat} {t : TypeId} {cs cs' : List Value} : Upd (P0 ++ (⟨b, t, cs⟩ :: S)) b t cs cs' (P0 ++ (⟨b, t, cs'⟩ :: S)) := by
  induction P0 with
  | nil => exact .here
  | cons x P0 ih => exact .there ih

/-- a new block in the place of one that is given up -/
theorem Sees.swap {w0 w w' : World} {P0 Lv S : List Blk} {t : TypeId} {cs : List Value} (h : Sees w0 w (P0 ++ (Lv ++ S))) (hw : w' = w.drew.alloc (.cells cs.toArray t)) :
    Sees w0 w' (P0 ++ ([⟨w.heap.size, t, cs⟩] ++ S)) := by
  subst hw
  have h1 : Sees w0 w (P0 ++ S) := h.forget (List.Sublist.append (List.Sublist.refl _) (List.sublist_append_right _ _))
  have h2 := h1.drew.alloc t cs
  refine ⟨h2.below, fun e he => h2.own e ?_, fun e he => h2.inn e ?_, ?_⟩
  · simp only [List.mem_append, List.mem_cons, List.not_mem_nil, or_false] at he ⊢
    rcases he with he | rfl | he
    · exact .inr (.inl he)
    · exact .inl rfl
    · exact .inr (.inr he)
  · simp only [List.mem_append, List.mem_cons, List.not_mem_nil, or_false] at he ⊢
    rcases he with he | rfl | he
    · exact .inr (.inl he)
    · exact .inl rfl
    · exact .inr (.inr he)
  · have hp : (P0 ++ ([(⟨w.heap.size, t, cs⟩ : Blk)] ++ S)).Perm (⟨w.heap.size, t, cs⟩ :: (P0 ++ S)) := by
      simp
    exact (hp.map (·.b)).nodup_iff.2 h2.nd

section
variable {P : Program} {o : Oper} {a : Act} {w0 w : World} {K : Act → World → Prop} {Q : Exit → Act → World → Prop}
/-- APPEND to a slice of the call's own -/
theorem wp_append {P0 Lv S : List Blk} (hL : Sees w0 w (P0 ++ (Lv ++ S))) {v : Value} {e : TypeId} {size n : Nat} {xs : List Value} (hs : IsSl v e size n xs Lv) (T : TypeId) (s x : Operand)
    (ho : o.op = .call { callee := .builtin .append, args := #[s, x], argTypes := #[T, T] }) (hv : a.eval s = v) (zs : List Value) (bytes : Nat)
    (hT : P.underlying T = some (.slice e)) (hi : (P.info? e).map (fun i => (i.zero.map fun z => z.cells.toList, i.size, i.bytes)) = some (some zs, size, bytes)) (hzs : zs.length = size)
    (ad : Addr) (m c : Nat) (news : List Value) (hx : a.eval x = .slice (some ad) m c) (hl : news.length = m * size) (hnews : ∀ j u, news[j]? = some u → w.cell? (ad.add j) = some u) (h1 : ∀ u ∈ news, u.one1 = true)
    (h63 : n + m ≤ maxLen) (hbytes : (n + m) * bytes ≤ 140737488355328)
    (h : ∀ v' w' Lv', Sees w0 w' (P0 ++ (Lv' ++ S)) → IsSl v' e size (n + m) (xs ++ news) Lv' → K (a.put o.dst v') w') : o.wp P a w K Q := by
  cases hq : P.info? e with
  | none => simp [hq] at hi
  | some i =>
    cases hz : i.zero with
    | none => simp [hq, hz] at hi
    | some z =>
      simp only [hq, hz, Option.map_some, Option.some.injEq, Prod.mk.injEq] at hi
      obtain ⟨hz1, hsz, hby⟩ := hi
      subst hsz; subst hby
      have hzc : z.cells.size = i.size := by rw [← hzs, ← hz1]; simp
      have hsmall : n + m ≤ 9223372036854775807 := by simp only [maxLen] at h63; omega
      have hlen : (xs ++ news).length = (n + m) * i.size := by rw [List.length_append, hs.len, hl, Nat.add_mul]
      have goal : ∀ v' w', (Builtin.append_ #[T, T] o.type #[v, .slice (some ad) m c]).run P w = .ok v' w' → K (a.put o.dst v') w' → o.wp P a w K Q := fun v' w' hr hk => by
        unfold Oper.wp execOp
        simp only [ho, resolve, invoke, builtin]
        simp [Sem.run_bind, hv, hx, hr]
        exact hk
      have grown : ∀ old, ∃ rest, xs.toArray ++ news.toArray ++ Builtin.zeroCells z.cells (grownCap w (n + m) old e - (n + m)) = (xs ++ news ++ rest).toArray ∧ (xs ++ news ++ rest).length = grownCap w (n + m) old e * i.size := fun old => by
        have hge := grownCap_ge w (n + m) old e
        refine ⟨(Builtin.zeroCells z.cells (grownCap w (n + m) old e - (n + m))).toList, by simp, ?_⟩
        rw [List.length_append, hlen, Array.length_toList, size_zeroCells, hzc, ← Nat.add_mul]
        congr 1; omega
      cases hs with
      | nil hv' hn hx' hl' =>
        subst hv'; subst hn; subst hx'; subst hl'
        by_cases hm : m = 0
        · subst hm
          have hn : news = [] := List.eq_nil_of_length_eq_zero (by simpa using hl)
          subst hn
          refine goal (.slice none 0 0) w ?_ (h _ _ [] hL (.nil rfl rfl rfl rfl))
          simp [Builtin.append_, run_underlying hT, sizeOf, typeInfo, hq, Builtin.lenOf, Builtin.firstCells, loadCells, loadCellsFrom]
        · have hr := run_append_nil (P := P) w T o.type e i z hT hq hz ad m c news hl hnews (by omega) (by omega) (by have hb := hbytes; simp only [Nat.zero_add] at hb; omega)
          obtain ⟨rest, hg1, hg2⟩ := grown 0
          simp only [Nat.zero_add, List.nil_append, Array.empty_append] at hg1 hg2
          refine goal _ _ hr (h _ _ [⟨w.heap.size, e, news ++ rest⟩] ?_ (.row w.heap.size (grownCap w m 0 e) rest (by simp) (by simpa using hl) (by simpa using hg2) (by simpa using grownCap_ge w m 0 e) (grownCap_le_maxLen w m 0 e (by omega)) (by simp)))
          exact hL.swap (by rw [hg1])
      | row b cap rest hv' hx' hc' hn hm hl' =>
        subst hv'; subst hl'
        have hin : w.heap[b]? = some (.cells (xs ++ rest).toArray e (0, 0)) := hL.inn ⟨b, e, xs ++ rest⟩ (by simp)
        by_cases hroom : n + m ≤ cap
        · have hfit : n * i.size + news.length ≤ (xs ++ rest).toArray.size := by
            rw [List.size_toArray, hc', hl, ← Nat.add_mul]; exact Nat.mul_le_mul_right _ hroom
          have hr := run_append_room (P := P) w T o.type e i hT hq b n cap _ hin ad m c news hl hnews (all_cell' h1) hroom hfit
          have e1 : (xs ++ rest).toArray.toList.take (n * i.size) = xs := by simp [← hx']
          have e2 : (xs ++ rest).toArray.toList.drop (n * i.size + news.length) = rest.drop news.length := by simp [← hx']
          rw [e1, e2] at hr
          have hrl : news.length ≤ rest.length := by
            rw [List.size_toArray, List.length_append, ← hx'] at hfit; omega
          refine goal _ _ hr (h _ _ [⟨b, e, xs ++ news ++ rest.drop news.length⟩] ?_ (.row b cap (rest.drop news.length) rfl hlen ?_ hroom hm rfl))
          · exact hL.upd (Upd.mid (S := S)) rfl rfl rfl (by simp) (setRow_heap w b _ _ e _ hin) (fun k hk => setRow_other w b k _ hk)
          · rw [← hc']; simp; omega
        · have holds : ∀ j u, xs[j]? = some u → w.cell? ((⟨b, 0, none⟩ : Addr).add j) = some u := fun j u hj => by
            refine hL.row (t := e) (cs := xs ++ rest) (by simp) j u ?_
            rw [List.getElem?_append_left]
            · exact hj
            · rcases Nat.lt_or_ge j xs.length with h | h
              · exact h
              · rw [List.getElem?_eq_none h] at hj; cases hj
          have hr := run_append_grow (P := P) w T o.type e i z hT hq hz ⟨b, 0, none⟩ n cap xs hx' holds ad m c news hl hnews (by omega) (by omega) (growslice_fits (by omega) hbytes)
          obtain ⟨rest', hg1, hg2⟩ := grown cap
          refine goal _ _ hr (h _ _ [⟨w.heap.size, e, xs ++ news ++ rest'⟩] ?_ (.row w.heap.size (grownCap w (n + m) cap e) rest' rfl hlen hg2 (grownCap_ge w (n + m) cap e) (grownCap_le_maxLen w (n + m) cap e h63) rfl))
          exact hL.swap (by rw [hg1])

inductive EvalAll (a : Act) (size : Nat) : List (Nat × Operand) → Nat → List Value → Prop
  | nil (k : Nat) : EvalAll a size [] k []
  | cons {x : Operand} {ps : List (Nat × Operand)} {k : Nat} {cs vs : List Value} (h : (a.eval x).cells = cs.toArray) (hn : cs.length = size) (r : EvalAll a size ps (k + 1) vs) : EvalAll a size ((k, x) :: ps) k (cs ++ vs)
theorem EvalAll.len {size : Nat} {ps : List (Nat × Operand)} {k : Nat} {vs : List Value} (h : EvalAll a size ps k vs) : vs.length = ps.length * size := by
  induction h with
  | nil => simp
  | cons _ hn _ ih => simp [hn, ih, Nat.add_mul]; omega
theorem foldl_cells (off : Nat) : ∀ (cs : List Value) (j : Nat) (pre mid post : List Value), pre.length = off + j → mid.length = cs.length →
    (cs.zipIdx j).foldl (fun (l : Array Value) (x : Value × Nat) => l.setIfInBounds (off + x.2) x.1) (pre ++ mid ++ post).toArray = (pre ++ cs ++ post).toArray
  | [], j, pre, mid, post, _, hm => by
    have : mid = [] := List.eq_nil_of_length_eq_zero (by simpa using hm)
    subst this; simp
  | c :: cs, j, pre, [], post, _, hm => by simp at hm
  | c :: cs, j, pre, m :: mid, post, hp, hm => by
    have e1 : (pre ++ (m :: mid) ++ post).toArray.setIfInBounds (off + j) c = ((pre ++ [c]) ++ mid ++ post).toArray := by
      rw [List.setIfInBounds_toArray, ← hp]; simp
    have := foldl_cells off cs (j + 1) (pre ++ [c]) mid post (by simp; omega) (by simpa using hm)
    simp only [List.zipIdx_cons, List.foldl_cons]
    rw [e1, this]; simp
theorem fill_all {size : Nat} : ∀ {ps : List (Nat × Operand)} {k : Nat} {vs : List Value}, EvalAll a size ps k vs → ∀ (pre mid post : List Value), pre.length = k * size → mid.length = vs.length →
    Instr.fill (fun i => some (i * size, size)) (pre ++ mid ++ post).toArray (ps.map fun p => (p.1, a.eval p.2)) = some (pre ++ vs ++ post).toArray := by
  intro ps k vs h
  induction h with
  | nil k =>
    intro pre mid post _ hm
    have : mid = [] := List.eq_nil_of_length_eq_zero (by simpa using hm)
    subst this; simp [Instr.fill]
  | @cons x ps k cs vs hc hn r ih =>
    intro pre mid post hp hm
    have hlen : mid.length = cs.length + vs.length := by simpa using hm
    obtain ⟨m1, m2, rfl, h1, h2⟩ : ∃ m1 m2, mid = m1 ++ m2 ∧ m1.length = cs.length ∧ m2.length = vs.length := ⟨mid.take cs.length, mid.drop cs.length, by simp, by simp; omega, by simp; omega⟩
    have hsz : (a.eval x).cells.size = size := by rw [hc]; simpa using hn
    have hno : ¬ (k * size + size > (pre ++ (m1 ++ m2) ++ post).toArray.size) := by simp; omega
    simp only [List.map_cons, Instr.fill, hsz, ne_eq, not_true_eq_false, false_or, hno, if_false]
    have hf := foldl_cells (k * size) cs 0 pre m1 (m2 ++ post) (by simpa using hp) h1
    have e1 : pre ++ (m1 ++ m2) ++ post = pre ++ m1 ++ (m2 ++ post) := by simp
    rw [e1, hc]
    rw [← Array.foldl_toList, Array.toList_zipIdx]
    have ih' := ih (pre ++ cs) m2 post (by simp [hp, hn, Nat.add_mul]) h2
    rw [hf]
    have e2 : pre ++ cs ++ (m2 ++ post) = pre ++ cs ++ m2 ++ post := by simp
    rw [e2, ih']; simp

theorem wp_slice {L : List Blk} (hL : Sees w0 w L) (T len : Nat) (parts : Array (Nat × Operand)) (ho : o.op = .buildSlice T len parts) (e size : Nat) (hT : P.underlying T = some (.slice e)) (hi : (P.info? e).map (·.size) = some size)
    (zs : List Value) (hz : zeroOf P e = some zs) (hbig : len * size ≤ 16777216) (vs : List Value) (hv : EvalAll a size parts.toList 0 vs) (hlen : parts.toList.length = len)
    (h : ∀ b w', Sees w0 w' (⟨b, e, vs⟩ :: L) → K (a.put o.dst (.slice (some ⟨b, 0, none⟩) len len)) w') : o.wp P a w K Q := by
  cases hq : P.info? e with
  | none => simp [hq] at hi
  | some i =>
    have hs : i.size = size := by simpa [hq] using hi
    obtain ⟨z, hzr, hzc⟩ := run_zeroValue hz w
    have hvl := hv.len
    have hgoal : ∀ zero : Array Value, Instr.fill (fun i => some (i * size, size)) ((Array.range (len * size)).map (zero[· % zero.size]!)) (parts.map fun (i, x) => (i, a.eval x)).toList = some vs.toArray := fun zero => by
      have hf := fill_all hv [] ((Array.range (len * size)).map (zero[· % zero.size]!)).toList [] (by simp) (by simp [hvl, hlen])
      simp only [List.nil_append, List.append_nil, Array.toArray_toList] at hf
      rw [Array.toList_map]
      exact hf
    have hno : ¬ (len * size > 2 ^ 24) := by omega
    unfold Oper.wp execOp
    simp only [ho, Instr.buildSlice]
    by_cases h0 : len * size = 0
    · have hg := hgoal #[]
      simp only [Sem.run_bind, run_underlying hT, Result.andThen_ok, sizeOf, typeInfo, program, hs, hq, Sem.run, Sem.run_pure, hno, if_false, h0, if_true]
      rw [h0] at hg
      simp [Sem.run_bind, run_underlying hT, sizeOf, typeInfo, hq, hs, hno, h0] at hg ⊢
      rw [hg]
      exact h w.heap.size (w.alloc (.cells vs.toArray e)) (hL.alloc e vs)
    · have hg := hgoal z.cells
      simp [Sem.run_bind, run_underlying hT, sizeOf, typeInfo, hq, hs, hno, h0, hzr] at hg ⊢
      rw [hg]
      exact h w.heap.size (w.alloc (.cells vs.toArray e)) (hL.alloc e vs)

def bytesV (l : List UInt8) : List Value := l.map fun c => .int .u8 (c.toNat : Int)
theorem bytesV_length (l : List UInt8) : (bytesV l).length = l.length := by simp [bytesV]
theorem bytesV_append (l m : List UInt8) : bytesV (l ++ m) = bytesV l ++ bytesV m := by simp [bytesV]
theorem bytesV_at (l : List UInt8) (j : Nat) (h : j < l.length) : (bytesV l)[j]? = some (.int .u8 ((l[j]).toNat : Int)) := by simp [bytesV, h]
theorem bytesV_one (l : List UInt8) : ∀ u ∈ bytesV l, u.one1 = true := by
  intro u hu
  obtain ⟨c, _, rfl⟩ := List.mem_map.1 hu
  rfl

theorem run_toString {src dst e : TypeId} (hs : P.underlying src = some (.slice e)) (he : P.underlying e = some (.int .u8)) (hd : P.underlying dst = some .string) {v : Value} {n : Nat} {l : List UInt8} (h : Rd w v n 1 (bytesV l)) :
    (convert src dst v).run P w = .ok (.string ⟨l.toArray⟩) w := by
  obtain ⟨⟨a, cap, rfl, hc⟩, hn⟩ := h
  have hn' : l.length = n := by simpa [bytesV] using hn
  subst hn'
  cases a with
  | none =>
    have hl : l = [] := by
      cases l with
      | nil => rfl
      | cons c l =>
        obtain ⟨ad, ha, _⟩ := hc (by simp [bytesV])
        cases ha
    subst hl
    rw [run_convert_bytes_nil w src e hs he _ _ dst hd]
    rfl
  | some ad =>
    refine run_convert_bytes_back w src dst e ad cap l hs he hd fun j hj => ?_
    have hne : bytesV l ≠ [] := by
      intro h; have := congrArg List.length h; simp [bytesV] at this; subst this; simp at hj
    obtain ⟨ad', ha, hcc⟩ := hc hne
    obtain rfl : ad = ad' := Option.some.inj ha
    exact hcc j _ (bytesV_at l j hj)
theorem exec_toString {src dst e : TypeId} (hs : P.underlying src = some (.slice e)) (he : P.underlying e = some (.int .u8)) (hd : P.underlying dst = some .string) {v : Value} {n : Nat} {l : List UInt8} (h : Rd w v n 1 (bytesV l)) {x : Operand} (ho : o.op = .convert src dst x) (hx : a.eval x = v) :
    (execOp a.eval o).run P w = .ok (.value (.string ⟨l.toArray⟩)) w := by
  unfold execOp
  simp [ho, hx, Sem.run_bind, run_toString hs he hd h]

end
end Go.Lx
namespace Go.Lx
open Go Go.RowKit
/-- a row of n cells, given by a function -/
def rowF (n : Nat) (f : Nat → Value) : List Value := (List.range n).map f
theorem rowF_len (n : Nat) (f : Nat → Value) : (rowF n f).length = n := by simp [rowF]
theorem rowF_at (n : Nat) (f : Nat → Value) (i : Nat) (h : i < n) : (rowF n f)[i]? = some (f i) := by simp [rowF, h]
theorem rowF_set (n : Nat) (f g : Nat → Value) (i : Nat) (v : Value) (hi : i < n) (hv : g i = v) (ho : ∀ j, j < n → j ≠ i → g j = f j) : (rowF n f).set i v = rowF n g := by
  apply List.ext_getElem?
  intro j
  by_cases hj : j < n
  · rw [rowF_at n g j hj, List.getElem?_set]
    by_cases e : i = j
    · subst e; simp [rowF_len, hi, hv]
    · simp only [if_neg e]; rw [rowF_at n f j hj, ho j hj (fun h => e h.symm)]
  · rw [List.getElem?_eq_none (by simp [rowF_len]; omega), List.getElem?_eq_none (by simp [rowF_len]; omega)]
theorem rowF_congr (n : Nat) (f g : Nat → Value) (h : ∀ j, j < n → f j = g j) : rowF n f = rowF n g := by
  unfold rowF
  apply List.map_congr_left
  intro j hj; exact h j (by simpa using hj)
theorem rowF_one (n : Nat) (f : Nat → Value) (h : ∀ j, (f j).one1 = true) : ∀ u ∈ rowF n f, u.one1 = true := by
  intro u hu; unfold rowF at hu; obtain ⟨j, _, rfl⟩ := List.mem_map.1 hu; exact h j

section
variable {P : Program} {o : Oper} {a : Act} {w0 w wI : World} {L : List Blk} {K : Act → World → Prop} {Q : Exit → Act → World → Prop} {ops : Array Oper} {rest : List Oper} {QL : Act → World → Prop} {lrest : List (Cls × Oper)}
/-- a store into one cell of an own row -/
theorem wp_set1 (hL : Sees w0 w L) (T : TypeId) (x y : Operand) (ho : o.op = .store T x y) (b i : Nat) (hx : a.eval x = .pointer (some ⟨b, i, none⟩)) (v : Value) (hy : a.eval y = v)
    (hT : (P.info? T).map (·.size) = some 1) (hv : v.cells = [v].toArray) (h1 : v.one1 = true) (t : TypeId) (cs cs' : List Value) (L' : List Blk) (hu : Upd L b t cs cs' L') (hi : i < cs.length) (hs : cs.set i v = cs')
    (h : ∀ w', Sees w0 w' L' → K (a.put o.dst undef) w') : o.wp P a w K Q := by
  have e1 : cs.take i ++ [cs[i]] ++ cs.drop (i + 1) = cs := by simp
  have e2 : cs.take i ++ [v] ++ cs.drop (i + 1) = cs' := by rw [← hs, List.set_eq_take_append_cons_drop, if_pos hi]; simp
  exact wp_store hL T x y ho b i hx v hy 1 hT t (cs.take i) [cs[i]] [v] (cs.drop (i + 1)) L' hv (fun u hu => by simp at hu; rw [hu]; exact h1) (by simp; omega) rfl rfl (by rw [e1, e2]; exact hu) h
theorem wpl_set1 (hL : Sees w0 w L) (hw : Region.wanted o (yielded ops a.tmps) = true) (T : TypeId) (x y : Operand) (ho : o.op = .store T x y) (b i : Nat) (hx : a.eval x = .pointer (some ⟨b, i, none⟩)) (v : Value) (hy : a.eval y = v)
    (hT : (P.info? T).map (·.size) = some 1) (hv : v.cells = [v].toArray) (h1 : v.one1 = true) (t : TypeId) (cs cs' : List Value) (L' : List Blk) (hu : Upd L b t cs cs' L') (hi : i < cs.length) (hs : cs.set i v = cs')
    (h : ∀ w', Sees w0 w' L' → wpList P ops Q rest (a.put o.dst undef) w') : wpList P ops Q (o :: rest) a w :=
  BigFrame.wpList_want hw fun _ hK => wp_set1 hL T x y ho b i hx v hy hT hv h1 t cs cs' L' hu hi hs fun w' hb => hK _ _ (h w' hb)
theorem x_set1 (hL : Sees w0 w L) (hw : Region.wanted o (yielded ops a.tmps) = true) (T : TypeId) (x y : Operand) (ho : o.op = .store T x y) (b i : Nat) (hx : a.eval x = .pointer (some ⟨b, i, none⟩)) (v : Value) (hy : a.eval y = v)
    (hT : (P.info? T).map (·.size) = some 1) (hv : v.cells = [v].toArray) (h1 : v.one1 = true) (t : TypeId) (cs cs' : List Value) (L' : List Blk) (hu : Upd L b t cs cs' L') (hi : i < cs.length) (hs : cs.set i v = cs')
    (h : ∀ w', Sees w0 w' L' → wpLex P wI ops QL lrest (a.put o.dst undef) w') : wpLex P wI ops QL ((.eff, o) :: lrest) a w :=
  wpLex_eff hw fun _ hK => wp_set1 hL T x y ho b i hx v hy hT hv h1 t cs cs' L' hu hi hs fun w' hb => hK _ _ (h w' hb)

/-- a store into a part of an own row -/
theorem wp_setn (hL : Sees w0 w L) (T : TypeId) (x y : Operand) (ho : o.op = .store T x y) (b i : Nat) (hx : a.eval x = .pointer (some ⟨b, i, none⟩)) (v : Value) (hy : a.eval y = v)
    (n : Nat) (hT : (P.info? T).map (·.size) = some n) (vs : List Value) (hv : v.cells = vs.toArray) (t : TypeId) (pre cs post : List Value) (L' : List Blk) (hu : Upd L b t (pre ++ cs ++ post) (pre ++ vs ++ post) L') (h1 : ∀ u ∈ vs, u.one1 = true)
    (hpre : pre.length = i) (hn : vs.length = n) (hcs : cs.length = n) (h : ∀ w', Sees w0 w' L' → K (a.put o.dst undef) w') : o.wp P a w K Q :=
  wp_store hL T x y ho b i hx v hy n hT t pre cs vs post L' hv h1 hpre hn hcs hu h
theorem x_setn (hL : Sees w0 w L) (hw : Region.wanted o (yielded ops a.tmps) = true) (T : TypeId) (x y : Operand) (ho : o.op = .store T x y) (b i : Nat) (hx : a.eval x = .pointer (some ⟨b, i, none⟩)) (v : Value) (hy : a.eval y = v)
    (n : Nat) (hT : (P.info? T).map (·.size) = some n) (vs : List Value) (hv : v.cells = vs.toArray) (t : TypeId) (pre cs post : List Value) (L' : List Blk) (hu : Upd L b t (pre ++ cs ++ post) (pre ++ vs ++ post) L') (h1 : ∀ u ∈ vs, u.one1 = true)
    (hpre : pre.length = i) (hn : vs.length = n) (hcs : cs.length = n) (h : ∀ w', Sees w0 w' L' → wpLex P wI ops QL lrest (a.put o.dst undef) w') : wpLex P wI ops QL ((.eff, o) :: lrest) a w :=
  wpLex_eff hw fun _ hK => wp_setn hL T x y ho b i hx v hy n hT vs hv t pre cs post L' hu h1 hpre hn hcs fun w' hb => hK _ _ (h w' hb)

/-- a part of an own row, read -/
theorem Sees.part (hL : Sees w0 w L) {b i : Nat} {t : TypeId} {cs vs : List Value} (hm : (⟨b, t, cs⟩ : Blk) ∈ L) (hp : ∀ j v, vs[j]? = some v → cs[i + j]? = some v) (j : Nat) (v : Value) (hv : vs[j]? = some v) :
    w.cell? ((⟨b, i, none⟩ : Addr).add j) = some v := by
  have e : (⟨b, i, none⟩ : Addr).add j = ⟨b, i + j, none⟩ := by unfold Addr.add; split <;> simp_all
  rw [e]; exact hL.at hm (hp j v hv)
theorem run_load_part (hL : Sees w0 w L) {T : TypeId} {x : Operand} (ho : o.op = .load T x) {n : Nat} (ht : aggVar P T = some n) {b i : Nat} (hx : a.eval x = .pointer (some ⟨b, i, none⟩)) {t : TypeId} {cs vs : List Value} (hm : (⟨b, t, cs⟩ : Blk) ∈ L) (hn : vs.length = n)
    (hp : ∀ j v, vs[j]? = some v → cs[i + j]? = some v) :
    (execOp a.eval o).run P w = .ok (.value (.agg vs.toArray)) w := run_load_agg ho ht hx hn (hL.part hm hp)

/-- copy from a string into a part of an own row -/
theorem run_copy_str (hL : Sees w0 w L) (dT sT ty elem : TypeId) (b off dLen dCap : Nat) (s : ByteArray) (t : TypeId) (pre cs post : List Value) (L' : List Blk) (k : Nat)
    (hu : P.underlying dT = some (.slice elem)) (hs : (P.info? elem).map (·.size) = some 1) (hk : k = Nat.min s.size dLen) (hpre : pre.length = off) (hcs : cs.length = k)
    (hup : Upd L b t (pre ++ cs ++ post) (pre ++ bytesV (s.data.toList.take k) ++ post) L') :
    ∃ w', (Builtin.copy_ #[dT, sT] ty #[.slice (some ⟨b, off, none⟩) dLen dCap, .string s]).run P w = .ok (goInt k) w' ∧ Sees w0 w' L' := by
  have hone : ∀ v ∈ bytesV (s.data.toList.take k), v.one1 = true := by
    intro v hv; unfold bytesV at hv; obtain ⟨c, _, rfl⟩ := List.mem_map.1 hv; rfl
  have hlen : (bytesV (s.data.toList.take k)).length = k := by
    have : s.data.toList.length = s.size := by simp
    simp [bytesV]; have h2 : k ≤ s.size := by rw [hk]; exact Nat.min_le_left _ _
    omega
  obtain ⟨w', hrun, hL'⟩ := run_storeCells (P := P) (bytesV (s.data.toList.take k)) w L L' b off 0 t pre cs post hL hone (by simpa using hpre) (by rw [hcs, hlen]) hup
  refine ⟨w', ?_, hL'⟩
  cases hq : P.info? elem with
  | none => simp [hq] at hs
  | some i =>
    simp [Builtin.copy_, run_underlying hu, Builtin.lenOf, Builtin.firstCells, sizeOf, typeInfo, hq]
    have e : List.take (s.size.min dLen) (List.map (fun b : UInt8 => Value.int IntKind.u8 (b.toNat : Int)) s.data.toList) = bytesV (s.data.toList.take k) := by
      rw [hk]; unfold bytesV; rw [List.map_take]
    rw [e, hrun, hk]
    rfl
theorem wp_copy_str (hL : Sees w0 w L) (d x : Operand) (dT sT elem : TypeId) (ho : o.op = .call { callee := .builtin .copy, args := #[d, x], argTypes := #[dT, sT] }) (b off dLen dCap : Nat) (s : ByteArray)
    (hd : a.eval d = .slice (some ⟨b, off, none⟩) dLen dCap) (hx : a.eval x = .string s) (hu : P.underlying dT = some (.slice elem)) (hs : (P.info? elem).map (·.size) = some 1)
    (t : TypeId) (pre cs post : List Value) (L' : List Blk) (k : Nat) (hk : k = Nat.min s.size dLen) (hpre : pre.length = off) (hcs : cs.length = k)
    (hup : Upd L b t (pre ++ cs ++ post) (pre ++ bytesV (s.data.toList.take k) ++ post) L') (h : ∀ w', Sees w0 w' L' → K (a.put o.dst (goInt k)) w') : o.wp P a w K Q := by
  obtain ⟨w', hrun, hL'⟩ := run_copy_str (P := P) hL dT sT o.type elem b off dLen dCap s t pre cs post L' k hu hs hk hpre hcs hup
  unfold Oper.wp
  simp [execOp, ho, resolve, invoke, builtin, hd, hx, hrun, Result.andThen]
  exact h w' hL'
theorem wpl_copy_str (hL : Sees w0 w L) (hw : Region.wanted o (yielded ops a.tmps) = true) (d x : Operand) (dT sT elem : TypeId) (ho : o.op = .call { callee := .builtin .copy, args := #[d, x], argTypes := #[dT, sT] }) (b off dLen dCap : Nat) (s : ByteArray)
    (hd : a.eval d = .slice (some ⟨b, off, none⟩) dLen dCap) (hx : a.eval x = .string s) (hu : P.underlying dT = some (.slice elem)) (hs : (P.info? elem).map (·.size) = some 1)
    (t : TypeId) (pre cs post : List Value) (L' : List Blk) (k : Nat) (hk : k = Nat.min s.size dLen) (hpre : pre.length = off) (hcs : cs.length = k)
    (hup : Upd L b t (pre ++ cs ++ post) (pre ++ bytesV (s.data.toList.take k) ++ post) L') (h : ∀ w', Sees w0 w' L' → wpList P ops Q rest (a.put o.dst (goInt k)) w') : wpList P ops Q (o :: rest) a w :=
  BigFrame.wpList_want hw fun _ hK => wp_copy_str hL d x dT sT elem ho b off dLen dCap s hd hx hu hs t pre cs post L' k hk hpre hcs hup fun w' hb => hK _ _ (h w' hb)

theorem wpl_copy_eq (hL : Sees w0 w L) (hw : Region.wanted o (yielded ops a.tmps) = true) (d x : Operand) (dT sT elem : TypeId) (ho : o.op = .call { callee := .builtin .copy, args := #[d, x], argTypes := #[dT, sT] }) (b off dLen dCap : Nat) (s : ByteArray)
    (hd : a.eval d = .slice (some ⟨b, off, none⟩) dLen dCap) (hx : a.eval x = .string s) (hu : P.underlying dT = some (.slice elem)) (hs : (P.info? elem).map (·.size) = some 1)
    (t : TypeId) (row row' pre cs post : List Value) (L' : List Blk) (k : Nat) (hup : Upd L b t row row' L') (hrow : row = pre ++ cs ++ post) (hrow' : row' = pre ++ bytesV (s.data.toList.take k) ++ post) (hk : k = Nat.min s.size dLen) (hpre : pre.length = off) (hcs : cs.length = k)
    (h : ∀ w', Sees w0 w' L' → wpList P ops Q rest (a.put o.dst (goInt k)) w') : wpList P ops Q (o :: rest) a w := by
  subst hrow; subst hrow'
  exact wpl_copy_str hL hw d x dT sT elem ho b off dLen dCap s hd hx hu hs t pre cs post L' k hk hpre hcs hup h
theorem x_setn_eq (hL : Sees w0 w L) (hw : Region.wanted o (yielded ops a.tmps) = true) (T : TypeId) (x y : Operand) (ho : o.op = .store T x y) (b i : Nat) (hx : a.eval x = .pointer (some ⟨b, i, none⟩)) (v : Value) (hy : a.eval y = v)
    (n : Nat) (hT : (P.info? T).map (·.size) = some n) (vs : List Value) (hv : v.cells = vs.toArray) (t : TypeId) (row row' pre cs post : List Value) (L' : List Blk) (hu : Upd L b t row row' L') (hrow : row = pre ++ cs ++ post) (hrow' : row' = pre ++ vs ++ post) (h1 : ∀ u ∈ vs, u.one1 = true)
    (hpre : pre.length = i) (hn : vs.length = n) (hcs : cs.length = n) (h : ∀ w', Sees w0 w' L' → wpLex P wI ops QL lrest (a.put o.dst undef) w') : wpLex P wI ops QL ((.eff, o) :: lrest) a w := by
  subst hrow; subst hrow'
  exact x_setn hL hw T x y ho b i hx v hy n hT vs hv t pre cs post L' hu h1 hpre hn hcs h
theorem wpl_append {P0 Lv S : List Blk} (hL : Sees w0 w (P0 ++ (Lv ++ S))) (hw : Region.wanted o (yielded ops a.tmps) = true) {v : Value} {e : TypeId} {size n : Nat} {xs : List Value} (hs : IsSl v e size n xs Lv) (T : TypeId) (s x : Operand)
    (ho : o.op = .call { callee := .builtin .append, args := #[s, x], argTypes := #[T, T] }) (hv : a.eval s = v) (zs : List Value) (bytes : Nat)
    (hT : P.underlying T = some (.slice e)) (hi : (P.info? e).map (fun i => (i.zero.map fun z => z.cells.toList, i.size, i.bytes)) = some (some zs, size, bytes)) (hzs : zs.length = size)
    (ad : Addr) (m c : Nat) (news : List Value) (hx : a.eval x = .slice (some ad) m c) (hl : news.length = m * size) (hnews : ∀ j u, news[j]? = some u → w.cell? (ad.add j) = some u) (h1 : ∀ u ∈ news, u.one1 = true)
    (h63 : n + m ≤ maxLen) (hbytes : (n + m) * bytes ≤ 140737488355328)
    (h : ∀ v' w' Lv', Sees w0 w' (P0 ++ (Lv' ++ S)) → IsSl v' e size (n + m) (xs ++ news) Lv' → wpList P ops Q rest (a.put o.dst v') w') : wpList P ops Q (o :: rest) a w :=
  BigFrame.wpList_want hw fun _ hK => wp_append hL hs T s x ho hv zs bytes hT hi hzs ad m c news hx hl hnews h1 h63 hbytes fun v' w' Lv' h2 h3 => hK _ _ (h v' w' Lv' h2 h3)
theorem wpl_slice (hL : Sees w0 w L) (hw : Region.wanted o (yielded ops a.tmps) = true) (T len : Nat) (parts : Array (Nat × Operand)) (ho : o.op = .buildSlice T len parts) (e size : Nat) (hT : P.underlying T = some (.slice e)) (hi : (P.info? e).map (·.size) = some size)
    (zs : List Value) (hz : zeroOf P e = some zs) (hbig : len * size ≤ 16777216) (vs : List Value) (hv : EvalAll a size parts.toList 0 vs) (hlen : parts.toList.length = len)
    (h : ∀ b w', Sees w0 w' (⟨b, e, vs⟩ :: L) → wpList P ops Q rest (a.put o.dst (.slice (some ⟨b, 0, none⟩) len len)) w') : wpList P ops Q (o :: rest) a w :=
  BigFrame.wpList_want hw fun _ hK => wp_slice hL T len parts ho e size hT hi zs hz hbig vs hv hlen fun b w' hb => hK _ _ (h b w' hb)
theorem x_slice (hL : Sees w0 w L) (hw : Region.wanted o (yielded ops a.tmps) = true) (T len : Nat) (parts : Array (Nat × Operand)) (ho : o.op = .buildSlice T len parts) (e size : Nat) (hT : P.underlying T = some (.slice e)) (hi : (P.info? e).map (·.size) = some size)
    (zs : List Value) (hz : zeroOf P e = some zs) (hbig : len * size ≤ 16777216) (vs : List Value) (hv : EvalAll a size parts.toList 0 vs) (hlen : parts.toList.length = len)
    (h : ∀ b w', Sees w0 w' (⟨b, e, vs⟩ :: L) → wpLex P wI ops QL lrest (a.put o.dst (.slice (some ⟨b, 0, none⟩) len len)) w') : wpLex P wI ops QL ((.eff, o) :: lrest) a w :=
  wpLex_eff hw fun _ hK => wp_slice hL T len parts ho e size hT hi zs hz hbig vs hv hlen fun b w' hb => hK _ _ (h b w' hb)
/-- the same, with the new memory told apart: 'Sees wI w M' (wI: the world at the region's start) -/
theorem xj_alloc {M : List Blk} (hJ : Sees wI w M) (hw : Region.wanted o (yielded ops a.tmps) = true) (T : TypeId) (ho : o.op = .alloc T) (cs : List Value) (hz : zeroOf P T = some cs)
    (h : ∀ b w', Sees wI w' (⟨b, T, cs⟩ :: M) → wpLex P wI ops QL lrest (a.put o.dst (.pointer (some ⟨b, 0, none⟩))) w') : wpLex P wI ops QL ((.ext, o) :: lrest) a w :=
  wpLex_ext hw hJ.below fun _ hK => wp_alloc hJ T ho cs hz fun b w' hb => hK _ _ hb.below (h b w' hb)
theorem xj_strow {M : List Blk} (hJ : Sees wI w M) (hw : Region.wanted o (yielded ops a.tmps) = true) (T : TypeId) (x y : Operand) (ho : o.op = .store T x y) (b : Nat) (hx : a.eval x = .pointer (some ⟨b, 0, none⟩)) (v : Value) (hy : a.eval y = v)
    (n : Nat) (hT : (P.info? T).map (·.size) = some n) (vs : List Value) (hv : v.cells = vs.toArray) (t : TypeId) (cs : List Value) (L' : List Blk) (hu : Upd M b t cs vs L') (h1 : ∀ u ∈ vs, u.one1 = true)
    (hn : vs.length = n) (hcs : cs.length = n) (h : ∀ w', Sees wI w' L' → wpLex P wI ops QL lrest (a.put o.dst undef) w') : wpLex P wI ops QL ((.ext, o) :: lrest) a w :=
  wpLex_ext hw hJ.below fun _ hK => wp_strow hJ T x y ho b hx v hy n hT vs hv t cs L' hu h1 hn hcs fun w' hb => hK _ _ hb.below (h w' hb)
end
end Go.Lx
namespace Go.Lx
open Go Go.RowKit
/-- an element of an array value -/
theorem run_index_row {P : Program} {o : Oper} {a : Act} {w : World} {T e : TypeId} {x y : Operand} {n i : Nat} {k : IntKind} {vs : Array Value} {v : Value} (ho : o.op = .index T x y) (hT : P.underlying T = some (.array n e)) (he : plainVar P e = true) (hs : (P.info? e).map (·.size) = some 1)
    (hx : a.eval x = .agg vs) (hy : a.eval y = .int k i) (hi : i < n) (hv : vs[i]? = some v) : (execOp a.eval o).run P w = .ok (.value v) w := by
  unfold execOp
  simp only [ho, hx, hy]
  unfold plainVar at he
  cases hq : P.info? e with
  | none => simp [hq] at hs
  | some inf =>
    have hsz : inf.size = 1 := by simpa [hq] using hs
    simp [Instr.index, asIntOf, run_underlying hT, sizeOf, typeInfo, hq, hsz, hi, part, isAgg]
    cases hu : P.underlying e with
    | none => simp [hu] at he
    | some d =>
      cases d <;> simp_all [run_underlying hu]
theorem x_kcall {P : Program} {o : Oper} {a : Act} {w wI : World} {ops : Array Oper} {QL : Act → World → Prop} {lrest : List (Cls × Oper)} {f : FuncId} (he : enterable P f = true) (hw : Region.wanted o (yielded ops a.tmps) = true) {c : Call} (ho : o.op = .call c) {x : Operand} (hc : c.callee = .value x) (hx : a.eval x = .func (.func f) #[] #[]) {v : Value}
    (hcall : ∀ w2, Calls P f (c.args.toList.map a.eval).toArray w2 fun e w' => e = .returned v ∧ w' = w2) (h : wpLex P wI ops QL lrest (a.put o.dst v) w) : wpLex P wI ops QL ((.call, o) :: lrest) a w :=
  wpLex_call hw f _ v (fun w2 => exec_call he ho hc hx w2) hcall h
theorem run_build_op {P : Program} {o : Oper} {a : Act} {w : World} {t : TypeId} {parts : Array (Nat × Operand)} (ho : o.op = .build t parts) {cells : Array Value} (h : P.built t (parts.map fun (i, x) => (i, a.eval x)).toList = some cells) :
    (execOp a.eval o).run P w = .ok (.value (.agg cells)) w := by
  unfold execOp
  simp only [ho, Sem.run_bind, run_build w t _ cells h, Result.andThen_ok]
  rfl
/-- 'x[lo:]' of an array behind a pointer -/
theorem run_slice_low {P : Program} {o : Oper} {a : Act} {w : World} {T : TypeId} {x y : Operand} {n b i A : Nat} {k : IntKind} (ho : o.op = .slice T x (some y) none none) (hT : P.underlying T = some (.array n (P.elem T))) (hl : P.arrayLen T = n) (hs : (P.info? (P.elem T)).map (·.size) = some 1)
    (hx : a.eval x = .pointer (some ⟨b, i, none⟩)) (hy : a.eval y = .int k A) (hA : A < n) : (execOp a.eval o).run P w = .ok (.value (.slice (some ⟨b, i + A, none⟩) (n - A) (n - A))) w := by
  cases hq : P.info? (P.elem T) with
  | none => simp [hq] at hs
  | some inf =>
    have hsz : inf.size = 1 := by simpa [hq] using hs
    have h := run_sliceAt_array_l (P := P) w T ⟨b, i, none⟩ (by rw [hT, hl]) k (A : Int) (by omega) (by rw [hl]; omega)
    unfold execOp
    simp only [ho, hx, hy, Option.map]
    have hne : ¬ n = A := by omega
    have hadd : (⟨b, i, none⟩ : Addr).add A = ⟨b, i + A, none⟩ := by unfold Addr.add; split <;> simp_all
    simp [Sem.run_bind, run_underlying hT, h, sizeOf, typeInfo, hq, hsz, slicedAt, hl, hne, hadd]
theorem EvalAll.one {a : Act} {x : Operand} {k : Nat} {v : Value} (h : (a.eval x).cells = [v].toArray) : EvalAll a 1 [(k, x)] k [v] := .cons (cs := [v]) h rfl (.nil _)
theorem IsSl.shape {v : Value} {e : TypeId} {size n : Nat} {xs : List Value} {Lv : List Blk} (h : IsSl v e size n xs Lv) : ∃ a cap, v = .slice a n cap := by
  cases h with
  | nil hv hn _ _ => exact ⟨none, 0, by rw [hv, hn]⟩
  | row b cap rest hv _ _ _ _ _ => exact ⟨_, _, hv⟩
def slLen : Value → Nat
  | .slice _ n _ => n
  | _ => 0
section
variable {P : Program} {o : Oper} {a : Act} {w0 w wI : World} {Q : Exit → Act → World → Prop} {ops : Array Oper} {rest : List Oper}
/-- one element more, from a literal of one element that lies at the head of the known rows -/
theorem wpl_app1 {b : Nat} {e : TypeId} {u z : Value} {Lv S : List Blk} (hL : Sees w0 w (⟨b, e, [u]⟩ :: (Lv ++ S))) (hw : Region.wanted o (yielded ops a.tmps) = true) {v : Value} {n bytes : Nat} {xs : List Value} (hs : IsSl v e 1 n xs Lv) (T : TypeId) (s x : Operand)
    (ho : o.op = .call { callee := .builtin .append, args := #[s, x], argTypes := #[T, T] }) (hv : a.eval s = v) (hx : a.eval x = .slice (some ⟨b, 0, none⟩) 1 1)
    (hT : P.underlying T = some (.slice e)) (hi : (P.info? e).map (fun i => (i.zero.map fun z => z.cells.toList, i.size, i.bytes)) = some (some [z], 1, bytes)) (h1 : u.one1 = true)
    (h63 : n + 1 ≤ maxLen) (hbytes : (n + 1) * bytes ≤ 140737488355328)
    (h : ∀ v' w' Lv', Sees w0 w' (Lv' ++ S) → IsSl v' e 1 (n + 1) (xs ++ [u]) Lv' → wpList P ops Q rest (a.put o.dst v') w') : wpList P ops Q (o :: rest) a w :=
  wpl_append (P0 := [⟨b, e, [u]⟩]) hL hw hs T s x ho hv [z] bytes hT hi rfl ⟨b, 0, none⟩ 1 1 [u] hx rfl (fun j y hy => hL.row (.head _) j y hy) (fun y hy => by simp at hy; rw [hy]; exact h1) h63 hbytes
    fun v' w' Lv' h2 h3 => h v' w' Lv' (h2.forget (List.sublist_cons_self _ _)) h3
end
theorem Upd.pre {Lv S S' : List Blk} {b : Nat} {t : TypeId} {cs cs' : List Value} (h : Upd S b t cs cs' S') : Upd (Lv ++ S) b t cs cs' (Lv ++ S') := by
  induction Lv with
  | nil => exact h
  | cons x Lv ih => exact .there ih
end Go.Lx
namespace Go.Lx
open Go Go.RowKit
variable {P : Program} {wI : World}
def preC (md : Region.Mode) (ops : Array Oper) (cls : Array Cls) (anc : List Nat) : List Nat → Array Bool → Bool
  | [], _ => true
  | k :: l, listed => (Region.ready md ops listed).contains k && freeC ops cls anc listed k && preC md ops cls anc l (listed.setIfInBounds k true)
def afterL (l : List Nat) (listed : Array Bool) : Array Bool := l.foldl (fun L k => L.setIfInBounds k true) listed
/-- the operations of these numbers, told by their classes -/
def pick (ops : Array Oper) (cls : Array Cls) (l : List Nat) : List (Cls × Oper) := l.filterMap fun k => (ops[k]?).map fun o => (cls.getD k .eff, o)

theorem pick_cons {ops : Array Oper} {cls : Array Cls} {k : Nat} {o : Oper} (ho : ops[k]? = some o) (l : List Nat) : pick ops cls (k :: l) = (cls.getD k .eff, o) :: pick ops cls l := by
  simp [pick, List.filterMap_cons, ho]
theorem wpLex_cons {ops : Array Oper} {Q : Act → World → Prop} {c : Cls} {o : Oper} {l : List (Cls × Oper)} {a : Act} {w : World} :
    wpLex P wI ops Q ((c, o) :: l) a w = lexOp P wI ops c o (wpLex P wI ops Q l) a w := by with_unfolding_all rfl
theorem wpLex_empty {ops : Array Oper} {Q : Act → World → Prop} {a : Act} {w : World} : wpLex P wI ops Q [] a w = Q a w := by with_unfolding_all rfl
theorem wpLex_mono {ops : Array Oper} {Q Q' : Act → World → Prop} (hQ : ∀ a w, Q a w → Q' a w) : ∀ (l : List (Cls × Oper)) (a : Act) (w : World), wpLex P wI ops Q l a w → wpLex P wI ops Q' l a w
  | [], a, w, h => by rw [wpLex_empty] at *; exact hQ _ _ h
  | (c, o) :: l, a, w, h => by
    rw [wpLex_cons] at *
    exact lexOp_mono (fun a w h => wpLex_mono hQ l a w h) h
theorem anyL_pre {md : Region.Mode} {ops : Array Oper} {anc : List Nat} (hanc : AncGood md ops anc) {cls : Array Cls} {Q : Act → World → Prop} (hs : Region.noSelect ops = true) (fuel : Nat) : ∀ (l : List Nat) (listed : Array Bool) (a : Act) (w : World),
    preC md ops cls anc l listed = true → Closed md ops listed →
    wpLex P wI ops (fun a' w' => anyL P wI md ops cls Q fuel (afterL l listed) a' w') (pick ops cls l) a w → anyL P wI md ops cls Q (fuel + l.length) listed a w
  | [], listed, a, w, _, _, h => by
    rw [show pick ops cls [] = [] from rfl, wpLex_empty] at h
    exact h
  | k :: l, listed, a, w, hB, hcl, h => by
    simp only [preC, Bool.and_eq_true] at hB
    obtain ⟨⟨hr, hf⟩, hB'⟩ := hB
    have hr' : k ∈ Region.ready md ops listed := by simpa using hr
    obtain ⟨_, o, ho, _⟩ := mem_ready.1 hr'
    rw [pick_cons ho, wpLex_cons] at h
    refine anyL_first hanc ho (Region.noSelect_spec hs) (fuel + l.length) listed a w (freeC_spec ho hf) hcl hr' ?_
    unfold lexAt
    simp only [ho]
    exact lexOp_mono (fun a' w' hh => anyL_pre hanc hs fuel l (listed.setIfInBounds k true) a' w' hB' (hcl.set hr') hh) h

def forkB (ops : Array Oper) (cls : Array Cls) (p : List Nat) (k1 : Nat) (q1 : List Nat) (k2 : Nat) (q2 : List Nat) : Bool :=
  let anc := ancs .any ops.toList []
  let L0 := Array.replicate ops.size false
  let L := afterL p L0
  Region.noSelect ops && preC .any ops cls anc p L0 && (Region.ready .any ops L).all (fun k => k == k1 || k == k2) && !(Region.ready .any ops L).isEmpty &&
    preC .any ops cls anc q1 (L.setIfInBounds k1 true) && (Region.ready .any ops (afterL q1 (L.setIfInBounds k1 true))).isEmpty &&
    preC .any ops cls anc q2 (L.setIfInBounds k2 true) && (Region.ready .any ops (afterL q2 (L.setIfInBounds k2 true))).isEmpty &&
    p.length + q1.length + 1 == ops.size && p.length + q2.length + 1 == ops.size
theorem closed_after {md : Region.Mode} {ops : Array Oper} {cls : Array Cls} {anc : List Nat} : ∀ (l : List Nat) (listed : Array Bool), preC md ops cls anc l listed = true → Closed md ops listed → Closed md ops (afterL l listed)
  | [], _, _, h => h
  | k :: l, listed, hB, h => by
    simp only [preC, Bool.and_eq_true] at hB
    exact closed_after l _ hB.2 (h.set (by simpa using hB.1.1))

/-- ████ A REGION THAT DRAWS, IN WHICH TWO OPERATIONS DO NOT COMMUTE: one walk up to them, two from there on ████ -/
theorem wp_region_fork {id : Nat} {Q : Exit → Act → World → Prop} {a : Act} {w : World} (cls : List Cls) (p : List Nat) (k1 : Nat) (q1 : List Nat) (k2 : Nat) (q2 : List Nat) {os : List Oper} (hm : P.follows .mixedOrders = true)
    (hB : forkB os.toArray cls.toArray p k1 q1 k2 q2 = true) {l0 l1 l2 : List (Cls × Oper)} (h0 : pick os.toArray cls.toArray p = l0) (h1 : pick os.toArray cls.toArray (k1 :: q1) = l1) (h2 : pick os.toArray cls.toArray (k2 :: q2) = l2)
    (h : wpLex P w.drew os.toArray (fun a' w' => wpLex P w.drew os.toArray (fun a' w' => Q .normal a' w') l1 a' w' ∧ wpLex P w.drew os.toArray (fun a' w' => Q .normal a' w') l2 a' w') l0 a w.drew) : (Code.region id os.toArray true).wp P Q a w := by
  subst h0; subst h1; subst h2
  unfold forkB at hB
  simp only [Bool.and_eq_true, beq_iff_eq] at hB
  obtain ⟨⟨⟨⟨⟨⟨⟨⟨⟨hs, hp⟩, hall⟩, hne⟩, hq1⟩, he1⟩, hq2⟩, he2⟩, hn1⟩, hn2⟩ := hB
  have hg : AncGood .any os.toArray (ancs .any os.toArray.toList []) := ancs_good _ [] (fun j => by simp) (fun j o _ i hi => by simp at hi)
  have hcl0 : Closed .any os.toArray (Array.replicate os.toArray.size false) := fun m o ho hm => by
    have hlt : m < os.toArray.size := (Array.getElem?_eq_some_iff.1 ho).1
    simp at hlt
    simp [hlt] at hm
  have hclp := closed_after p _ hp hcl0
  generalize hLL : afterL p (Array.replicate os.toArray.size false) = L at *
  have one : ∀ (k : Nat) (q : List Nat), k ∈ Region.ready .any os.toArray L → preC .any os.toArray cls.toArray (ancs .any os.toArray.toList []) q (L.setIfInBounds k true) = true → (Region.ready .any os.toArray (afterL q (L.setIfInBounds k true))).isEmpty = true →
      ∀ a' w', wpLex P w.drew os.toArray (fun a' w' => Q .normal a' w') (pick os.toArray cls.toArray (k :: q)) a' w' →
        lexAt P w.drew os.toArray cls.toArray k (anyL P w.drew .any os.toArray cls.toArray (fun a' w' => Q .normal a' w') (0 + q.length) (L.setIfInBounds k true)) a' w' := by
    intro k q hk hq he a' w' hw
    obtain ⟨_, o, ho, _⟩ := mem_ready.1 hk
    rw [pick_cons ho, wpLex_cons] at hw
    unfold lexAt
    simp only [ho]
    refine lexOp_mono (fun a'' w'' hh => anyL_pre hg hs 0 q _ a'' w'' hq (hclp.set hk) ?_) hw
    exact wpLex_mono (fun a3 w3 h3 => ⟨by simpa using he, h3⟩) _ _ _ hh
  refine wp_region_any hm (wpAny_of_anyL (wI := w.drew) (cls := cls.toArray) (Q := fun a' w' => Q .normal a' w') (fun _ _ h => h) _ _ _ _ ?_)
  have hsz : os.toArray.size = (q1.length + 1) + p.length := by omega
  have key : anyL P w.drew .any os.toArray cls.toArray (fun a' w' => Q .normal a' w') ((q1.length + 1) + p.length) (Array.replicate os.toArray.size false) a w.drew := by
   refine anyL_pre hg hs (q1.length + 1) p _ a w.drew hp hcl0 (wpLex_mono (fun a' w' hh => ?_) _ _ _ h)
   rw [hLL]
   refine ⟨fun h0 => ?_, fun i hi => ?_⟩
   · rw [h0] at hne; simp at hne
   · have hi' := List.all_eq_true.1 hall i hi
     simp only [Bool.or_eq_true, beq_iff_eq] at hi'
     rcases hi' with rfl | rfl
     · have := one i q1 hi hq1 he1 a' w' hh.1
       rw [Nat.zero_add] at this; exact this
     · have := one i q2 hi hq2 he2 a' w' hh.2
       rw [Nat.zero_add, show q2.length = q1.length from by omega] at this; exact this
  rw [← hsz] at key
  exact key
/-- what is known behind a piece of code is laid down, once for all ways through it -/
theorem wp_to {c : Code} {a : Act} {w : World} {Q : Exit → Act → World → Prop} (R : Act → Act → World → Prop) (h : c.wp P (fun e a' w' => e = .normal ∧ R a a' w') a w) (k : ∀ a' w', R a a' w' → Q .normal a' w') : c.wp P Q a w :=
  Code.wp_mono (fun e a' w' ⟨he, hr⟩ => by subst he; exact k a' w' hr) h
end Go.Lx
namespace Go.Lx
open Go Go.RowKit
/-- done: nothing is left; alt k t u: k first, then t; or else one of u; none: no other -/
inductive Tr where
  | done
  | none
  | alt (k : Nat) (t u : Tr)
def Tr.keys : Tr → List Nat
  | .alt k _ u => k :: u.keys
  | _ => []
def Tr.chk (md : Region.Mode) (ops : Array Oper) (root : Bool) (fuel : Nat) (listed : Array Bool) : Tr → Bool
  | .done => root && (Region.ready md ops listed).isEmpty
  | .none => !root
  | .alt k t u => (!root || (!(Region.ready md ops listed).isEmpty && (Region.ready md ops listed).all fun i => i == k || u.keys.contains i)) && (match fuel with | 0 => false | n + 1 => Tr.chk md ops true n (listed.setIfInBounds k true) t) && Tr.chk md ops false fuel listed u
def wpT (P : Program) (wI : World) (ops : Array Oper) (cls : Array Cls) (Q : Act → World → Prop) : Tr → Act → World → Prop
  | .done, a, w => Q a w
  | .none, _, _ => True
  | .alt k t u, a, w => wpLex P wI ops (wpT P wI ops cls Q t) (pick ops cls [k]) a w ∧ wpT P wI ops cls Q u a w

variable {P : Program} {wI : World}
theorem anyL_tree {md : Region.Mode} {ops : Array Oper} {cls : Array Cls} {Q : Act → World → Prop} : ∀ (T : Tr) (fuel : Nat) (listed : Array Bool) (a : Act) (w : World),
    (T.chk md ops true fuel listed = true → wpT P wI ops cls Q T a w → anyL P wI md ops cls Q fuel listed a w) ∧
    (T.chk md ops false fuel listed = true → wpT P wI ops cls Q T a w → ∀ k ∈ T.keys, ∃ n, fuel = n + 1 ∧ wpLex P wI ops (anyL P wI md ops cls Q n (listed.setIfInBounds k true)) (pick ops cls [k]) a w)
  | .done, fuel, listed, a, w => by
    refine ⟨fun hc h => ?_, fun _ _ k hk => by cases hk⟩
    simp only [Tr.chk, Bool.true_and] at hc
    have he : Region.ready md ops listed = [] := by simpa using hc
    cases fuel with
    | zero => exact ⟨he, h⟩
    | succ n => exact ⟨fun _ => h, fun i hi => by rw [he] at hi; cases hi⟩
  | .none, fuel, listed, a, w => ⟨fun hc _ => by simp [Tr.chk] at hc, fun _ _ k hk => by cases hk⟩
  | .alt k t u, fuel, listed, a, w => by
    have ht := fun n a w => (anyL_tree (md := md) (ops := ops) (cls := cls) (Q := Q) t n (listed.setIfInBounds k true) a w).1
    have hu := (anyL_tree (md := md) (ops := ops) (cls := cls) (Q := Q) u fuel listed a w).2
    have both : ∀ root, Tr.chk md ops root fuel listed (.alt k t u) = true → wpT P wI ops cls Q (.alt k t u) a w → ∀ j ∈ (Tr.alt k t u).keys, ∃ n, fuel = n + 1 ∧ wpLex P wI ops (anyL P wI md ops cls Q n (listed.setIfInBounds j true)) (pick ops cls [j]) a w := by
      intro root hc h j hj
      simp only [Tr.chk, Bool.and_eq_true] at hc
      obtain ⟨⟨_, h1⟩, h2⟩ := hc
      rcases List.mem_cons.1 hj with rfl | hj
      · cases fuel with
        | zero => simp at h1
        | succ n => exact ⟨n, rfl, wpLex_mono (fun a' w' hh => ht n a' w' h1 hh) _ _ _ h.1⟩
      · exact hu h2 h.2 j hj
    refine ⟨fun hc h => ?_, fun hc h => both false hc h⟩
    have hc' := hc
    simp only [Tr.chk, Bool.and_eq_true, Bool.not_true, Bool.false_or] at hc'
    obtain ⟨⟨h0, h1⟩, _⟩ := hc'
    cases fuel with
    | zero => simp at h1
    | succ n =>
      have hl := both true hc h
      refine ⟨fun he => ?_, fun i hi => ?_⟩
      · rw [he] at h0; simp at h0
      · have hk := List.all_eq_true.1 h0.2 i hi
        have hmem : i ∈ (Tr.alt k t u).keys := by
          simp only [Bool.or_eq_true, beq_iff_eq] at hk
          rcases hk with rfl | hk
          · exact .head _
          · exact List.mem_cons_of_mem _ (by simpa using hk)
        obtain ⟨m, hm, hla⟩ := hl i hmem
        obtain rfl : n = m := by omega
        obtain ⟨_, o, ho, _⟩ := mem_ready.1 hi
        rw [pick_cons ho, show pick ops cls [] = [] from rfl, wpLex_cons] at hla
        unfold lexAt
        simp only [ho]
        exact lexOp_mono (fun a' w' hh => by rw [wpLex_empty] at hh; exact hh) hla
theorem wpT_alt {ops : Array Oper} {cls : Array Cls} {Q : Act → World → Prop} {k : Nat} {t u : Tr} {a : Act} {w : World} {l : List (Cls × Oper)} (hl : pick ops cls [k] = l) (h1 : wpLex P wI ops (wpT P wI ops cls Q t) l a w) (h2 : wpT P wI ops cls Q u a w) : wpT P wI ops cls Q (.alt k t u) a w := by
  subst hl; exact ⟨h1, h2⟩
/-- ████ A REGION THAT DRAWS: what commutes in the text's order, then every choice ████ -/
theorem wp_region_tree {id : Nat} {Q : Exit → Act → World → Prop} {a : Act} {w : World} (cls : List Cls) (p : List Nat) (T : Tr) {os : List Oper} (hm : P.follows .mixedOrders = true)
    (hB : (Region.noSelect os.toArray && preC .any os.toArray cls.toArray (ancs .any os []) p (Array.replicate os.toArray.size false) && T.chk .any os.toArray true (os.toArray.size - p.length) (afterL p (Array.replicate os.toArray.size false)) && Nat.ble p.length os.toArray.size) = true)
    {l0 : List (Cls × Oper)} (h0 : pick os.toArray cls.toArray p = l0)
    (h : wpLex P w.drew os.toArray (wpT P w.drew os.toArray cls.toArray (fun a' w' => Q .normal a' w') T) l0 a w.drew) : (Code.region id os.toArray true).wp P Q a w := by
  subst h0
  simp only [Bool.and_eq_true] at hB
  obtain ⟨⟨⟨hs, hp⟩, hT⟩, hle⟩ := hB
  have hle' : p.length ≤ os.toArray.size := Nat.le_of_ble_eq_true hle
  have hg : AncGood .any os.toArray (ancs .any os.toArray.toList []) := ancs_good _ [] (fun j => by simp) (fun j o _ i hi => by simp at hi)
  have hcl0 : Closed .any os.toArray (Array.replicate os.toArray.size false) := fun m o ho hm => by
    have hlt : m < os.toArray.size := (Array.getElem?_eq_some_iff.1 ho).1
    simp at hlt
    simp [hlt] at hm
  refine wp_region_any hm (wpAny_of_anyL (wI := w.drew) (cls := cls.toArray) (Q := fun a' w' => Q .normal a' w') (fun _ _ h => h) _ _ _ _ ?_)
  have key : anyL P w.drew .any os.toArray cls.toArray (fun a' w' => Q .normal a' w') ((os.toArray.size - p.length) + p.length) (Array.replicate os.toArray.size false) a w.drew := by
    refine anyL_pre hg hs _ p _ a w.drew hp hcl0 (wpLex_mono (fun a' w' hh => ?_) _ _ _ h)
    exact (anyL_tree T _ _ a' w').1 hT hh
  rw [Nat.sub_add_cancel hle'] at key
  exact key
theorem wpT_none {ops : Array Oper} {cls : Array Cls} {Q : Act → World → Prop} {a : Act} {w : World} : wpT P wI ops cls Q .none a w := trivial
theorem wpT_done {ops : Array Oper} {cls : Array Cls} {Q : Act → World → Prop} {a : Act} {w : World} (h : Q a w) : wpT P wI ops cls Q .done a w := h
attribute [irreducible] wpT
/-- a slice to a pointer to an array -/
theorem run_arrayPtr {P : Program} {o : Oper} {a : Act} {w : World} {T e : TypeId} {x : Operand} {n m c : Nat} {ad : Option Addr} (ho : o.op = .sliceToArrayPointer T x) (hT : P.underlying T = some (.array n e)) (hx : a.eval x = .slice ad m c) (h : n ≤ m) :
    (execOp a.eval o).run P w = .ok (.value (.pointer ad)) w := by
  have hn : ¬ m < n := by omega
  unfold execOp
  simp [ho, hx, Instr.arrayAt, Sem.run_bind, run_underlying hT, hn]
end Go.Lx
namespace Go.Lx
open Go Go.RowKit Go.Lib
section
variable {P : Program} {o : Oper} {a : Act} {w0 w wI : World} {K : Act → World → Prop} {Q : Exit → Act → World → Prop} {ops : Array Oper} {rest : List Oper} {QL : Act → World → Prop} {lrest : List (Cls × Oper)}
theorem wp_append_str {P0 Lv S : List Blk} (hL : Sees w0 w (P0 ++ (Lv ++ S))) {v : Value} {e : TypeId} {n : Nat} {xs : List Value} (hs : IsSl v e 1 n xs Lv) (T U : TypeId) (s x : Operand)
    (ho : o.op = .call { callee := .builtin .append, args := #[s, x], argTypes := #[T, U] }) (hv : a.eval s = v) (zs : List Value) (bytes : Nat)
    (hT : P.underlying T = some (.slice e)) (hU : P.underlying U = some .string) (hi : (P.info? e).map (fun i => (i.zero.map fun z => z.cells.toList, i.size, i.bytes)) = some (some zs, 1, bytes)) (hzs : zs.length = 1)
    (t : ByteArray) (hx : a.eval x = .string t) (h63 : n + t.size ≤ maxLen) (hbytes : (n + t.size) * bytes ≤ 140737488355328)
    (h : ∀ v' w' Lv', Sees w0 w' (P0 ++ (Lv' ++ S)) → IsSl v' e 1 (n + t.size) (xs ++ bytesV t.data.toList) Lv' → K (a.put o.dst v') w') : o.wp P a w K Q := by
  have hnl : (bytesV t.data.toList).length = t.size := by simp [bytesV]
  have hsc : strCells t = bytesV t.data.toList := rfl
  cases hq : P.info? e with
  | none => simp [hq] at hi
  | some i =>
    cases hz : i.zero with
    | none => simp [hq, hz] at hi
    | some z =>
      simp only [hq, hz, Option.map_some, Option.some.injEq, Prod.mk.injEq] at hi
      obtain ⟨hz1, hsz, hby⟩ := hi
      subst hby
      have hzc : z.cells.size = 1 := by rw [← hzs, ← hz1]; simp
      have hsmall : n + t.size ≤ 9223372036854775807 := by simp only [maxLen] at h63; omega
      have hlen : (xs ++ bytesV t.data.toList).length = (n + t.size) * 1 := by rw [List.length_append, hs.len, hnl]; omega
      have goal : ∀ v' w', (Builtin.append_ #[T, U] o.type #[v, .string t]).run P w = .ok v' w' → K (a.put o.dst v') w' → o.wp P a w K Q := fun v' w' hr hk => by
        unfold Oper.wp execOp
        simp only [ho, resolve, invoke, builtin]
        simp [Sem.run_bind, hv, hx, hr]
        exact hk
      have grown : ∀ old, ∃ rest, xs.toArray ++ (bytesV t.data.toList).toArray ++ Builtin.zeroCells z.cells (grownCap w (n + t.size) old e - (n + t.size)) = (xs ++ bytesV t.data.toList ++ rest).toArray ∧ (xs ++ bytesV t.data.toList ++ rest).length = grownCap w (n + t.size) old e * 1 := fun old => by
        have hge := grownCap_ge w (n + t.size) old e
        refine ⟨(Builtin.zeroCells z.cells (grownCap w (n + t.size) old e - (n + t.size))).toList, by simp, ?_⟩
        rw [List.length_append, hlen, Array.length_toList, size_zeroCells, hzc]
        omega
      cases hs with
      | nil hv' hn hx' hl' =>
        subst hv'; subst hn; subst hx'; subst hl'
        by_cases hm : t.size = 0
        · have hn : bytesV t.data.toList = [] := List.eq_nil_of_length_eq_zero (by rw [hnl]; exact hm)
          refine goal (.slice none 0 0) w ?_ (h _ _ [] hL (.nil rfl (by omega) (by rw [hn]; rfl) rfl))
          simp [Builtin.append_, run_underlying hT, run_underlying hU, sizeOf, typeInfo, hq, Builtin.lenOf, Builtin.firstCells, loadCells, loadCellsFrom, hm]
        · have hr := run_append_nil_string (P := P) w T U o.type e i z hT hU hq hz t (by omega) (by omega) (by have hb := hbytes; simp only [Nat.zero_add] at hb; omega)
          obtain ⟨rest, hg1, hg2⟩ := grown 0
          simp only [Nat.zero_add, List.nil_append, Array.empty_append] at hg1 hg2
          have e1 : t.data.map (fun b => Value.int .u8 b.toNat) = (bytesV t.data.toList).toArray := by apply Array.ext'; simp [bytesV]
          rw [e1] at hr
          refine goal _ _ hr (h _ _ [⟨w.heap.size, e, bytesV t.data.toList ++ rest⟩] ?_ (.row w.heap.size (grownCap w t.size 0 e) rest (by simp) (by simpa using hnl) (by simpa using hg2) (by simpa using grownCap_ge w t.size 0 e) (grownCap_le_maxLen w t.size 0 e (by omega)) (by simp)))
          exact hL.swap (by rw [hg1])
      | row b cap rest hv' hx' hc' hn hm hl' =>
        subst hv'; subst hl'
        have hin : w.heap[b]? = some (.cells (xs ++ rest).toArray e (0, 0)) := hL.inn ⟨b, e, xs ++ rest⟩ (by simp)
        have hx1 : xs.length = n := by omega
        by_cases hroom : n + t.size ≤ cap
        · have hfit : n + t.size ≤ (xs ++ rest).toArray.size := by
            rw [List.size_toArray, hc']; omega
          have hr := run_append_room_string (P := P) w T U o.type e i hT hU hq hsz b n cap _ hin t hroom hfit
          have e1 : (xs ++ rest).toArray.toList.take n = xs := by simp [← hx1]
          have e2 : (xs ++ rest).toArray.toList.drop (n + t.size) = rest.drop t.size := by simp [← hx1]
          rw [e1, e2, hsc] at hr
          have hrl : t.size ≤ rest.length := by
            rw [List.size_toArray, List.length_append, hx1] at hfit; omega
          refine goal _ _ hr (h _ _ [⟨b, e, xs ++ bytesV t.data.toList ++ rest.drop t.size⟩] ?_ (.row b cap (rest.drop t.size) rfl hlen ?_ hroom hm rfl))
          · exact hL.upd (Upd.mid (S := S)) rfl rfl rfl (by simp) (setRow_heap w b _ _ e _ hin) (fun k hk => setRow_other w b k _ hk)
          · rw [← hc']; simp [hnl]; omega
        · have holds : ∀ j u, xs[j]? = some u → w.cell? ((⟨b, 0, none⟩ : Addr).add j) = some u := fun j u hj => by
            refine hL.row (t := e) (cs := xs ++ rest) (by simp) j u ?_
            rw [List.getElem?_append_left]
            · exact hj
            · rcases Nat.lt_or_ge j xs.length with h | h
              · exact h
              · rw [List.getElem?_eq_none h] at hj; cases hj
          have hr := run_append_grow_string (P := P) w T U o.type e i z hT hU hq hz ⟨b, 0, none⟩ n cap xs (by rw [hsz]; exact hx') holds t (by omega) (by omega) (growslice_fits (by omega) hbytes)
          obtain ⟨rest', hg1, hg2⟩ := grown cap
          rw [hsc] at hr
          refine goal _ _ hr (h _ _ [⟨w.heap.size, e, xs ++ bytesV t.data.toList ++ rest'⟩] ?_ (.row w.heap.size (grownCap w (n + t.size) cap e) rest' rfl hlen hg2 (grownCap_ge w (n + t.size) cap e) (grownCap_le_maxLen w (n + t.size) cap e h63) rfl))
          exact hL.swap (by rw [hg1])
theorem wpl_append_str {Lv S : List Blk} (hL : Sees w0 w (Lv ++ S)) (hw : Region.wanted o (yielded ops a.tmps) = true) {v : Value} {e : TypeId} {n : Nat} {xs : List Value} (hs : IsSl v e 1 n xs Lv) (T U : TypeId) (s x : Operand)
    (ho : o.op = .call { callee := .builtin .append, args := #[s, x], argTypes := #[T, U] }) (hv : a.eval s = v) (zs : List Value) (bytes : Nat)
    (hT : P.underlying T = some (.slice e)) (hU : P.underlying U = some .string) (hi : (P.info? e).map (fun i => (i.zero.map fun z => z.cells.toList, i.size, i.bytes)) = some (some zs, 1, bytes)) (hzs : zs.length = 1)
    (t : ByteArray) (hx : a.eval x = .string t) (h63 : n + t.size ≤ maxLen) (hbytes : (n + t.size) * bytes ≤ 140737488355328)
    (h : ∀ v' w' Lv', Sees w0 w' (Lv' ++ S) → IsSl v' e 1 (n + t.size) (xs ++ bytesV t.data.toList) Lv' → wpList P ops Q rest (a.put o.dst v') w') : wpList P ops Q (o :: rest) a w :=
  BigFrame.wpList_want hw fun _ hK => wp_append_str (P0 := []) hL hs T U s x ho hv zs bytes hT hU hi hzs t hx h63 hbytes fun v' w' Lv' h2 h3 => hK _ _ (h v' w' Lv' h2 h3)
end
end Go.Lx
namespace Go.Lx
open Go Go.RowKit
end Go.Lx
end
section
/- Lemmas of this session for the walks and the plain laws. -/
set_option linter.unusedVariables false
set_option linter.unusedSimpArgs false
/- What the program's tables read as; numbers as bit vectors. -/
namespace Go.Proofs.YticponffemffnaaDoor
open Go Go.RowKit Go.Lx

/-! ### types -/
theorem p_u64 : plainVar Tryd.prog 74 = true := by kernel_rfl
theorem p_u32 : plainVar Tryd.prog 71 = true := by kernel_rfl
theorem p_u8 : plainVar Tryd.prog 5 = true := by kernel_rfl
theorem p_int : plainVar Tryd.prog 3 = true := by kernel_rfl
theorem z_u8 : zeroOf Tryd.prog 5 = some [.int .u8 0] := by kernel_rfl
theorem i_u8 : (Tryd.prog.info? 5).map (fun i => (i.zero.map fun z => z.cells.toList, i.size, i.bytes)) = some (some [.int .u8 0], 1, 1) := by kernel_rfl
theorem s_u8 : (Tryd.prog.info? 5).map (·.size) = some 1 := by kernel_rfl
theorem u_bytes : Tryd.prog.underlying 53 = some (.slice 5) := by kernel_rfl
theorem u_u8 : Tryd.prog.underlying 5 = some (.int .u8) := by kernel_rfl
theorem u_string : Tryd.prog.underlying 9 = some .string := by kernel_rfl
theorem mixed : Tryd.prog.follows .mixedOrders = true := by kernel_rfl
theorem all1_nil : ∀ u ∈ ([] : List Value), u.one1 = true := fun _ h => (by cases h)
theorem all1_cons {v : Value} {l : List Value} (hv : v.one1 = true) (h : ∀ u ∈ l, u.one1 = true) : ∀ u ∈ v :: l, u.one1 = true := fun u hu => by
  rcases List.mem_cons.1 hu with rfl | hu
  · exact hv
  · exact h u hu

/-! ### numbers -/
abbrev U64 (x : BitVec 64) : Value := .int .u64 (x.toNat : Int)
abbrev U32 (x : BitVec 32) : Value := .int .u32 (x.toNat : Int)
abbrev U8 (x : BitVec 8) : Value := .int .u8 (x.toNat : Int)

theorem wrap_u8 (n : Int) : IntKind.u8.wrap n = n % 256 := by simp [IntKind.wrap, IntKind.bits, IntKind.signed]
theorem wrap_u32 (n : Int) : IntKind.u32.wrap n = n % 4294967296 := by simp [IntKind.wrap, IntKind.bits, IntKind.signed]
theorem wrap_u64 (n : Int) : IntKind.u64.wrap n = n % 18446744073709551616 := by simp [IntKind.wrap, IntKind.bits, IntKind.signed]

theorem bits_nat_u64 (op : BinOp) (a b : Nat) (ha : a < 2 ^ 64) (hb : b < 2 ^ 64) :
    bits op .u64 (a : Int) (b : Int) = (((match op with | .and => BitVec.ofNat 64 a &&& BitVec.ofNat 64 b | .or => BitVec.ofNat 64 a ||| BitVec.ofNat 64 b | .xor => BitVec.ofNat 64 a ^^^ BitVec.ofNat 64 b | _ => BitVec.ofNat 64 a &&& ~~~(BitVec.ofNat 64 b)) : BitVec 64).toNat : Int) := by
  unfold bits
  rw [wrap_u64]
  have e1 : BitVec.ofInt IntKind.u64.bits (a : Int) = BitVec.ofNat 64 a := BitVec.ofInt_natCast _ _
  have e2 : BitVec.ofInt IntKind.u64.bits (b : Int) = BitVec.ofNat 64 b := BitVec.ofInt_natCast _ _
  simp only [e1, e2]
  rw [Int.emod_eq_of_lt (by omega)]
  · rfl
  · exact Int.ofNat_lt.2 (BitVec.isLt _)

/-! ### the tables -/
def kTab : List Nat := [0x428a2f98, 0x71374491, 0xb5c0fbcf, 0xe9b5dba5, 0x3956c25b, 0x59f111f1, 0x923f82a4, 0xab1c5ed5, 0xd807aa98, 0x12835b01, 0x243185be, 0x550c7dc3, 0x72be5d74, 0x80deb1fe, 0x9bdc06a7, 0xc19bf174,
  0xe49b69c1, 0xefbe4786, 0x0fc19dc6, 0x240ca1cc, 0x2de92c6f, 0x4a7484aa, 0x5cb0a9dc, 0x76f988da, 0x983e5152, 0xa831c66d, 0xb00327c8, 0xbf597fc7, 0xc6e00bf3, 0xd5a79147, 0x06ca6351, 0x14292967,
  0x27b70a85, 0x2e1b2138, 0x4d2c6dfc, 0x53380d13, 0x650a7354, 0x766a0abb, 0x81c2c92e, 0x92722c85, 0xa2bfe8a1, 0xa81a664b, 0xc24b8b70, 0xc76c51a3, 0xd192e819, 0xd6990624, 0xf40e3585, 0x106aa070,
  0x19a4c116, 0x1e376c08, 0x2748774c, 0x34b0bcb5, 0x391c0cb3, 0x4ed8aa4a, 0x5b9cca4f, 0x682e6ff3, 0x748f82ee, 0x78a5636f, 0x84c87814, 0x8cc70208, 0x90befffa, 0xa4506ceb, 0xbef9a3f7, 0xc67178f2]
/-- round constants -/
def kc (j : Nat) : BitVec 32 := BitVec.ofNat 32 (kTab.getD j 0)
/-- the number of a word: no lemma of the walk opens it -/
def w32 (x : BitVec 32) : Int := x.toNat
abbrev W32 (x : BitVec 32) : Value := .int .u32 (w32 x)
/-- the specification's own table -/
def TabR (w : World) : Prop := ∀ j, j < 64 → w.cell? ⟨1, j, none⟩ = some (W32 (kc j))
theorem TabR.below {w w' : World} (h : TabR w) (hb : Below w.heap.size w w') : TabR w' :=
  have hs : Sees w w' [] := Sees.mk hb (fun _ h => (by cases h)) (fun _ h => (by cases h)) List.nodup_nil
  fun j hj => hs.old (h j hj)
structure Tab (w : World) : Prop where
  kcs : ∀ j, j < 64 → w.cell? ⟨0, j, none⟩ = some (W32 (kc j))
theorem Tab.below {w w' : World} (h : Tab w) (hb : Below w.heap.size w w') : Tab w' :=
  have hs : Sees w w' [] := Sees.mk hb (fun _ h => (by cases h)) (fun _ h => (by cases h)) List.nodup_nil
  ⟨fun j hj => hs.old (h.kcs j hj)⟩
theorem TabR.since {w w' : World} {L : List Blk} (h : TabR w) (hL : Sees w w' L) : TabR w' := h.below hL.below

theorem Tab.since {w w' : World} {L : List Blk} (h : Tab w) (hL : Sees w w' L) : Tab w' := h.below hL.below
end Go.Proofs.YticponffemffnaaDoor
end
section
set_option linter.unusedVariables false
set_option linter.unusedSimpArgs false
namespace Go.Lx
open Go Go.RowKit Go.ChangeShapes Go.WideShapes Go.Deep Go.Proofs.YticponffemffnaaDoorW.PrintWords
section
variable {H : Type} {α β : Type}
/-- what came in as a t reads as the kind d tells, and what it reads as is good -/
def Opens (enc : TypeId × Value → H) (P : Program) (W : World) (base : Nat) (spare : Nat → Bool) (held : Bool) (t : TypeId) (d : Kd α) (good : α → Prop) : Prop :=
  ∀ fuel cs x, DataW.trod enc P W base spare held fuel t cs = some x → ∃ p, d.K W p cs ∧ good p
variable {enc : TypeId × Value → H} {P : Program} {W : World} {base : Nat} {spare : Nat → Bool} {held : Bool}
theorem opens_int {t : TypeId} {k : IntKind} (ht : P.underlying t = some (.int k)) : Opens enc P W base spare held t (Kd.int k) (fun n => (Lit.int k n).wf = true) := by
  intro fuel cs x h
  obtain ⟨n, rfl, -, hw⟩ := DataW.trod_int ht h
  exact ⟨n, rfl, hw⟩
theorem opens_slice {t e : TypeId} {d : Kd α} {good : α → Prop} (ht : P.underlying t = some (.slice e)) (hs : P.cellsOf e = d.sz) (ho : Opens enc P W base spare held e d good) :
    Opens enc P W base spare held t (Kd.slice e d) (fun l => ∀ x ∈ l, good x) := by
  intro fuel cs x h
  rcases open_slice ht h with ⟨rfl, -⟩ | ⟨a, len, cap, m, n, D, Pl, rfl, hb, hl, hm, hmm, -, hx⟩
  · exact ⟨[], ⟨none, 0, rfl, Nat.le_refl _, Kd.C_nil _ _⟩, fun x hx => by cases hx⟩
  · have hle : len ≤ m := by rw [hmm]; split <;> omega
    have each : ∀ i, i < len → ∃ p : α × List Value, W.cells? base (a.add (i * P.cellsOf e)) (P.cellsOf e) = some p.2 ∧ d.K W p.1 p.2 ∧ good p.1 := by
      intro i hi
      obtain ⟨cs', h1, h2⟩ := hx i (by omega)
      obtain ⟨p, h3, h4⟩ := ho _ _ _ h2
      exact ⟨(p, cs'), h1, h3, h4⟩
    obtain ⟨y, hy⟩ : ∃ l : List (α × List Value), l.length = len ∧ ∀ i p, l[i]? = some p → W.cells? base (a.add (i * P.cellsOf e)) (P.cellsOf e) = some p.2 ∧ d.K W p.1 p.2 ∧ good p.1 := by
      clear hle hmm hm hl hx hb h
      induction len with
      | zero => exact ⟨[], rfl, fun i p hp => by simp at hp⟩
      | succ len ih =>
        obtain ⟨l, hl1, hl2⟩ := ih (fun i hi => each i (by omega))
        obtain ⟨p, hp⟩ := each len (by omega)
        refine ⟨l ++ [p], by simp [hl1], fun i q hq => ?_⟩
        rcases Nat.lt_or_ge i l.length with hi | hi
        · rw [List.getElem?_append_left hi] at hq
          exact hl2 i q hq
        · have hi' : i = l.length := by
            have := (List.getElem?_eq_some_iff.1 hq).1
            simp at this
            omega
          subst hi'
          have : p = q := by simpa using hq
          subst this
          rw [hl1]
          exact hp
    obtain ⟨hy1, hy2⟩ := hy
    have hlen : (y.map (·.1)).length = len := by simp [hy1]
    refine ⟨y.map (·.1), ⟨some a, cap, by rw [hlen], by rw [hlen]; exact hl, rfl, by rw [hlen]; unfold maxLen at hm; omega, fun _ => ⟨a, rfl, fun j p hj => ?_⟩⟩, fun x hx => ?_⟩
    · rw [List.getElem?_map] at hj
      obtain ⟨q, hq, rfl⟩ := Option.map_eq_some_iff.1 hj
      obtain ⟨h1, h2, h3⟩ := hy2 j q hq
      obtain ⟨_, hcl, hat⟩ := World.cells?_some h1
      rw [hs] at h1 hcl hat
      refine ⟨q.2, hcl, h2, fun i u hu => ?_⟩
      have hi := (List.getElem?_eq_some_iff.1 hu).1
      have hi' : i < d.sz := by omega
      rw [← Go.Deep.add_add, hat i hi']
      exact hu
    · obtain ⟨q, hq, rfl⟩ := List.mem_map.1 hx
      obtain ⟨i, hi⟩ := List.getElem?_of_mem hq
      exact (hy2 i q hi).2.2

/-- fields, one after the other, from the cell o on -/
def OpensAt (enc : TypeId × Value → H) (P : Program) (W : World) (base : Nat) (spare : Nat → Bool) (held : Bool) (fs : List Field) (o : Nat) (d : Kd α) (good : α → Prop) : Prop :=
  ∀ (n : Nat) (cs : List Value), (∀ f ∈ fs, ∃ x, DataW.trod enc P W base spare held n f.type ((cs.drop f.offset).take (P.cellsOf f.type)) = some x) → cs.length = o + d.sz → ∃ p, d.K W p (cs.drop o) ∧ good p
theorem opensAt_one {f : Field} {o : Nat} {d : Kd α} {good : α → Prop} (hf : f.offset = o) (hs : P.cellsOf f.type = d.sz) (h : Opens enc P W base spare held f.type d good) : OpensAt enc P W base spare held [f] o d good := by
  intro n cs hx hl
  obtain ⟨x, hx⟩ := hx f (.head _)
  rw [hf, hs, List.take_of_length_le (by rw [List.length_drop]; omega)] at hx
  exact h _ _ _ hx
theorem opensAt_cons {f : Field} {fs : List Field} {o : Nat} {a : Kd α} {b : Kd β} {ga : α → Prop} {gb : β → Prop} (hf : f.offset = o) (hs : P.cellsOf f.type = a.sz) (h : Opens enc P W base spare held f.type a ga)
    (k : OpensAt enc P W base spare held fs (o + a.sz) b gb) : OpensAt enc P W base spare held (f :: fs) o (Kd.pair a b) (fun p => ga p.1 ∧ gb p.2) := by
  intro n cs hx hl
  have hsz : (Kd.pair a b).sz = a.sz + b.sz := rfl
  obtain ⟨x, h1⟩ := hx f (.head _)
  rw [hf, hs] at h1
  obtain ⟨p, hp, gp⟩ := h _ _ _ h1
  obtain ⟨q, hq, gq⟩ := k n cs (fun g hg => hx g (.tail _ hg)) (by omega)
  refine ⟨(p, q), ⟨_, _, ?_, hp, hq⟩, gp, gq⟩
  rw [← List.drop_drop, List.take_append_drop]
theorem opens_struct {t : TypeId} {fs : Array Field} {d : Kd α} {good : α → Prop} (ht : P.underlying t = some (.struct fs)) (hs : P.cellsOf t = d.sz) (h : OpensAt enc P W base spare held fs.toList 0 d good) : Opens enc P W base spare held t d good := by
  intro fuel cs x hx
  obtain ⟨xs, n, -, -, hl, hlen, hg⟩ := DataW.trod_struct ht hx
  have := h n cs (fun f hf => by
    obtain ⟨i, hi⟩ := List.getElem?_of_mem hf
    have hi' : fs[i]? = some f := by simpa using hi
    have hlt : i < xs.length := by rw [hlen]; exact (Array.getElem?_eq_some_iff.1 hi').1
    exact ⟨xs[i], (hg i f hi').trans (List.getElem?_eq_getElem hlt)⟩) (by omega)
  simpa using this
theorem opens_iso {t : TypeId} {d : Kd α} {good : α → Prop} (f : β → α) (g : α → β) (hfg : ∀ p, f (g p) = p) (h : Opens enc P W base spare held t d good) : Opens enc P W base spare held t (Kd.iso d f) (fun x => good (f x)) := by
  intro fuel cs x hx
  obtain ⟨p, hp, gp⟩ := h _ _ _ hx
  refine ⟨g p, ?_, ?_⟩
  · show d.K W (f (g p)) cs
    rw [hfg]; exact hp
  · show good (f (g p))
    rw [hfg]; exact gp
/-- an argument that is a slice -/
theorem opens_arg {t e : TypeId} {d : Kd α} {good : List α → Prop} {a : Option Addr} {len cap : Nat} {y : DataW H} {ps : List MemPlace} (h : Opens enc P W base spare held t (Kd.slice e d) good) (hx : DataW.Trod enc P W base spare held t (.slice a len cap) y ps) :
    ∃ l : List α, len = l.length ∧ l.length ≤ cap ∧ d.C W a l.length l ∧ good l := by
  obtain ⟨fuel, hf⟩ := hx
  obtain ⟨l, ⟨A, c, hc, hl, hC⟩, hg⟩ := h _ _ _ hf
  simp [Value.cells] at hc
  obtain ⟨rfl, rfl, rfl⟩ := hc
  exact ⟨l, rfl, hl, hC, hg⟩
end
end Go.Lx
end
section
set_option linter.unusedVariables false
set_option linter.unusedSimpArgs false
namespace Go.Lx
open Go Go.RowKit
section
variable {P : Program} {o : Oper} {a : Act} {w : World} {ops : Array Oper} {rest : List Oper} {Q : Exit → Act → World → Prop}
/-- what a call of a function value with these arguments comes to -/
def CallsV (P : Program) (fv : Value) (args : Array Value) (w : World) (R : Ending → World → Prop) : Prop :=
  ∃ f lb, fv = .func (.func f) #[] lb ∧ enterable P f = true ∧ Calls P f (args ++ lb) w R
theorem CallsV.of {f : FuncId} {lb args : Array Value} {R : Ending → World → Prop} (he : enterable P f = true) (h : Calls P f (args ++ lb) w R) : CallsV P (.func (.func f) #[] lb) args w R := ⟨f, lb, rfl, he, h⟩
theorem CallsV.of0 {f : FuncId} {args : Array Value} {R : Ending → World → Prop} (he : enterable P f = true) (h : Calls P f args w R) : CallsV P (.func (.func f) #[] #[]) args w R := .of he (by simpa using h)
theorem CallsV.mono {fv : Value} {args : Array Value} {R R' : Ending → World → Prop} (h : CallsV P fv args w R) (hr : ∀ e w', R e w' → R' e w') : CallsV P fv args w R' := by
  obtain ⟨f, lb, e, he, hc⟩ := h
  exact ⟨f, lb, e, he, hc.mono hr⟩
theorem exec_callC {f : FuncId} (he : enterable P f = true) {c : Call} (ho : o.op = .call c) {x : Operand} (hc : c.callee = .value x) {lb : Array Value} (hx : a.eval x = .func (.func f) #[] lb) (w : World) :
    (execOp a.eval o).run P w = .ok (.enter f ((c.args.toList.map a.eval).toArray ++ lb)) w := by
  unfold enterable at he
  cases hf : P.funcs[f]? with
  | none => simp [hf] at he
  | some fn =>
    simp only [hf, Bool.and_eq_true, bne_iff_ne, ne_eq] at he
    have hb : fn.body.isNone = false := by cases h : fn.body <;> simp_all
    have hn : (fn.name == "runtime.NumGoroutine") = false := by simpa using he.2
    unfold execOp
    simp only [ho, resolve, hc, hx, Deferred.ofValue]
    have hb' : ¬ fn.body = none := by intro h; rw [h] at hb; simp at hb
    simp [Sem.run_bind, invoke, callFunc, program, Sem.run, hf, hb', he.2, ← Array.toList_map]
theorem wp_callV {K : Act → World → Prop} {c : Call} (ho : o.op = .call c) {x : Operand} (hc : c.callee = .value x) {fv : Value} (hx : a.eval x = fv) {R : Ending → World → Prop} (h : CallsV P fv (c.args.toList.map a.eval).toArray w R)
    (k : ∀ e w', R e w' → ∃ v, e = .returned v ∧ K (a.put o.dst v) w') : o.wp P a w K Q := by
  obtain ⟨f, lb, rfl, he, hcall⟩ := h
  unfold Oper.wp; rw [exec_callC he ho hc hx w]
  refine hcall.mono fun e w' h' => ?_
  obtain ⟨v, rfl, hk⟩ := k e w' h'
  exact hk
theorem wpl_callV (hw : Region.wanted o (yielded ops a.tmps) = true) {c : Call} (ho : o.op = .call c) {x : Operand} (hc : c.callee = .value x) {fv : Value} (hx : a.eval x = fv) {R : Ending → World → Prop} (h : CallsV P fv (c.args.toList.map a.eval).toArray w R)
    (k : ∀ e w', R e w' → ∃ v, e = .returned v ∧ wpList P ops Q rest (a.put o.dst v) w') : wpList P ops Q (o :: rest) a w :=
  BigFrame.wpList_want hw fun _ hK => wp_callV ho hc hx h fun e w' hr => by
    obtain ⟨v, rfl, hk⟩ := k e w' hr
    exact ⟨v, rfl, hK _ _ hk⟩
variable {wI : World} {QL : Act → World → Prop} {lrest : List (Cls × Oper)}
theorem x_callV (hw : Region.wanted o (yielded ops a.tmps) = true) {c : Call} (ho : o.op = .call c) {x : Operand} (hc : c.callee = .value x) {fv : Value} (hx : a.eval x = fv) {R : Ending → World → Prop} (h : CallsV P fv (c.args.toList.map a.eval).toArray w R)
    (k : ∀ e w', R e w' → ∃ v, e = .returned v ∧ wpLex P wI ops QL lrest (a.put o.dst v) w') : wpLex P wI ops QL ((.eff, o) :: lrest) a w :=
  wpLex_eff hw fun _ hK => wp_callV ho hc hx h fun e w' hr => by
    obtain ⟨v, rfl, hk⟩ := k e w' hr
    exact ⟨v, rfl, hK _ _ hk⟩
/-- block b holds a map of these entries -/
def MapIn (w0 w : World) (b : Nat) (es : Array MapEntry) : Prop := w0.heap.size ≤ b ∧ ∃ c, w.heap[b]? = some (.map es c)
variable {w0 : World} {L : List Blk}
theorem wpl_makeMap (hL : Sees w0 w L) (hw : Region.wanted o (yielded ops a.tmps) = true) (t : TypeId) (ho : o.op = .makeMap t none) (h : ∀ b w', Sees w0 w' L → MapIn w0 w' b #[] → wpList P ops Q rest (a.put o.dst (.map (some b))) w') : wpList P ops Q (o :: rest) a w :=
  BigFrame.wpList_want hw fun _ hK => by
    unfold Oper.wp execOp
    simp only [ho, Option.map_none, Instr.makeMap, Sem.run_bind, Sem.run_pure, Result.andThen_ok, newObj, Sem.run]
    exact hK _ _ (h _ _ (hL.allocAny _) ⟨hL.size, 0, (MapKept.heap_alloc w _).1⟩)
/-- a new key, a whole number -/
theorem wpl_insert {b : Nat} {es : Array MapEntry} (hL : Sees w0 w L) (hM : MapIn w0 w b es) (hb : ∀ e ∈ L, e.b ≠ b) (hw : Region.wanted o (yielded ops a.tmps) = true) {t kt et : TypeId} {m k x : Operand} (ho : o.op = .insert t m k x) (ht : P.underlying t = some (.map kt et)) (hk : P.underlying kt = some (.int .i64))
    (hm : a.eval m = .map (some b)) {n : Int} (hn : a.eval k = .int .i64 n) {v : Value} (hx : a.eval x = v) (hf : Instr.findNow (.int .i64) (.int .i64 n) es.toList 0 = some none)
    (h : ∀ w' c, Sees w0 w' L → MapIn w0 w' b (es.push ⟨.int .i64 n, v, c⟩) → wpList P ops Q rest (a.put o.dst undef) w') : wpList P ops Q (o :: rest) a w :=
  BigFrame.wpList_want hw fun _ hK => by
    obtain ⟨hb0, c, hc⟩ := hM
    have hkey : MapKept.IsKey (.int .i64) (.int .i64 n) := rfl
    have hset := MapKept.heap_set (o' := .map (es.push ⟨.int .i64 n, v, c⟩) (c + 1)) hc
    unfold Oper.wp execOp
    simp [ho, hm, hn, hx, Instr.mapUpdate, run_underlying ht, MapKept.run_getObj_map hc, MapKept.run_checkKey hk hkey, MapKept.run_findKey hk hf, MapKept.run_setObj_map _ hc, Result.andThen]
    refine hK _ _ (h _ c ⟨⟨hL.below.os, hL.below.tape, hL.below.output, by simp; exact hL.size, fun i hi => ?_⟩, hL.own, fun e he => (hset.2 _ (hb e he)).trans (hL.inn e he), hL.nd⟩ ⟨hb0, c + 1, hset.1⟩)
    exact (hset.2 i (by omega)).trans (hL.below.block i hi)
/-- what stands at a key -/
theorem run_lookup_int {b : Nat} {es : Array MapEntry} (hM : MapIn w0 w b es) {t kt et : TypeId} {m k : Operand} (ho : o.op = .lookup t m k false) (ht : P.underlying t = some (.map kt et)) (hk : P.underlying kt = some (.int .i64))
    (hm : a.eval m = .map (some b)) {n : Int} (hn : a.eval k = .int .i64 n) {i : Nat} {v : Value} (hf : Instr.findNow (.int .i64) (.int .i64 n) es.toList 0 = some (some (i, v))) : (execOp a.eval o).run P w = .ok (.value v) w := by
  obtain ⟨hb0, c, hc⟩ := hM
  have hkey : MapKept.IsKey (.int .i64) (.int .i64 n) := rfl
  unfold execOp
  simp [ho, hm, hn, Instr.lookup, run_underlying ht, MapKept.run_getObj_map hc, MapKept.run_checkKey hk hkey, MapKept.run_findKey hk hf, Result.andThen]
end
end Go.Lx
end
section
set_option linter.unusedVariables false
set_option linter.unusedSimpArgs false
namespace Go.Lx
open Go Go.RowKit Go.Proofs.YticponffemffnaaDoorW.PrintWords
def ofBytes (l : List UInt8) : List Int := l.map fun c => (c.toNat : Int)
theorem ofBytes_length (l : List UInt8) : (ofBytes l).length = l.length := by simp [ofBytes]
/-- a row that is read, in the print's words, reads in this session's -/
theorem rd_of_C {α : Type} {enc : α → Value} {h1 : ∀ x, (enc x).oneCell' = true} {w : World} {A : Option Addr} {c : Nat} {l : List α} (h : (Kd.scalar enc h1).C w A l.length l) : Rd w (.slice A l.length c) l.length 1 (l.map enc) := by
  refine ⟨⟨A, c, rfl, fun hn => ?_⟩, by simp⟩
  have hl : 0 < l.length := by
    cases l with
    | nil => exact absurd rfl hn
    | cons _ _ => simp
  obtain ⟨ad, e, hc⟩ := h.2.2 hl
  refine ⟨ad, e, fun j x hx => ?_⟩
  have hj : j < l.length := by
    rcases Nat.lt_or_ge j l.length with h | h
    · exact h
    · rw [List.getElem?_eq_none (by simpa using h)] at hx; cases hx
  obtain ⟨cs, _, rfl, hcell⟩ := hc j _ (List.getElem?_eq_getElem hj)
  have := hcell 0 _ rfl
  rw [show (Kd.scalar enc h1).sz = 1 from rfl, Nat.mul_one, Nat.add_zero] at this
  rw [List.getElem?_map, List.getElem?_eq_getElem hj] at hx
  simp only [Option.map_some, Option.some.injEq] at hx
  rw [← hx]
  exact this
/-- a slice of the call's own, in the print's words -/
theorem R_of_sl {α : Type} {enc : α → Value} {h1 : ∀ x, (enc x).oneCell' = true} {w0 w : World} {L Lv : List Blk} {v : Value} {e n : Nat} {l : List α} (h : IsSl v e 1 n (l.map enc) Lv) (hL : Sees w0 w L) (hs : ∀ x ∈ Lv, x ∈ L) :
    (Kd.scalar enc h1).R e w w0.heap.size (fun _ => True) v l := by
  have hlen := h.len
  have hn : n = l.length := by simpa using hlen.symm
  subst hn
  refine ⟨fun _ _ => trivial, l.map enc, ⟨by simp [Kd.scalar], ?_⟩, ?_⟩
  · cases h with
    | nil hv hn hx hl => exact .inl ⟨hv, hn⟩
    | row b cap rest hv hx hc hn hm hl =>
      refine .inr ⟨b, cap, (l.map enc ++ rest).toArray, hv, ?_, ?_, hn, hm, ?_, ?_⟩
      · exact hL.own ⟨b, e, l.map enc ++ rest⟩ (hs _ (by rw [hl]; exact .head _))
      · exact hL.inn ⟨b, e, l.map enc ++ rest⟩ (hs _ (by rw [hl]; exact .head _))
      · simpa [Kd.scalar] using hc
      · simp [Kd.scalar]
  · refine ⟨by simp [Kd.scalar], fun j p hj => ?_⟩
    show ((l.map enc).drop (j * 1)).take 1 = [enc p]
    have hjl : j < l.length := by
      rcases Nat.lt_or_ge j l.length with h | h
      · exact h
      · rw [List.getElem?_eq_none h] at hj; cases hj
    rw [List.getElem?_eq_getElem hjl] at hj
    simp only [Option.some.injEq] at hj
    rw [Nat.mul_one, List.drop_eq_getElem_cons (by simpa using hjl)]
    simp [hj]
/-- and back: a row that a callee made -/
theorem sl_of_R {α : Type} {enc : α → Value} {h1 : ∀ x, (enc x).oneCell' = true} {w w' : World} {v : Value} {e : Nat} {ok : Nat → Prop} {l : List α} (h : (Kd.scalar enc h1).R e w' w.heap.size ok v l) (hb : Below w.heap.size w w') :
    ∃ Lv, IsSl v e 1 l.length (l.map enc) Lv ∧ Sees w w' Lv := by
  obtain ⟨_, inner, ⟨hil, ho⟩, hrep⟩ := h
  have hsz : (Kd.scalar enc h1).sz = 1 := rfl
  rw [hsz] at hil ho hrep
  have hin : inner = l.map enc := by
    apply List.ext_getElem?
    intro j
    by_cases hj : j < l.length
    · have := hrep.2 j _ (List.getElem?_eq_getElem hj)
      have h2 : (inner.drop (j * 1)).take 1 = [enc l[j]] := this
      rw [Nat.mul_one] at h2
      have h3 := congrArg (·[0]?) h2
      rw [List.getElem?_map, List.getElem?_eq_getElem hj]
      simpa [List.getElem?_take, List.getElem?_drop] using h3
    · rw [List.getElem?_eq_none (by omega), List.getElem?_eq_none (by simp; omega)]
  subst hin
  rcases ho with ⟨he, h0⟩ | ⟨g, cap, cur, he, hg, hh, hnc, hcm, hcs, ht⟩
  · have hl : l = [] := List.eq_nil_of_length_eq_zero h0
    subst hl
    exact ⟨[], .nil he rfl rfl rfl, ⟨hb, fun _ h => (by cases h), fun _ h => (by cases h), List.nodup_nil⟩⟩
  · rw [Nat.mul_one] at ht hcs
    have hcur : cur.toList = l.map enc ++ cur.toList.drop l.length := by
      rw [← ht, List.take_append_drop]
    refine ⟨[⟨g, e, l.map enc ++ cur.toList.drop l.length⟩], .row g cap (cur.toList.drop l.length) he (by simp) (by rw [← hcur, Array.length_toList, hcs, Nat.mul_one]) hnc hcm rfl, ⟨hb, fun f hf => ?_, fun f hf => ?_, by simp⟩⟩
    · simp only [List.mem_singleton] at hf; rw [hf]; exact hg
    · simp only [List.mem_singleton] at hf; rw [hf]
      unfold Blk.In
      rw [← hcur, Array.toArray_toList]
      exact hh
end Go.Lx
end
section
set_option linter.unusedVariables false
set_option linter.unusedSimpArgs false
namespace Go.Lx
open Go Go.RowKit Go.Proofs.YticponffemffnaaDoorW.PrintWords
section
variable {P : Program} {o : Oper} {a : Act} {w w0 : World} {ops : Array Oper} {rest : List Oper} {Q : Exit → Act → World → Prop} {L : List Blk}
theorem wpl_make (hL : Sees w0 w L) (hw : Region.wanted o (yielded ops a.tmps) = true) {t e : TypeId} {x y : Operand} (ho : o.op = .makeSlice t x y) {z : Value} {bytes : Nat} (ht : P.underlying t = some (.slice e))
    (hi : (P.info? e).map (fun i => (i.zero, i.size, i.bytes)) = some (some z, 1, bytes)) (hz : z.cells = #[z]) {m : Nat} {kl kc : IntKind} (hx : a.eval x = .int kl (m : Int)) (hy : a.eval y = .int kc (m : Int)) (hb : bytes * m ≤ 281474976710656) (h63 : m ≤ 9223372036854775807)
    (h : ∀ b w', Sees w0 w' (⟨b, e, List.replicate m z⟩ :: L) → wpList P ops Q rest (a.put o.dst (.slice (some ⟨b, 0, none⟩) m m)) w') : wpList P ops Q (o :: rest) a w :=
  BigFrame.wpList_want hw fun _ hK => by
    have hrun := run_make_row' (P := P) t e z bytes ht hi hz kl kc m hb h63 w
    unfold Oper.wp execOp
    simp only [ho, hx, hy, Sem.run_bind, hrun, Result.andThen_ok]
    have hl : madeCells #[z] m = (List.replicate m z).toArray := by
      apply Array.ext
      · simp [size_madeCells]
      · intro i h1 h2
        simp [madeCells, Nat.mod_one]
    refine hK _ _ ?_
    rw [hl]
    exact h w.heap.size _ (hL.alloc e (List.replicate m z))
end
section
variable {α : Type}
/-- the cells of rows that lie one after the other, each of n cells -/
theorem flat_at (enc : α → List Value) (n : Nat) (hn : ∀ x, (enc x).length = n) : ∀ (l : List α) (j i : Nat) (x : α) (u : Value), l[j]? = some x → (enc x)[i]? = some u → (l.flatMap enc)[j * n + i]? = some u
  | [], j, i, x, u, h, _ => by simp at h
  | y :: l, 0, i, x, u, h, hu => by
    obtain rfl : y = x := by simpa using h
    rw [List.flatMap_cons, List.getElem?_append_left (by rw [Nat.zero_mul, Nat.zero_add]; exact (List.getElem?_eq_some_iff.1 hu).1)]
    simpa using hu
  | y :: l, j + 1, i, x, u, h, hu => by
    have h' : l[j]? = some x := by simpa using h
    rw [List.flatMap_cons, List.getElem?_append_right (by rw [hn, Nat.succ_mul]; omega), hn, show (j + 1) * n + i - n = j * n + i by rw [Nat.succ_mul]; omega]
    exact flat_at enc n hn l j i x u h' hu
theorem flat_len' (enc : α → List Value) (n : Nat) (hn : ∀ x, (enc x).length = n) : ∀ l : List α, (l.flatMap enc).length = l.length * n
  | [] => by simp
  | y :: l => by rw [List.flatMap_cons, List.length_append, hn, flat_len' enc n hn l, List.length_cons, Nat.succ_mul]; omega
/-- a row of elements whose cells are told by a function -/
theorem rd_of_K {d : Kd α} {w : World} {A : Option Addr} {c : Nat} {l : List α} (enc : α → List Value) (hK : ∀ x cs, d.K w x cs → cs = enc x) (hs : ∀ x, (enc x).length = d.sz) (h0 : 0 < d.sz) (h : d.C w A l.length l) : Rd w (.slice A l.length c) l.length d.sz (l.flatMap enc) := by
  have hlen := flat_len' enc d.sz hs l
  refine ⟨⟨A, c, rfl, fun hne => ?_⟩, hlen⟩
  have hpos : 0 < l.length := by
    rcases l with _ | ⟨_, _⟩
    · simp at hne
    · simp
  obtain ⟨ad, e, hc⟩ := h.2.2 hpos
  refine ⟨ad, e, fun j x hx => ?_⟩
  have hj : j < l.length * d.sz := by rw [← hlen]; exact (List.getElem?_eq_some_iff.1 hx).1
  have hq : j / d.sz < l.length := Nat.div_lt_of_lt_mul (by rw [Nat.mul_comm]; exact hj)
  obtain ⟨cs, hcl, hk, hcell⟩ := hc (j / d.sz) _ (List.getElem?_eq_getElem hq)
  have hcs := hK _ _ hk
  have hr : j % d.sz < d.sz := Nat.mod_lt _ h0
  have hu : cs[j % d.sz]? = some (cs[j % d.sz]'(by omega)) := List.getElem?_eq_getElem _
  have e1 : j / d.sz * d.sz + j % d.sz = j := by rw [Nat.mul_comm]; exact Nat.div_add_mod j d.sz
  have h1 := hcell _ _ hu
  rw [e1] at h1
  have h2 := flat_at enc d.sz hs l (j / d.sz) (j % d.sz) _ _ (List.getElem?_eq_getElem hq) (by rw [← hcs]; exact hu)
  rw [e1, hx] at h2
  rw [h1, ← h2]
end
def numV (l : List Int) : List Value := l.map fun n => .int .i64 n
theorem numV_at (l : List Int) (j : Nat) (h : j < l.length) : (numV l)[j]? = some (.int .i64 (l[j])) := by simp [numV, h]
theorem numV_len (l : List Int) : (numV l).length = l.length := by simp [numV]
theorem numV_one (l : List Int) : ∀ u ∈ numV l, u.one1 = true := by
  intro u hu
  obtain ⟨n, _, rfl⟩ := List.mem_map.1 hu
  rfl
/-- a slice of slices of numbers, read -/
structure RdM (w : World) (v : Value) (rows : List (List Int)) : Prop where
  shape : ∃ a cap, v = .slice a rows.length cap ∧ rows.length ≤ 9223372036854775807 ∧ ∀ j row, rows[j]? = some row → ∃ ad A c, a = some ad ∧ w.cell? (ad.add j) = some (.slice A row.length c) ∧ row.length ≤ 9223372036854775807 ∧ Rd w (.slice A row.length c) row.length 1 (numV row)
theorem RdM.below {w w' : World} {v : Value} {rows : List (List Int)} (h : RdM w v rows) (hb : Below w.heap.size w w') : RdM w' v rows := by
  obtain ⟨a, cap, rfl, hl, hc⟩ := h.shape
  refine ⟨a, cap, rfl, hl, fun j row hj => ?_⟩
  obtain ⟨ad, A, c, rfl, h1, h2, h3⟩ := hc j row hj
  exact ⟨ad, A, c, rfl, (hb.cell (World.block_lt_of_cell? w _ h1)).trans h1, h2, h3.below hb⟩
theorem RdM.sees {w w' : World} {L : List Blk} {v : Value} {rows : List (List Int)} (h : RdM w v rows) (hL : Sees w w' L) : RdM w' v rows := h.below hL.below
theorem rdM_of_C {w : World} {A : Option Addr} {c : Nat} {e : Nat} {l : List (List Int)} (h : (Kd.slice e (Kd.int .i64)).C w A l.length l) : RdM w (.slice A l.length c) l := by
  refine ⟨A, c, rfl, h.2.1, fun j row hj => ?_⟩
  have hjl := (List.getElem?_eq_some_iff.1 hj).1
  obtain ⟨ad, rfl, hc⟩ := h.2.2 (by omega)
  obtain ⟨cs, _, ⟨A', c', rfl, hl', hC⟩, hcell⟩ := hc j row hj
  have := hcell 0 _ rfl
  rw [show (Kd.slice e (Kd.int .i64)).sz = 1 from rfl, Nat.mul_one, Nat.add_zero] at this
  exact ⟨ad, A', c', rfl, this, hC.2.1, rd_of_C hC⟩
/-- a row of the call's own that is not empty: where it lies; the same row with other elements -/
theorem IsSl.open_ {a : Option Addr} {n c e size : Nat} {xs : List Value} {Lv : List Blk} (h : IsSl (.slice a n c) e size n xs Lv) (hn : 0 < n) :
    ∃ b rest, a = some ⟨b, 0, none⟩ ∧ Lv = [⟨b, e, xs ++ rest⟩] ∧ ∀ xs', xs'.length = xs.length → IsSl (.slice (some ⟨b, 0, none⟩) n c) e size n xs' [⟨b, e, xs' ++ rest⟩] := by
  cases h with
  | nil hv h0 hx hl => omega
  | row b cap rest hv hx hc hn' hm hl =>
    injection hv with h1 h2 h3
    subst h3
    exact ⟨b, rest, h1, hl, fun xs' h' => .row b c rest rfl (by rw [h', hx]) (by rw [List.length_append, h', ← List.length_append, hc]) hn' hm rfl⟩
/-- a slice of the call's own, in the print's words: elements of several cells -/
theorem R_of_slK {α : Type} {d : Kd α} {w0 w : World} {L Lv : List Blk} {v : Value} {e n : Nat} {l : List α} (enc : α → List Value) (hs : ∀ x, (enc x).length = d.sz) (hM : ∀ w base ok x, d.M w base ok x (enc x)) (hn : n = l.length) (h : IsSl v e d.sz n (l.flatMap enc) Lv) (hL : Sees w0 w L) (hLv : ∀ x ∈ Lv, x ∈ L) :
    d.R e w w0.heap.size (fun _ => True) v l := by
  subst hn
  have hlen := flat_len' enc d.sz hs l
  refine ⟨fun _ _ => trivial, l.flatMap enc, ⟨hlen, ?_⟩, hlen, fun j p hj => ?_⟩
  · cases h with
    | nil hv hn hx hl => exact .inl ⟨hv, hn⟩
    | row b cap rest hv hx hc hn hm hl =>
      refine .inr ⟨b, cap, (l.flatMap enc ++ rest).toArray, hv, ?_, ?_, hn, hm, ?_, ?_⟩
      · exact hL.own ⟨b, e, l.flatMap enc ++ rest⟩ (hLv _ (by rw [hl]; exact .head _))
      · exact hL.inn ⟨b, e, l.flatMap enc ++ rest⟩ (hLv _ (by rw [hl]; exact .head _))
      · simpa using hc
      · rw [← hlen]; simp
  · have e1 : ((l.flatMap enc).drop (j * d.sz)).take d.sz = enc p := by
      apply List.ext_getElem?
      intro i
      by_cases hi : i < d.sz
      · rw [List.getElem?_take, if_pos hi, List.getElem?_drop]
        have hu : (enc p)[i]? = some ((enc p)[i]'(by rw [hs]; exact hi)) := List.getElem?_eq_getElem _
        rw [hu]
        exact flat_at enc d.sz hs l j i p _ hj hu
      · rw [List.getElem?_take, if_neg hi, List.getElem?_eq_none (by rw [hs]; omega)]
    rw [e1]
    exact hM _ _ _ _
/-- one element more, of several cells, from a literal of one element that lies at the head of the known rows -/
theorem wpl_appK {P : Program} {o : Oper} {a : Act} {w w0 : World} {ops : Array Oper} {rest : List Oper} {Q : Exit → Act → World → Prop} {b : Nat} {e : TypeId} {cs zs : List Value} {Lv S : List Blk} (hL : Sees w0 w (⟨b, e, cs⟩ :: (Lv ++ S))) (hw : Region.wanted o (yielded ops a.tmps) = true) {v : Value} {n bytes size : Nat} {xs : List Value} (hs : IsSl v e size n xs Lv) (T : TypeId) (s x : Operand)
    (ho : o.op = .call { callee := .builtin .append, args := #[s, x], argTypes := #[T, T] }) (hv : a.eval s = v) (hx : a.eval x = .slice (some ⟨b, 0, none⟩) 1 1)
    (hT : P.underlying T = some (.slice e)) (hi : (P.info? e).map (fun i => (i.zero.map fun z => z.cells.toList, i.size, i.bytes)) = some (some zs, size, bytes)) (hzs : zs.length = size) (hcs : cs.length = size) (h1 : ∀ u ∈ cs, u.one1 = true)
    (h63 : n + 1 ≤ maxLen) (hbytes : (n + 1) * bytes ≤ 140737488355328)
    (h : ∀ v' w' Lv', Sees w0 w' (Lv' ++ S) → IsSl v' e size (n + 1) (xs ++ cs) Lv' → wpList P ops Q rest (a.put o.dst v') w') : wpList P ops Q (o :: rest) a w :=
  wpl_append (P0 := [⟨b, e, cs⟩]) hL hw hs T s x ho hv zs bytes hT hi hzs ⟨b, 0, none⟩ 1 1 cs hx (by rw [hcs, Nat.one_mul]) (fun j y hy => hL.row (.head _) j y hy) h1 h63 hbytes
    fun v' w' Lv' h2 h3 => h v' w' Lv' (h2.forget (List.sublist_cons_self _ _)) h3
end Go.Lx
end
section
set_option linter.unusedVariables false
set_option linter.unusedSimpArgs false
namespace Go.Lx
open Go Go.RowKit Go.Proofs.YticponffemffnaaDoorW.PrintWords
/-- a made row: its block, its length, its capacity, what lies behind -/
structure RowD where
  b : Nat
  n : Nat
  cap : Nat
  rest : List Value
def RowD.val (u : RowD) : Value := .slice (some ⟨u.b, 0, none⟩) u.n u.cap
def RowD.blk (u : RowD) (e : TypeId) (r : List Int) : Blk := ⟨u.b, e, numV r ++ u.rest⟩
def lbG (e : TypeId) (us : List RowD) (rows : List (List Int)) : List Blk := List.zipWith (fun u r => u.blk e r) us rows
def valsG (us : List RowD) : List Value := us.map RowD.val
/-- the slice v holds these rows, each made by the call, no two in one block -/
def RowsOf (w0 w : World) (e q : TypeId) (v : Value) (rows : List (List Int)) : Prop :=
  ∃ (Lv : List Blk) (us : List RowD), us.length = rows.length ∧ Sees w0 w (Lv ++ lbG q us rows) ∧ IsSl v e 1 rows.length (valsG us) Lv ∧ ∀ (i : Nat) (u : RowD) (r : List Int), us[i]? = some u → rows[i]? = some r → IsSl u.val q 1 r.length (numV r) [u.blk q r]
theorem lbG_at {q : TypeId} {us : List RowD} {rows : List (List Int)} {i : Nat} {u : RowD} {r : List Int} (hu : us[i]? = some u) (hr : rows[i]? = some r) : (lbG q us rows)[i]? = some (u.blk q r) := by
  unfold lbG; rw [List.getElem?_zipWith, hu, hr]
theorem lbG_bs {q : TypeId} {us : List RowD} {rows : List (List Int)} (h : us.length = rows.length) : (lbG q us rows).map (·.b) = us.map (·.b) := by
  apply List.ext_getElem?
  intro i
  rw [List.getElem?_map, List.getElem?_map]
  rcases Nat.lt_or_ge i us.length with hi | hi
  · rw [lbG_at (List.getElem?_eq_getElem hi) (List.getElem?_eq_getElem (show i < rows.length by omega)), List.getElem?_eq_getElem hi]; rfl
  · rw [List.getElem?_eq_none (by unfold lbG; rw [List.length_zipWith]; omega), List.getElem?_eq_none hi]; rfl
theorem RowsOf.S {w0 w : World} {e q : TypeId} {v : Value} {rows : List (List Int)} (h : RowsOf w0 w e q v rows) : Kd.S (Kd.slice q (Kd.int .i64)) e w w0.heap.size (fun _ => True) v rows := by
  obtain ⟨Lv, us, hlen, hL, hV, hrow⟩ := h
  have hnd := hL.nd
  rw [List.map_append, lbG_bs hlen] at hnd
  obtain ⟨hn1, hn2, hn3⟩ := List.nodup_append.1 hnd
  have hidx : ∀ (i : Nat) (u : RowD), us[i]? = some u → (us.map (·.b)).idxOf u.b = i := by
    intro i u hu
    have hi := (List.getElem?_eq_some_iff.1 hu).1
    have h1 : (us.map (·.b))[i]'(by simpa using hi) = u.b := by
      rw [List.getElem_map]; congr 1; exact (List.getElem?_eq_some_iff.1 hu).2
    rw [← h1]
    exact List.Nodup.idxOf_getElem hn2 i (by simpa using hi)
  refine ⟨fun b => (us.map (·.b)).idxOf b, fun _ _ => trivial, valsG us, ?_, ?_, ?_⟩
  · have hR : (Kd.int .i64).R e w w0.heap.size (fun _ => True) v ([] : List Int) ∨ True := .inr trivial
    rw [List.length_zipIdx]
    have hl : (valsG us).length = rows.length := by unfold valsG; simp [hlen]
    refine ⟨by rw [hl]; simp [Kd.tag, Kd.slice], ?_⟩
    cases hV with
    | nil hv hn hx hl => exact .inl ⟨hv, hn⟩
    | row b cap rest hv hx hc hn hm hl' =>
      refine .inr ⟨b, cap, (valsG us ++ rest).toArray, hv, ?_, ?_, hn, hm, ?_, ?_⟩
      · exact hL.own ⟨b, e, valsG us ++ rest⟩ (by rw [hl']; exact .head _)
      · exact hL.inn ⟨b, e, valsG us ++ rest⟩ (by rw [hl']; exact .head _)
      · simpa [Kd.tag, Kd.slice] using hc
      · show (valsG us ++ rest).take (rows.length * 1) = _
        rw [Nat.mul_one, ← hl]; simp
  · rw [List.length_zipIdx]; unfold valsG; simp [hlen, Kd.tag, Kd.slice]
  · intro j p hj
    rw [List.getElem?_zipIdx] at hj
    obtain ⟨r, hr, rfl⟩ := Option.map_eq_some_iff.1 hj
    have hjl := (List.getElem?_eq_some_iff.1 hr).1
    have hu : us[j]? = some (us[j]'(by omega)) := List.getElem?_eq_getElem _
    generalize us[j]'(by omega) = u at hu
    have hc : ((valsG us).drop (j * 1)).take 1 = [u.val] := by
      have hv : (valsG us)[j]? = some u.val := by unfold valsG; rw [List.getElem?_map, hu]; rfl
      obtain ⟨hlt, hv⟩ := List.getElem?_eq_some_iff.1 hv
      rw [Nat.mul_one, List.drop_eq_getElem_cons hlt, hv]; rfl
    show (Kd.tag _ (Kd.slice q (Kd.int .i64))).M w w0.heap.size _ (r, 0 + j) (((valsG us).drop (j * 1)).take 1)
    rw [hc, Nat.zero_add]
    have hsl := hrow j u r hu hr
    have hmem : u.blk q r ∈ Lv ++ lbG q us rows := List.mem_append_right _ (by
      have := lbG_at (q := q) hu hr
      exact List.mem_of_getElem? this)
    have hR := R_of_sl (enc := Value.int .i64) (h1 := fun _ => rfl) (l := r) (w0 := w0) hsl hL (fun x hx => by rw [List.mem_singleton.1 hx]; exact hmem)
    refine ⟨u.val, rfl, fun k hk => ⟨⟨trivial, fun he => ?_⟩, ?_⟩, hR.2⟩
    · -- another block than the outer row's
      have hkb : k = u.b := by
        unfold RowD.val Value.ownBlock at hk
        simpa using hk.symm
      cases hV with
      | nil hv hn hx hl => rw [hv] at he; simp [Value.ownBlock] at he
      | row b cap rest hv hx hc hn hm hl' =>
        rw [hv] at he
        have hb : k = b := by simpa [Value.ownBlock] using he
        refine hn3 b (by rw [hl']; simp) u.b ?_ (by rw [← hb, hkb])
        exact List.mem_map.2 ⟨u, List.mem_of_getElem? hu, rfl⟩
    · have hkb : k = u.b := by
        unfold RowD.val Value.ownBlock at hk
        simpa using hk.symm
      rw [hkb]
      exact hidx j u hu
end Go.Lx
end
