/- The rule for regions that draw their order, in steps to walk by. -/
import Derived.Test.YtiphhjipgjpepaaDrawn
import Derived.WalkKit
set_option linter.unusedVariables false
namespace Go.Proofs.Ytiphhjipgjpepaa
open Go.RowKit

/-- A plain operation's result: a value, in the very world. -/
def pureUpon (w : World) (v : Value) : Result Next → Prop
  | .ok (.value u) w' => w' = w ∧ u = v
  | .ok .skip w' => w' = w ∧ v = undef
  | _ => False

def pureOp (P : Program) (o : Oper) (a : Act) (K : Act → Prop) : Prop := ∃ v, (∀ w, pureUpon w v ((execOp a.eval o).run P w)) ∧ K (a.put o.dst v)

attribute [go_sem] pureUpon pureOp mildUpon mildAt fill

section
variable {P : Program} {ops : Array Oper} {M : Nat → Prop} {w0 : World} {cs : List Nat} {Qf : Act → List (Tmp × (Value → World → Prop)) → (World → Prop) → Prop}
  {o : Oper} {rest : List Oper} {k : Nat} {a : Act} {hs : List (Tmp × (Value → World → Prop))} {C : World → Prop}

theorem wpH_nil (h : Qf a hs C) : wpH P ops M w0 cs Qf [] k a hs C := h

theorem fill_out (xs : Tmp → Value) (h : (hs.all fun p => !(o.looksAt ops).contains p.1) = true) (hs' : ∀ cs b, o.op ≠ .select cs b) :
    execOp (fill hs xs a).eval o = execOp a.eval o ∧ Region.wanted o (yielded ops (fill hs xs a).tmps) = Region.wanted o (yielded ops a.tmps) := by
  induction hs with
  | nil => exact ⟨rfl, rfl⟩
  | cons p r ih =>
    simp only [List.all_cons, Bool.and_eq_true] at h
    have hn : ∀ d, (some p.1 : Option Tmp) = some d → d ∉ o.looksAt ops := fun d hd hm => by
      have : p.1 = d := Option.some.inj hd
      subst this
      rw [List.contains_iff_mem.2 hm] at h
      exact absurd h.1 (by simp)
    obtain ⟨h1, h2⟩ := ih h.2
    simp only [fill]
    exact ⟨(execOp_put o hs' _ _ _ hn).trans h1, (wanted_put o _ _ _ hn).trans h2⟩

/-- A plain operation, that looks at no hidden slot (or one that its guard leaves out). -/
theorem wpH_pure (hsel : (∀ cs b, o.op ≠ .select cs b)) (hc : cs.contains k = false) (hl : (hs.all fun p => !(o.looksAt ops).contains p.1) = true)
    (h : ∀ K : Act → Prop, (∀ a, wpH P ops M w0 cs Qf rest (k + 1) a hs C → K a) → if Region.wanted o (yielded ops a.tmps) then pureOp P o a K else K (a.put o.dst undef)) : wpH P ops M w0 cs Qf (o :: rest) k a hs C := by
  have h' := h _ (fun _ h => h)
  split at h'
  · rename_i hw
    obtain ⟨v, hv, hk⟩ := h'
    refine ⟨_, _, _, Or.inr ⟨fun xs => by rw [(fill_out xs hl hsel).2]; exact hw, _, fun u w w' _ h => h, Or.inl ⟨v, rfl, rfl, rfl⟩, Or.inl ⟨rfl, hc, fun xs w _ _ => ?_⟩⟩, hk⟩
    unfold mildAt
    rw [(fill_out xs hl hsel).1]
    have := hv w
    generalize (execOp a.eval o).run P w = r at *
    cases r with
    | ok x w' =>
      cases x <;> simp only [pureUpon] at this <;> simp only [mildUpon]
      case value u => obtain ⟨rfl, rfl⟩ := this; exact ⟨rfl, Below.refl _ _⟩
      case skip => obtain ⟨rfl, rfl⟩ := this; exact ⟨rfl, Below.refl _ _⟩
    | halt x w' => simp only [pureUpon] at this
  · rename_i hw
    exact ⟨_, _, _, Or.inl ⟨fun xs => by rw [(fill_out xs hl hsel).2]; simpa using hw, rfl, rfl, rfl⟩, h'⟩

/-- An operation whose value is known, beforehand. -/
theorem wpH_det (v : Value) (hc : cs.contains k = false) (hw : ∀ xs, Region.wanted o (yielded ops (fill hs xs a).tmps) = true)
    (h : ∀ xs w, GrowBut M w0 w → HF ops o hs xs w → mildAt P o (fill hs xs a) w (fun u _ => u = v) (fun w' => Below w.heap.size w w')) (hk : wpH P ops M w0 cs Qf rest (k + 1) (a.put o.dst v) hs C) :
    wpH P ops M w0 cs Qf (o :: rest) k a hs C :=
  ⟨_, _, _, Or.inr ⟨hw, _, fun u w w' _ h => h, Or.inl ⟨v, rfl, rfl, rfl⟩, Or.inl ⟨rfl, hc, h⟩⟩, hk⟩

/-- An operation of whose value a property is known. -/
theorem wpH_hid {d : Tmp} (φ : Value → World → Prop) (hd : o.dst = some d) (hc : cs.contains k = false) (hst : ∀ u w w', GrowBut M w w' → φ u w → φ u w') (hw : ∀ xs, Region.wanted o (yielded ops (fill hs xs a).tmps) = true)
    (h : ∀ xs w, GrowBut M w0 w → HF ops o hs xs w → mildAt P o (fill hs xs a) w φ (fun w' => Below w.heap.size w w')) (hk : wpH P ops M w0 cs Qf rest (k + 1) (a.put o.dst undef) ((d, φ) :: hs) C) :
    wpH P ops M w0 cs Qf (o :: rest) k a hs C :=
  ⟨_, _, _, Or.inr ⟨hw, φ, hst, Or.inr ⟨d, hd, rfl, rfl⟩, Or.inl ⟨rfl, hc, h⟩⟩, hk⟩

/-- An operation of the chain whose value is known. -/
theorem wpH_cdet (v : Value) (C' : World → Prop) (hc : cs.contains k = true) (hC : ∀ w w', Below w.heap.size w w' → C' w → C' w') (hw : ∀ xs, Region.wanted o (yielded ops (fill hs xs a).tmps) = true)
    (h : ∀ xs w, GrowBut M w0 w → C w → HF ops o hs xs w → mildAt P o (fill hs xs a) w (fun u _ => u = v) (fun w' => GrowBut M w w' ∧ C' w')) (hk : wpH P ops M w0 cs Qf rest (k + 1) (a.put o.dst v) hs C') :
    wpH P ops M w0 cs Qf (o :: rest) k a hs C :=
  ⟨_, _, _, Or.inr ⟨hw, _, fun u w w' _ h => h, Or.inl ⟨v, rfl, rfl, rfl⟩, Or.inr ⟨hC, hc, h⟩⟩, hk⟩

end

/-- Memory grows. -/
abbrev NoBlock : Nat → Prop := fun _ => False
end Go.Proofs.Ytiphhjipgjpepaa
