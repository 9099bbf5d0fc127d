/- A store and the document's one. -/
import Derived.Test.YtajmfgadbphjbaaStRef3
import Derived.Test.YtajmfgadbphjbaaStSame
set_option linter.unusedVariables false
namespace Go.Proofs.Ytajmfgadbphjbaa
open Go.RowKit

/-- A store and the document's one; elder memory stands. -/
structure Both (w0 w : World) (P g : Nat) (R : RAt) (st s2 : St) : Prop where
  s : StoreV w P g st
  r : RefV w R s2
  below : Below w0.heap.size w0 w
  hP : w0.heap.size ≤ P
  hg : w0.heap.size ≤ g
  hp : w0.heap.size ≤ R.p
  hb : w0.heap.size ≤ R.b
  hu : w0.heap.size ≤ R.u
  ap : (P ≠ R.p ∧ P ≠ R.b ∧ P ≠ R.u) ∧ g ≠ R.p ∧ g ≠ R.b ∧ g ≠ R.u

theorem below_but {M : Nat → Prop} {w0 w w' : World} (hb : Below w0.heap.size w0 w) (hw : GrowBut M w w') (hm : ∀ k, M k → w0.heap.size ≤ k) : Below w0.heap.size w0 w' :=
  ⟨hw.os.trans hb.os, hw.tape.trans hb.tape, hw.output.trans hb.output, Nat.le_trans hb.size hw.size, fun k hk => (hw.block k (Nat.lt_of_lt_of_le hk hb.size) (fun h => by have := hm k h; omega)).trans (hb.block k hk)⟩

def BOwn (P g : Nat) (R : RAt) : Nat → Prop := fun k => Own P g k ∨ ROwn R k

section
variable {w0 w w' : World} {P g : Nat} {R : RAt} {st s2 s' : St}
theorem Both.turnS (h : Both w0 w P g R st s2) (hs : StoreV w' P g s') (hw : GrowBut (Own P g) w w') : Both w0 w' P g R s' s2 := by
  have h1 := h.hP; have h2 := h.hg
  have ⟨⟨a1, a2, a3⟩, a4, a5, a6⟩ := h.ap
  exact ⟨hs, h.r.stay hw (by simp only [Own]; omega) (by simp only [Own]; omega) (by simp only [Own]; omega), below_but h.below hw (fun k hk => by simp only [Own] at hk; omega), h1, h2, h.hp, h.hb, h.hu, h.ap⟩
theorem Both.turnR (h : Both w0 w P g R st s2) (hs : RefV w' R s') (hw : GrowBut (ROwn R) w w') : Both w0 w' P g R st s' := by
  have h1 := h.hp; have h2 := h.hb; have h3 := h.hu
  have ⟨⟨a1, a2, a3⟩, a4, a5, a6⟩ := h.ap
  exact ⟨h.s.stay hw (by simp only [ROwn]; omega) (by simp only [ROwn]; omega), hs, below_but h.below hw (fun k hk => by simp only [ROwn] at hk; omega), h.hP, h.hg, h1, h2, h3, h.ap⟩
theorem Both.grow (h : Both w0 w P g R st s2) (hw : Grow w w') : Both w0 w' P g R st s2 :=
  ⟨h.s.stay (M := NoBlock) (GrowBut.of_below hw) (fun h => h) (fun h => h), h.r.stay (M := NoBlock) (GrowBut.of_below hw) (fun h => h) (fun h => h) (fun h => h), h.below.trans (Below.mono hw h.below.size), h.hP, h.hg, h.hp, h.hb, h.hu, h.ap⟩
theorem Both.alloc (h : Both w0 w P g R st s2) (o : Obj) : Both w0 (w.alloc o) P g R st s2 := h.grow ((Grow.refl w).alloc o)
theorem Both.drewN (h : Both w0 w P g R st s2) (n : Nat) : Both w0 (w.drewN n) P g R st s2 := ⟨h.s.drewN n, ⟨h.r.head, h.r.rowB, h.r.rowU, h.r.ne1, h.r.ne2, h.r.ne3, h.r.pos, h.r.le, h.r.fuse, h.r.byte, h.r.torn⟩, ⟨h.below.os, h.below.tape, h.below.output, h.below.size, h.below.block⟩, h.hP, h.hg, h.hp, h.hb, h.hu, h.ap⟩
theorem Both.drew (h : Both w0 w P g R st s2) : Both w0 w.drew P g R st s2 := ⟨h.s.drew, h.r.drew, ⟨h.below.os, h.below.tape, h.below.output, h.below.size, h.below.block⟩, h.hP, h.hg, h.hp, h.hb, h.hu, h.ap⟩
theorem Both.held (h : Both w0 w P g R st s2) {v : Value} {zs : List Int} (hv : BytesV w0 v zs) : Held P g w v zs := held_of hv h.below h.hP h.hg
theorem Both.heldR (h : Both w0 w P g R st s2) {v : Value} {zs : List Int} (hv : BytesV w0 v zs) : HeldR R w v zs := heldR_of hv h.below h.hp h.hb h.hu
theorem Both.lts (h : Both w0 w P g R st s2) : P < w.heap.size ∧ g < w.heap.size ∧ R.p < w.heap.size ∧ R.b < w.heap.size ∧ R.u < w.heap.size :=
  ⟨h.s.ltP, h.s.ltG, h.r.lts.1, h.r.lts.2.1, h.r.lts.2.2⟩
end

theorem growS {w w' : World} {P g : Nat} {R : RAt} (h : GrowBut (Own P g) w w') : GrowBut (BOwn P g R) w w' := h.weaken fun _ h => Or.inl h
theorem growR {w w' : World} {P g : Nat} {R : RAt} (h : GrowBut (ROwn R) w w') : GrowBut (BOwn P g R) w w' := h.weaken fun _ h => Or.inr h

end Go.Proofs.Ytajmfgadbphjbaa
