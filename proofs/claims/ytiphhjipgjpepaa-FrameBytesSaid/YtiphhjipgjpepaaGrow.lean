/- Memory that grows, but for some blocks. -/
import Derived.Test.YtiphhjipgjpepaaSumReads
import Derived.Test.YtiphhjipgjpepaaDrawn
import Derived.Deep.Draws
import Derived.Laws.IdiomCopy
set_option linter.unusedVariables false
namespace Go.Proofs.Ytiphhjipgjpepaa
open Go.RowKit

theorem GrowBut.weaken {M M' : Nat → Prop} {w w' : World} (h : GrowBut M w w') (hm : ∀ k, M k → M' k) : GrowBut M' w w' :=
  ⟨h.os, h.tape, h.output, h.size, fun k hk hn => h.block k hk (fun hh => hn (hm k hh))⟩

theorem GrowBut.setCell {M : Nat → Prop} {w w' : World} (h : GrowBut M w w') {a : Addr} (ha : M a.block) (v : Value) : GrowBut M w (w'.setCell a v) :=
  ⟨h.os, h.tape, h.output, by simpa [World.setCell] using h.size, fun k hk hn => (Below.heap_setCell _ _ _ _ (fun e => hn (by rw [e]; exact ha))).trans (h.block k hk hn)⟩
theorem GrowBut.drew {M : Nat → Prop} {w w' : World} (h : GrowBut M w w') : GrowBut M w w'.drew := ⟨h.os, h.tape, h.output, h.size, h.block⟩
theorem GrowBut.drewN {M : Nat → Prop} {w w' : World} (h : GrowBut M w w') (n : Nat) : GrowBut M w (w'.drewN n) := ⟨h.os, h.tape, h.output, h.size, h.block⟩
theorem GrowBut.alloc {M : Nat → Prop} {w w' : World} (h : GrowBut M w w') (o : Obj) : GrowBut M w (w'.alloc o) :=
  h.trans (GrowBut.of_below ((Below.refl _ _).alloc (Nat.le_refl _) o))


theorem GrowBut.setCells {M : Nat → Prop} {w w' : World} (h : GrowBut M w w') {b : Nat} (hb : M b) (o : Nat) (vs : List Value) : GrowBut M w (w'.setCells b o vs) := by
  induction vs generalizing w' o with
  | nil => exact h
  | cons v r ih => exact ih (h.setCell hb v) (o + 1)
theorem GrowBut.cell {M : Nat → Prop} {w w' : World} (h : GrowBut M w w') {p : Addr} {v : Value} (hc : w.cell? p = some v) (hm : ¬ M p.block) : w'.cell? p = some v := by
  have hb := h.block p.block (block_lt hc) hm
  rw [← hc]
  unfold World.cell?
  rw [hb]
end Go.Proofs.Ytiphhjipgjpepaa
