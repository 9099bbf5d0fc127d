/- What a slice of bytes, and a slice of such slices, reads as; that it stays so while memory grows. -/
import Derived.Test.YtjocnhifnijlcaaSumMath
import Derived.WalkKit
set_option linter.unusedVariables false
namespace Go.Proofs.Ytjocnhifnijlcaa
open Go.RowKit

theorem block_lt {w : World} {p : Addr} {v : Value} (h : w.cell? p = some v) : p.block < w.heap.size := by
  rcases Nat.lt_or_ge p.block w.heap.size with h' | h'
  · exact h'
  · simp [World.cell?, Array.getElem?_eq_none h'] at h

/-- 'v' is a slice of the bytes 'zs'. -/
def BytesV (w : World) (v : Value) (zs : List Int) : Prop :=
  Bytes zs ∧ ((zs = [] ∧ ∃ ao cap, v = .slice ao 0 cap ∧ cap ≤ maxLen) ∨
    ∃ b off cap, v = .slice (some ⟨b, off, none⟩) zs.length cap ∧ zs.length ≤ cap ∧ cap ≤ maxLen ∧ ∀ i, i < zs.length → w.cell? ⟨b, off + i, none⟩ = some (.int .u8 (zs.getD i 0)))

/-- 'v' is a slice of slices of bytes. -/
def RowsV (w : World) (v : Value) (rows : List (List Int)) : Prop :=
  ((rows = [] ∧ ∃ ao cap, v = .slice ao 0 cap ∧ cap ≤ maxLen) ∨
    ∃ b off cap, v = .slice (some ⟨b, off, none⟩) rows.length cap ∧ rows.length ≤ cap ∧ cap ≤ maxLen ∧ ∀ i, i < rows.length → ∃ x, w.cell? ⟨b, off + i, none⟩ = some x ∧ BytesV w x (rows.getD i []))

theorem BytesV.mono {w w' : World} {v : Value} {zs : List Int} (h : BytesV w v zs) (hb : Below w.heap.size w w') : BytesV w' v zs := by
  refine ⟨h.1, ?_⟩
  rcases h.2 with h | ⟨b, off, cap, h1, h2, h3, h4⟩
  · exact Or.inl h
  · exact Or.inr ⟨b, off, cap, h1, h2, h3, fun i hi => (hb.cell (block_lt (h4 i hi))).trans (h4 i hi)⟩

theorem RowsV.mono {w w' : World} {v : Value} {rows : List (List Int)} (h : RowsV w v rows) (hb : Below w.heap.size w w') : RowsV w' v rows := by
  rcases h with h | ⟨b, off, cap, h1, h2, h3, h4⟩
  · exact Or.inl h
  · refine Or.inr ⟨b, off, cap, h1, h2, h3, fun i hi => ?_⟩
    obtain ⟨x, hx, hr⟩ := h4 i hi
    exact ⟨x, (hb.cell (block_lt hx)).trans hx, hr.mono hb⟩

/-- Memory grows: nothing that was there has turned. -/
def Grow (w w' : World) : Prop := Below w.heap.size w w'
theorem Grow.refl (w : World) : Grow w w := Below.refl _ _
theorem Grow.trans {a b c : World} (h : Grow a b) (k : Grow b c) : Grow a c := Below.trans h (Below.mono k h.size)
theorem Grow.drew {a b : World} (h : Grow a b) : Grow a b.drew := Below.drew h
theorem Grow.alloc {a b : World} (h : Grow a b) (o : Obj) : Grow a (b.alloc o) := Below.alloc h h.size o

end Go.Proofs.Ytjocnhifnijlcaa
