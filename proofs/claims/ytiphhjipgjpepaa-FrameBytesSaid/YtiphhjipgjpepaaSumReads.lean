/- What a slice of bytes, and a slice of such slices, reads as; that it stays so while memory grows. -/
import Derived.Test.YtiphhjipgjpepaaSumMath
import Derived.WalkKit
import Derived.Lib.Hide
set_option linter.unusedVariables false
namespace Go.Proofs.Ytiphhjipgjpepaa
open Go.RowKit

theorem block_lt {w : World} {p : Addr} {v : Value} (h : w.cell? p = some v) : p.block < w.heap.size := by
  rcases Nat.lt_or_ge p.block w.heap.size with h' | h'
  · exact h'
  · simp [World.cell?, Array.getElem?_eq_none h'] at h

/-- 'v' is a slice of the numbers 'zs'. -/
def IntsV (k : IntKind) (w : World) (v : Value) (zs : List Int) : Prop :=
  ((zs = [] ∧ ∃ ao cap, v = .slice ao 0 cap ∧ cap ≤ maxLen ∧ (ao = none → cap = 0)) ∨
    ∃ b off cap, v = .slice (some ⟨b, off, none⟩) zs.length cap ∧ zs.length ≤ cap ∧ cap ≤ maxLen ∧ ∀ i, i < zs.length → w.cell? ⟨b, off + i, none⟩ = some (.int k (zs.getD i 0)))

/-- 'v' is a slice of the bytes 'zs'. -/
def BytesV (w : World) (v : Value) (zs : List Int) : Prop := Bytes zs ∧ IntsV .u8 w v zs

/-- 'v' is a slice of slices of bytes. -/
def RowsV (w : World) (v : Value) (rows : List (List Int)) : Prop :=
  ((rows = [] ∧ ∃ ao cap, v = .slice ao 0 cap ∧ cap ≤ maxLen) ∨
    ∃ b off cap, v = .slice (some ⟨b, off, none⟩) rows.length cap ∧ rows.length ≤ cap ∧ cap ≤ maxLen ∧ ∀ i, i < rows.length → ∃ x, w.cell? ⟨b, off + i, none⟩ = some x ∧ BytesV w x (rows.getD i []))

theorem IntsV.mono {k : IntKind} {w w' : World} {v : Value} {zs : List Int} (h : IntsV k w v zs) (hb : Below w.heap.size w w') : IntsV k w' v zs := by
  rcases h with h | ⟨b, off, cap, h1, h2, h3, h4⟩
  · exact Or.inl h
  · exact Or.inr ⟨b, off, cap, h1, h2, h3, fun i hi => (hb.cell (block_lt (h4 i hi))).trans (h4 i hi)⟩

theorem BytesV.mono {w w' : World} {v : Value} {zs : List Int} (h : BytesV w v zs) (hb : Below w.heap.size w w') : BytesV w' v zs := ⟨h.1, h.2.mono hb⟩

theorem RowsV.mono {w w' : World} {v : Value} {rows : List (List Int)} (h : RowsV w v rows) (hb : Below w.heap.size w w') : RowsV w' v rows := by
  rcases h with h | ⟨b, off, cap, h1, h2, h3, h4⟩
  · exact Or.inl h
  · refine Or.inr ⟨b, off, cap, h1, h2, h3, fun i hi => ?_⟩
    obtain ⟨x, hx, hr⟩ := h4 i hi
    exact ⟨x, (hb.cell (block_lt hx)).trans hx, hr.mono hb⟩

theorem IntsV.shape {k : IntKind} {w : World} {v : Value} {zs : List Int} (h : IntsV k w v zs) : ∃ ao cap, v = .slice ao zs.length cap ∧ zs.length ≤ cap ∧ cap ≤ maxLen := by
  rcases h with ⟨rfl, ao, cap, rfl, h9, _⟩ | ⟨b, off, cap, rfl, h1, h2, _⟩
  · exact ⟨ao, cap, rfl, Nat.zero_le _, h9⟩
  · exact ⟨_, cap, rfl, h1, h2⟩
theorem BytesV.shape {w : World} {v : Value} {zs : List Int} (h : BytesV w v zs) : ∃ ao cap, v = .slice ao zs.length cap ∧ zs.length ≤ cap ∧ cap ≤ maxLen := h.2.shape

/-- What the call owns reads as its numbers. -/
theorem ints_of_owns {k : IntKind} {w : World} {base : Nat} {e : TypeId} {v : Value} {n : Nat} {zs : List Int} (h : w.ownsRow base e 1 v n (zs.map (Value.int k))) : IntsV k w v zs := by
  have hlen : n = zs.length := by have := h.1; simp at this; omega
  have hc := fun g hg => h.cells (g := g) hg
  rcases h.2 with ⟨rfl, h0⟩ | ⟨g, cap, cur, rfl, _, _, h1, h2, _, _⟩
  · exact Or.inl ⟨List.length_eq_zero_iff.1 (by omega), none, 0, rfl, Nat.zero_le _, fun _ => rfl⟩
  · subst hlen
    refine Or.inr ⟨g, 0, cap, rfl, h1, h2, fun i hi => ?_⟩
    have := hc g rfl i (.int k (zs.getD i 0)) (by simp [hi])
    rwa [Addr.add_lit] at this

theorem cell_new (w : World) (l : List Value) (T : TypeId) (i : Nat) (v : Value) (h : l[i]? = some v) : (w.alloc (.cells l.toArray T)).cell? ⟨w.heap.size, i, none⟩ = some v := by
  have e := heap_alloc_new w (.cells l.toArray T)
  unfold World.cell?
  rw [e]
  simpa using h

/-- A new slice of slices of bytes. -/
theorem rows_new {w : World} (l : List Value) (rows : List (List Int)) (T : TypeId) (hlen : l.length = rows.length) (hm : l.length ≤ maxLen) (h : ∀ i (v : Value), l[i]? = some v → BytesV w v (rows.getD i [])) :
    RowsV (w.alloc (.cells l.toArray T)) (.slice (some ⟨w.heap.size, 0, none⟩) l.length l.length) rows := by
  refine Or.inr ⟨w.heap.size, 0, l.length, by rw [hlen], by omega, hm, fun i hi => ?_⟩
  have hi' : i < l.length := by omega
  refine ⟨l[i], ?_, (h i l[i] (by simp [hi'])).mono ((Below.refl _ _).alloc (Nat.le_refl _) _)⟩
  rw [Nat.zero_add]
  exact cell_new w l T i _ (by simp [hi'])

/-- A new slice of bytes. -/
theorem bytes_new {w : World} (l : List Value) (zs : List Int) (T : TypeId) (hl : l = zs.map (Value.int .u8)) (hb : Bytes zs) (hm : zs.length ≤ maxLen) :
    BytesV (w.alloc (.cells l.toArray T)) (.slice (some ⟨w.heap.size, 0, none⟩) zs.length zs.length) zs := by
  refine ⟨hb, Or.inr ⟨w.heap.size, 0, zs.length, rfl, Nat.le_refl _, hm, fun i hi => ?_⟩⟩
  rw [Nat.zero_add]
  refine cell_new w l T i _ ?_
  subst hl
  simp [hi]

/-- A part of a slice of bytes. -/
theorem bytes_sub {w : World} {b off cap : Nat} {n : Nat} {zs : List Int} (h : BytesV w (.slice (some ⟨b, off, none⟩) n cap) zs) (lo hi : Nat) (h1 : lo ≤ hi) (h2 : hi ≤ zs.length) :
    BytesV w (.slice (some ⟨b, off + lo, none⟩) (hi - lo) (cap - lo)) ((zs.drop lo).take (hi - lo)) := by
  obtain ⟨hb, h⟩ := h
  have hl : ((zs.drop lo).take (hi - lo)).length = hi - lo := by simp; omega
  refine ⟨(hb.drop lo).take _, ?_⟩
  rcases h with ⟨rfl, ao, c, e, hc, _⟩ | ⟨b', off', c, e, hlc, hc, hcell⟩
  · simp at h2
    subst h2
    injection e with e1 e2 e3
    subst e3
    refine Or.inl ⟨by simp, some ⟨b, off + lo, none⟩, cap - lo, by simp, by omega, fun hh => by cases hh⟩
  · injection e with e1 e2 e3
    injection e1 with e1
    injection e1 with e4 e5
    subst e3; subst e4; subst e5
    refine Or.inr ⟨b, off + lo, cap - lo, by rw [hl], by omega, by omega, fun i hi' => ?_⟩
    rw [hl] at hi'
    have := hcell (lo + i) (by omega)
    rw [Nat.add_assoc, this]
    congr 2
    simp [List.getD_eq_getElem?_getD, List.getElem?_take, List.getElem?_drop]
    rw [if_pos (by omega)]

/-- Memory grows: nothing that was there has turned. -/
def Grow (w w' : World) : Prop := Below w.heap.size w w'
theorem Grow.refl (w : World) : Grow w w := Below.refl _ _
theorem Grow.trans {a b c : World} (h : Grow a b) (k : Grow b c) : Grow a c := Below.trans h (Below.mono k h.size)
theorem Grow.drew {a b : World} (h : Grow a b) : Grow a b.drew := Below.drew h
theorem Grow.alloc {a b : World} (h : Grow a b) (o : Obj) : Grow a (b.alloc o) := Below.alloc h h.size o

end Go.Proofs.Ytiphhjipgjpepaa
