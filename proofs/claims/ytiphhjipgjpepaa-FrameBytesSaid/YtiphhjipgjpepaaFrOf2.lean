/- frame.Of. -/
import Derived.Test.YtiphhjipgjpepaaFrGet
import Derived.Test.YtiphhjipgjpepaaDrawnUse
import Derived.Outline
set_option linter.unusedVariables false
set_option linter.unusedSimpArgs false
namespace Go.Proofs.Ytiphhjipgjpepaa
open Go.RowKit

def num8 (zs : List Int) (a : Nat) : Int := beN ((zs.drop a).take 8)
/-- The frame of bytes. -/
def ofF (zs : List Int) (v : Value) : Fr := ⟨zs.getD 0 0, zs.getD 1 0, num8 zs 2, num8 zs 10, num8 zs 18, num8 zs 26, num8 zs 34, num8 zs 42, v, zs.drop 54⟩
def okF (zs : List Int) : Prop := 54 ≤ zs.length ∧ mayF (ofF zs (.slice none 0 0)) = true ∧ frB (ofF zs (.slice none 0 0)) = zs
instance (zs : List Int) : Decidable (okF zs) := by unfold okF; infer_instance
def zeroCells : Array Value := #[.int .i64 0, .int .i64 0, .int .u64 0, .int .u64 0, .int .u64 0, .int .u64 0, .int .u64 0, .int .u64 0, .slice none 0 0]
def SomeOf (zs : List Int) (w : World) (e : Ending) (w' : World) : Prop :=
  (okF zs ∧ ∃ u, e = .returned (.tuple #[(ofF zs u).val, .int .i64 0]) ∧ NewBytes w (zs.drop 54) u w') ∨ (¬ okF zs ∧ e = .returned (.tuple #[.agg zeroCells, .int .i64 4]) ∧ Grow w w')

theorem blkFz {w : World} {B : Nat} {T : TypeId} {a b c d e f g h i : Value} (hh : w.heap[B]? = some (.cells #[a, b, c, d, e, f, g, h, i] T (0, 0))) :
    (w.frozen? ⟨B, 0, none⟩ = false ∧ w.frozen? ⟨B, 1, none⟩ = false ∧ w.frozen? ⟨B, 2, none⟩ = false ∧ w.frozen? ⟨B, 3, none⟩ = false ∧ w.frozen? ⟨B, 4, none⟩ = false) ∧ w.frozen? ⟨B, 5, none⟩ = false ∧ w.frozen? ⟨B, 6, none⟩ = false ∧ w.frozen? ⟨B, 7, none⟩ = false ∧ w.frozen? ⟨B, 8, none⟩ = false := by
  refine ⟨⟨?_, ?_, ?_, ?_, ?_⟩, ?_, ?_, ?_, ?_⟩ <;> simp [World.frozen?, hh]
theorem put9 {w : World} {B : Nat} {T : TypeId} {y0 y1 y2 y3 y4 y5 y6 y7 y8 : Value} (h : w.heap[B]? = some (.cells #[y0, y1, y2, y3, y4, y5, y6, y7, y8] T (0, 0))) (x0 x1 x2 x3 x4 x5 x6 x7 x8 : Value) : (((((((((w.setCell ⟨B, 0, none⟩ x0).setCell ⟨B, 1, none⟩ x1).setCell ⟨B, 2, none⟩ x2).setCell ⟨B, 3, none⟩ x3).setCell ⟨B, 4, none⟩ x4).setCell ⟨B, 5, none⟩ x5).setCell ⟨B, 6, none⟩ x6).setCell ⟨B, 7, none⟩ x7).setCell ⟨B, 8, none⟩ x8).heap[B]? = some (.cells #[x0, x1, x2, x3, x4, x5, x6, x7, x8] T (0, 0)) := by
  have h0 : (w.setCell ⟨B, 0, none⟩ x0).heap[B]? = some (.cells #[x0, y1, y2, y3, y4, y5, y6, y7, y8] T (0, 0)) := heap_setCell_same _ B 0 _ _ x0 h
  have h1 : ((w.setCell ⟨B, 0, none⟩ x0).setCell ⟨B, 1, none⟩ x1).heap[B]? = some (.cells #[x0, x1, y2, y3, y4, y5, y6, y7, y8] T (0, 0)) := heap_setCell_same _ B 1 _ _ x1 h0
  have h2 : (((w.setCell ⟨B, 0, none⟩ x0).setCell ⟨B, 1, none⟩ x1).setCell ⟨B, 2, none⟩ x2).heap[B]? = some (.cells #[x0, x1, x2, y3, y4, y5, y6, y7, y8] T (0, 0)) := heap_setCell_same _ B 2 _ _ x2 h1
  have h3 : ((((w.setCell ⟨B, 0, none⟩ x0).setCell ⟨B, 1, none⟩ x1).setCell ⟨B, 2, none⟩ x2).setCell ⟨B, 3, none⟩ x3).heap[B]? = some (.cells #[x0, x1, x2, x3, y4, y5, y6, y7, y8] T (0, 0)) := heap_setCell_same _ B 3 _ _ x3 h2
  have h4 : (((((w.setCell ⟨B, 0, none⟩ x0).setCell ⟨B, 1, none⟩ x1).setCell ⟨B, 2, none⟩ x2).setCell ⟨B, 3, none⟩ x3).setCell ⟨B, 4, none⟩ x4).heap[B]? = some (.cells #[x0, x1, x2, x3, x4, y5, y6, y7, y8] T (0, 0)) := heap_setCell_same _ B 4 _ _ x4 h3
  have h5 : ((((((w.setCell ⟨B, 0, none⟩ x0).setCell ⟨B, 1, none⟩ x1).setCell ⟨B, 2, none⟩ x2).setCell ⟨B, 3, none⟩ x3).setCell ⟨B, 4, none⟩ x4).setCell ⟨B, 5, none⟩ x5).heap[B]? = some (.cells #[x0, x1, x2, x3, x4, x5, y6, y7, y8] T (0, 0)) := heap_setCell_same _ B 5 _ _ x5 h4
  have h6 : (((((((w.setCell ⟨B, 0, none⟩ x0).setCell ⟨B, 1, none⟩ x1).setCell ⟨B, 2, none⟩ x2).setCell ⟨B, 3, none⟩ x3).setCell ⟨B, 4, none⟩ x4).setCell ⟨B, 5, none⟩ x5).setCell ⟨B, 6, none⟩ x6).heap[B]? = some (.cells #[x0, x1, x2, x3, x4, x5, x6, y7, y8] T (0, 0)) := heap_setCell_same _ B 6 _ _ x6 h5
  have h7 : ((((((((w.setCell ⟨B, 0, none⟩ x0).setCell ⟨B, 1, none⟩ x1).setCell ⟨B, 2, none⟩ x2).setCell ⟨B, 3, none⟩ x3).setCell ⟨B, 4, none⟩ x4).setCell ⟨B, 5, none⟩ x5).setCell ⟨B, 6, none⟩ x6).setCell ⟨B, 7, none⟩ x7).heap[B]? = some (.cells #[x0, x1, x2, x3, x4, x5, x6, x7, y8] T (0, 0)) := heap_setCell_same _ B 7 _ _ x7 h6
  have h8 : (((((((((w.setCell ⟨B, 0, none⟩ x0).setCell ⟨B, 1, none⟩ x1).setCell ⟨B, 2, none⟩ x2).setCell ⟨B, 3, none⟩ x3).setCell ⟨B, 4, none⟩ x4).setCell ⟨B, 5, none⟩ x5).setCell ⟨B, 6, none⟩ x6).setCell ⟨B, 7, none⟩ x7).setCell ⟨B, 8, none⟩ x8).heap[B]? = some (.cells #[x0, x1, x2, x3, x4, x5, x6, x7, x8] T (0, 0)) := heap_setCell_same _ B 8 _ _ x8 h7
  exact h8
theorem far9 {w : World} {B k : Nat} (h : k ≠ B) (x0 x1 x2 x3 x4 x5 x6 x7 x8 : Value) : (((((((((w.setCell ⟨B, 0, none⟩ x0).setCell ⟨B, 1, none⟩ x1).setCell ⟨B, 2, none⟩ x2).setCell ⟨B, 3, none⟩ x3).setCell ⟨B, 4, none⟩ x4).setCell ⟨B, 5, none⟩ x5).setCell ⟨B, 6, none⟩ x6).setCell ⟨B, 7, none⟩ x7).setCell ⟨B, 8, none⟩ x8).heap[k]? = w.heap[k]? := by
  rw [Below.heap_setCell _ _ _ _ (show k ≠ B from h), Below.heap_setCell _ _ _ _ (show k ≠ B from h), Below.heap_setCell _ _ _ _ (show k ≠ B from h), Below.heap_setCell _ _ _ _ (show k ≠ B from h), Below.heap_setCell _ _ _ _ (show k ≠ B from h), Below.heap_setCell _ _ _ _ (show k ≠ B from h), Below.heap_setCell _ _ _ _ (show k ≠ B from h), Below.heap_setCell _ _ _ _ (show k ≠ B from h), Below.heap_setCell _ _ _ _ (show k ≠ B from h)]
theorem grow9 {w0 w : World} {B : Nat} (h : Grow w0 w) (hB : w0.heap.size ≤ B) (x0 x1 x2 x3 x4 x5 x6 x7 x8 : Value) : Grow w0 (((((((((w.setCell ⟨B, 0, none⟩ x0).setCell ⟨B, 1, none⟩ x1).setCell ⟨B, 2, none⟩ x2).setCell ⟨B, 3, none⟩ x3).setCell ⟨B, 4, none⟩ x4).setCell ⟨B, 5, none⟩ x5).setCell ⟨B, 6, none⟩ x6).setCell ⟨B, 7, none⟩ x7).setCell ⟨B, 8, none⟩ x8) :=
  (Below.setCell (Below.setCell (Below.setCell (Below.setCell (Below.setCell (Below.setCell (Below.setCell (Below.setCell (Below.setCell h hB _) hB _) hB _) hB _) hB _) hB _) hB _) hB _) hB _)

/-- A pointer to a new frame of noughts. -/
def NewFr (b0 : Nat) (u : Value) (x : World) : Prop := ∃ B, u = .pointer (some ⟨B, 0, none⟩) ∧ x.heap[B]? = some (.cells #[.int .i64 0, .int .i64 0, .int .u64 0, .int .u64 0, .int .u64 0, .int .u64 0, .int .u64 0, .int .u64 0, .slice none 0 0] 28 (0, 0)) ∧ b0 ≤ B
def OwnB (base : Nat) (zs : List Int) (u : Value) (x : World) : Prop := x.ownsRow base 5 1 u zs.length (zs.map (Value.int .u8))
def BuiltF (base : Nat) (cs : Value → Value) (zs : List Int) (u : Value) (x : World) : Prop := ∃ v', u = cs v' ∧ OwnB base zs v' x

set_option maxHeartbeats 1000000 in
theorem of_short (v : Value) (zs : List Int) (w : World) (hv : BytesV w v zs) (hl : zs.length < 54) : Calls Try.prog 14 #[v] w (SomeOf zs w) := by
  obtain ⟨ao, cap, rfl, h1, h2⟩ := hv.shape
  have HS : Hid (∀ w', Grow w w' → SomeOf zs w (.returned (.tuple #[.agg zeroCells, .int .i64 4])) w') := fun w' h => Or.inr ⟨fun hh => by have := hh.1; omega, rfl, h⟩
  have HZ : Hid (zeroCells = #[.int .i64 0, .int .i64 0, .int .u64 0, .int .u64 0, .int .u64 0, .int .u64 0, .int .u64 0, .int .u64 0, .slice none 0 0]) := rfl
  have hl' : (zs.length : Int) < 54 := by omega
  clear hv hl
  unfold maxLen at h2
  generalize zs.length = m at *
  go_enter Try.func14, Try.ntmps14
  go_wp2_with fail
  refine bodyPost_ret (v := .tuple #[.agg zeroCells, .int .i64 4]) (by rw [HZ.out]; simp [results, Try.results14, go_sem]) rfl (HS.out _ ?_)
  exact ((Grow.refl w).alloc _).alloc _
end Go.Proofs.Ytiphhjipgjpepaa
