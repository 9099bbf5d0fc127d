/- The document's store: what it is in memory, and the contracts of its methods. -/
import Derived.Test.YtajmfgadbphjbaaStMine
set_option linter.unusedVariables false
namespace Go.Proofs.Ytajmfgadbphjbaa
open Go.RowKit

/-- Where the document's store lies: its header, the row of its bytes, the row of the words whether they can be read not. -/
structure RAt where
  p : Nat
  b : Nat
  u : Nat

def refHead (R : RAt) (n cb cu : Nat) (st : St) : Array Value := #[.slice (some ⟨R.b, 0, none⟩) n cb, .slice (some ⟨R.u, 0, none⟩) n cu, .int .i64 st.fuse, .int .u8 st.tb, .bool st.tu, .bool st.dead]

def bVals (st : St) : List Value := st.cells.map fun c => .int .u8 c.1
def uVals (st : St) : List Value := st.cells.map fun c => .bool c.2

structure RefV (w : World) (R : RAt) (st : St) : Prop where
  head : ∃ cb cu : Nat, (st.cells.length ≤ cb ∧ cb ≤ maxLen ∧ st.cells.length ≤ cu ∧ cu ≤ maxLen) ∧ w.heap[R.p]? = some (.cells (refHead R st.cells.length cb cu st) 47 (0, 0))
  rowB : ∃ x : List Value, w.heap[R.b]? = some (.cells (bVals st ++ x).toArray 5 (0, 0))
  rowU : ∃ x : List Value, w.heap[R.u]? = some (.cells (uVals st ++ x).toArray 4 (0, 0))
  ne1 : R.p ≠ R.b
  ne2 : R.p ≠ R.u
  ne3 : R.b ≠ R.u
  pos : 0 < st.cells.length
  le : st.cells.length ≤ 4096
  fuse : -1 ≤ st.fuse ∧ st.fuse ≤ 9223372036854775807
  byte : ∀ c ∈ st.cells, 0 ≤ c.1 ∧ c.1 < 256
  torn : 0 ≤ st.tb ∧ st.tb < 256

/-- What a call of it may turn. -/
def ROwn (R : RAt) : Nat → Prop := fun k => k = R.p ∨ k = R.b ∨ k = R.u

theorem RefV.stay {w w' : World} {R : RAt} {st : St} {M : Nat → Prop} (h : RefV w R st) (hg : GrowBut M w w') (h1 : ¬ M R.p) (h2 : ¬ M R.b) (h3 : ¬ M R.u) : RefV w' R st :=
  ⟨h.head.elim fun c ⟨d, a, e⟩ => ⟨c, d, a, (hg.block _ (lt_of_block e) h1).trans e⟩, h.rowB.elim fun x e => ⟨x, (hg.block _ (lt_of_block e) h2).trans e⟩,
    h.rowU.elim fun x e => ⟨x, (hg.block _ (lt_of_block e) h3).trans e⟩, h.ne1, h.ne2, h.ne3, h.pos, h.le, h.fuse, h.byte, h.torn⟩

theorem RefV.cellsP {w : World} {R : RAt} {st : St} (h : RefV w R st) :
    ∃ cb cu : Nat, ((st.cells.length ≤ cb ∧ cb ≤ 9223372036854775807) ∧ (st.cells.length ≤ cu ∧ cu ≤ 9223372036854775807)) ∧ w.cell? ⟨R.p, 0, none⟩ = some (.slice (some ⟨R.b, 0, none⟩) st.cells.length cb) ∧ w.cell? ⟨R.p, 1, none⟩ = some (.slice (some ⟨R.u, 0, none⟩) st.cells.length cu) ∧
    w.cell? ⟨R.p, 2, none⟩ = some (.int .i64 st.fuse) ∧ w.cell? ⟨R.p, 3, none⟩ = some (.int .u8 st.tb) ∧
    w.cell? ⟨R.p, 4, none⟩ = some (.bool st.tu) ∧ w.cell? ⟨R.p, 5, none⟩ = some (.bool st.dead) ∧ ∀ i, w.frozen? ⟨R.p, i, none⟩ = false := by
  obtain ⟨cb, cu, ⟨h1, h2, h3, h4⟩, e⟩ := h.head
  refine ⟨cb, cu, ⟨⟨h1, h2⟩, h3, h4⟩, ?_, ?_, ?_, ?_, ?_, ?_, fun i => ?_⟩
  · simp [World.cell?, e, refHead]
  · simp [World.cell?, e, refHead]
  · simp [World.cell?, e, refHead]
  · simp [World.cell?, e, refHead]
  · simp [World.cell?, e, refHead]
  · simp [World.cell?, e, refHead]
  · simp [World.frozen?, e]

theorem RefV.cellsR {w : World} {R : RAt} {st : St} (h : RefV w R st) (i : Nat) (hi : i < st.cells.length) :
    w.cell? ⟨R.b, i, none⟩ = some (.int .u8 (st.cells.getD i (0, false)).1) ∧ w.cell? ⟨R.u, i, none⟩ = some (.bool (st.cells.getD i (0, false)).2) ∧ w.frozen? ⟨R.b, i, none⟩ = false ∧ w.frozen? ⟨R.u, i, none⟩ = false := by
  obtain ⟨x, e⟩ := h.rowB
  obtain ⟨y, e2⟩ := h.rowU
  refine ⟨?_, ?_, ?_, ?_⟩
  · simp only [World.cell?, e, List.getElem?_toArray]
    rw [List.getElem?_append_left (by simpa [bVals] using hi)]; simp [bVals, hi]
  · simp only [World.cell?, e2, List.getElem?_toArray]
    rw [List.getElem?_append_left (by simpa [uVals] using hi)]; simp [uVals, hi]
  · simp [World.frozen?, e]
  · simp [World.frozen?, e2]

theorem RefV.lts {w : World} {R : RAt} {st : St} (h : RefV w R st) : R.p < w.heap.size ∧ R.b < w.heap.size ∧ R.u < w.heap.size :=
  ⟨h.head.elim fun _ ⟨_, _, e⟩ => lt_of_block e, h.rowB.elim fun _ e => lt_of_block e, h.rowU.elim fun _ e => lt_of_block e⟩

/-- A header's cell is written. -/
theorem RefV.putP {w : World} {R : RAt} {st st' : St} (h : RefV w R st) (i : Nat) (v : Value) (hc : st'.cells = st.cells) (hv : ∀ cb cu, (refHead R st.cells.length cb cu st).setIfInBounds i v = refHead R st.cells.length cb cu st') (hf : -1 ≤ st'.fuse ∧ st'.fuse ≤ 9223372036854775807) (ht : 0 ≤ st'.tb ∧ st'.tb < 256) :
    RefV (w.setCell ⟨R.p, i, none⟩ v) R st' := by
  obtain ⟨cb, cu, h1, e⟩ := h.head
  obtain ⟨x, e2⟩ := h.rowB
  obtain ⟨y, e3⟩ := h.rowU
  refine ⟨⟨cb, cu, by rw [hc]; exact h1, ?_⟩, ⟨x, ?_⟩, ⟨y, ?_⟩, h.ne1, h.ne2, h.ne3, by rw [hc]; exact h.pos, by rw [hc]; exact h.le, hf, by rw [hc]; exact h.byte, ht⟩
  · rw [hc, ← hv]
    exact heap_setCell_same w R.p i _ _ v e
  · have hb : bVals st' = bVals st := by unfold bVals; rw [hc]
    rw [hb]
    exact (Below.heap_setCell _ _ _ _ (show R.b ≠ R.p from Ne.symm h.ne1)).trans e2
  · have hb : uVals st' = uVals st := by unfold uVals; rw [hc]
    rw [hb]
    exact (Below.heap_setCell _ _ _ _ (show R.u ≠ R.p from Ne.symm h.ne2)).trans e3

/-- A byte is written, in both rows. -/
theorem RefV.putR {w : World} {R : RAt} {st : St} (h : RefV w R st) (i : Nat) (x : Int) (u : Bool) (hi : i < st.cells.length) (hx : 0 ≤ x ∧ x < 256) :
    RefV ((w.setCell ⟨R.b, i, none⟩ (.int .u8 x)).setCell ⟨R.u, i, none⟩ (.bool u)) R { st with cells := st.cells.set i (x, u) } := by
  obtain ⟨cb, cu, h1, e⟩ := h.head
  obtain ⟨y, e2⟩ := h.rowB
  obtain ⟨z, e3⟩ := h.rowU
  refine ⟨⟨cb, cu, by simpa using h1, ?_⟩, ⟨y, ?_⟩, ⟨z, ?_⟩, h.ne1, h.ne2, h.ne3, by simpa using h.pos, by simpa using h.le, h.fuse, fun c hc => (List.mem_or_eq_of_mem_set hc).elim (h.byte c) (fun e => by rw [e]; exact hx), h.torn⟩
  · rw [Below.heap_setCell _ _ _ _ (show R.p ≠ R.u from h.ne2), Below.heap_setCell _ _ _ _ (show R.p ≠ R.b from h.ne1), e]
    simp [refHead]
  · rw [Below.heap_setCell _ _ _ _ (show R.b ≠ R.u from h.ne3)]
    rw [heap_setCell_same w R.b i _ _ (.int .u8 x) e2]
    congr 2
    simp only [List.setIfInBounds_toArray]
    rw [List.set_append_left _ _ (by simpa [bVals] using hi)]
    simp [bVals, List.map_set]
  · have hh := (Below.heap_setCell w ⟨R.b, i, none⟩ (.int .u8 x) R.u (Ne.symm h.ne3)).trans e3
    rw [heap_setCell_same _ R.u i _ _ (.bool u) hh]
    congr 2
    simp only [List.setIfInBounds_toArray]
    rw [List.set_append_left _ _ (by simpa [uVals] using hi)]
    simp [uVals, List.map_set]

theorem RefV.drew {w : World} {R : RAt} {st : St} (h : RefV w R st) : RefV w.drew R st := ⟨h.head, h.rowB, h.rowU, h.ne1, h.ne2, h.ne3, h.pos, h.le, h.fuse, h.byte, h.torn⟩

/-! ### The small methods -/

/-- Do bytes lie within? -/
def insideOf (st : St) (a n : Int) : Prop := 0 ≤ a ∧ 0 ≤ n ∧ n ≤ st.cells.length ∧ a ≤ (st.cells.length : Int) - n

theorem inside_yes {st : St} {a n : Int} (h : insideOf st a n) : wrongOf st a n = if st.dead then 7 else 0 := by
  unfold insideOf at h
  unfold wrongOf
  rw [if_neg (by omega)]
theorem inside_no {st : St} {a n : Int} (h : ¬ insideOf st a n) : wrongOf st a n = 2 := by
  unfold insideOf at h
  unfold wrongOf
  rw [if_pos (by omega)]

theorem within_yes {w : World} {R : RAt} {st : St} (h : RefV w R st) (a n : Int) (hi : insideOf st a n) :
    Calls Try.prog 39 #[.pointer (some ⟨R.p, 0, none⟩), .int .i64 a, .int .i64 n] w fun e w' => e = .returned (.bool true) ∧ w = w' := by
  obtain ⟨cb, cu, ⟨hcb, hcu⟩, c0, c1, c2, c3, c4, c5, hf⟩ := h.cellsP
  obtain ⟨i1, i2, i3, i4⟩ := hi
  have hl := h.le
  clear hf c1 c2 c3 c4 c5 h
  go_enter Try.func39, Try.ntmps39
  go_wp2
  go_ret
  exact ⟨rfl, rfl⟩

theorem within_no {w : World} {R : RAt} {st : St} (h : RefV w R st) (a n : Int) (hi : ¬ insideOf st a n) (ha : -9223372036854775808 ≤ a ∧ a ≤ 9223372036854775807) (hn : -9223372036854775808 ≤ n ∧ n ≤ 9223372036854775807) :
    Calls Try.prog 39 #[.pointer (some ⟨R.p, 0, none⟩), .int .i64 a, .int .i64 n] w fun e w' => e = .returned (.bool false) ∧ w = w' := by
  obtain ⟨cb, cu, ⟨hcb, hcu⟩, c0, c1, c2, c3, c4, c5, hf⟩ := h.cellsP
  unfold insideOf at hi
  have hl := h.le
  clear hf c1 c2 c3 c4 c5 h
  by_cases h1 : a < 0
  · go_enter Try.func39, Try.ntmps39
    go_wp2
    go_ret
    exact ⟨rfl, rfl⟩
  by_cases h2 : n < 0
  · go_enter Try.func39, Try.ntmps39
    go_wp2
    go_ret
    exact ⟨rfl, rfl⟩
  by_cases h3 : (st.cells.length : Int) < n
  · go_enter Try.func39, Try.ntmps39
    go_wp2
    go_ret
    exact ⟨rfl, rfl⟩
  have h4 : decide (a ≤ (st.cells.length : Int) - n) = false := by simp; omega
  clear hi
  go_enter Try.func39, Try.ntmps39
  go_wp2
  go_ret
  exact ⟨rfl, rfl⟩

theorem rfuse_any {w : World} {R : RAt} {st : St} (h : RefV w R st) (n by' : Int) (u : Bool) (hn : -9223372036854775808 ≤ n ∧ n ≤ 9223372036854775807) (hb : 0 ≤ by' ∧ by' < 256) :
    Calls Try.prog 24 #[.pointer (some ⟨R.p, 0, none⟩), .int .i64 n, .int .u8 by', .bool u] w fun e w' => e = .returned (.tuple #[]) ∧ RefV w' R { st with fuse := max n (-1), tb := by', tu := u } ∧ GrowBut (ROwn R) w w' := by
  obtain ⟨cb, cu, ⟨hcb, hcu⟩, c0, c1, c2, c3, c4, c5, hf⟩ := h.cellsP
  have hf2 := hf 2
  have hf3 := hf 3
  have hf4 := hf 4
  have HS := Lib.hid h
  clear hf c0 c1 c5 h
  go_enter Try.func24, Try.ntmps24
  go_wp2
  all_goals
    go_end0
    refine ⟨rfl, ?_, ?_⟩
    · have hm : -1 ≤ max n (-1) ∧ max n (-1) ≤ 9223372036854775807 := by omega
      have h1 := RefV.putP (st' := { st with fuse := max n (-1) }) HS.out 2 (.int .i64 (max n (-1))) rfl (fun _ _ => rfl) hm HS.out.torn
      have h2 := RefV.putP (st' := { st with fuse := max n (-1), tb := by' }) h1 3 (.int .u8 by') rfl (fun _ _ => rfl) hm hb
      have h3 := RefV.putP (st' := { st with fuse := max n (-1), tb := by', tu := u }) h2 4 (.bool u) rfl (fun _ _ => rfl) hm hb
      first
        | (rw [show max n (-1) = n from by omega] at h3 ⊢; exact h3)
        | (rw [show max n (-1) = -1 from by omega] at h3 ⊢; exact h3)
    · exact (((GrowBut.refl _ w).setCell (Or.inl rfl) _).setCell (Or.inl rfl) _).setCell (Or.inl rfl) _
end Go.Proofs.Ytajmfgadbphjbaa
