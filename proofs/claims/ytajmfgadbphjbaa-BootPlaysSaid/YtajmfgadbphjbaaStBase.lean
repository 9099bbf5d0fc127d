/- A store: what it is, in plain words and in memory. -/
import Derived.Test.YtajmfgadbphjbaaSumReads
import Derived.Test.YtajmfgadbphjbaaGrow
set_option linter.unusedVariables false
namespace Go.Proofs.Ytajmfgadbphjbaa
open Go.RowKit

/-- A store in plain words: its bytes, each with the word whether it can be read not; the fuse; what is torn to; whether the power is gone. -/
structure St where
  cells : List (Int × Bool)
  fuse : Int
  tb : Int
  tu : Bool
  dead : Bool

def cellVals (cs : List (Int × Bool)) : List Value := cs.flatMap fun c => [.int .u8 c.1, .bool c.2]

theorem cellVals_length (cs : List (Int × Bool)) : (cellVals cs).length = 2 * cs.length := by
  induction cs with
  | nil => rfl
  | cons c r ih => simp [cellVals] at ih ⊢; omega

theorem cellVals_get (cs : List (Int × Bool)) (i : Nat) (h : i < cs.length) : (cellVals cs)[2 * i]? = some (.int .u8 (cs.getD i (0, false)).1) ∧ (cellVals cs)[2 * i + 1]? = some (.bool (cs.getD i (0, false)).2) := by
  induction cs generalizing i with
  | nil => simp at h
  | cons c r ih =>
    cases i with
    | zero => simp [cellVals]
    | succ i =>
      have := ih i (by simpa using h)
      have e1 : 2 * (i + 1) = 2 * i + 1 + 1 := by omega
      have e2 : 2 * (i + 1) + 1 = 2 * i + 1 + 1 + 1 := by omega
      have hc : cellVals (c :: r) = .int .u8 c.1 :: .bool c.2 :: cellVals r := by simp [cellVals]
      rw [hc, e1]
      simpa using this

theorem cellVals_set (cs : List (Int × Bool)) (i : Nat) (x : Int) (u : Bool) : ((cellVals cs).set (2 * i) (.int .u8 x)).set (2 * i + 1) (.bool u) = cellVals (cs.set i (x, u)) := by
  induction cs generalizing i with
  | nil => simp [cellVals]
  | cons c r ih =>
    have hc : cellVals (c :: r) = .int .u8 c.1 :: .bool c.2 :: cellVals r := by simp [cellVals]
    cases i with
    | zero => simp [cellVals]
    | succ i =>
      have e1 : 2 * (i + 1) = 2 * i + 1 + 1 := by omega
      have e2 : 2 * (i + 1) + 1 = 2 * i + 1 + 1 + 1 := by omega
      rw [hc, e1]
      simp only [List.set_cons_succ]
      have hc2 : cellVals (c :: r.set i (x, u)) = .int .u8 c.1 :: .bool c.2 :: cellVals (r.set i (x, u)) := by simp [cellVals]
      rw [hc2, ih]

/-- The block of a store's header. -/
def headVals (g n c : Nat) (st : St) : Array Value := #[.slice (some ⟨g, 0, none⟩) n c, .int .i64 st.fuse, .int .u8 st.tb, .bool st.tu, .bool st.dead]

/-- A store lies in memory: its header in block P, its bytes in block g. -/
structure StoreV (w : World) (P g : Nat) (st : St) : Prop where
  head : ∃ c : Nat, st.cells.length ≤ c ∧ c ≤ maxLen ∧ w.heap[P]? = some (.cells (headVals g st.cells.length c st) 62 (0, 0))
  body : ∃ x : List Value, w.heap[g]? = some (.cells (cellVals st.cells ++ x).toArray 60 (0, 0))
  ne : P ≠ g
  pos : 0 < st.cells.length
  le : st.cells.length ≤ 4096
  fuse : -1 ≤ st.fuse ∧ st.fuse ≤ 9223372036854775807
  byte : ∀ c ∈ st.cells, 0 ≤ c.1 ∧ c.1 < 256
  torn : 0 ≤ st.tb ∧ st.tb < 256

theorem StoreV.byteAt {w : World} {P g : Nat} {st : St} (h : StoreV w P g st) (i : Nat) : 0 ≤ (st.cells.getD i (0, false)).1 ∧ (st.cells.getD i (0, false)).1 < 256 := by
  by_cases hi : i < st.cells.length
  · have e : st.cells.getD i (0, false) = st.cells[i] := by simp [hi]
    rw [e]; exact h.byte _ (List.getElem_mem hi)
  · have e : st.cells.getD i (0, false) = (0, false) := by simp [Nat.le_of_not_lt hi]
    rw [e]; decide

/-- What a store's own call may turn. -/
def Own (P g : Nat) : Nat → Prop := fun k => k = P ∨ k = g

theorem StoreV.stay {w w' : World} {P g : Nat} {st : St} {M : Nat → Prop} (h : StoreV w P g st) (hg : GrowBut M w w') (h1 : ¬ M P) (h2 : ¬ M g) : StoreV w' P g st :=
  ⟨h.head.elim fun c ⟨a, b, e⟩ => ⟨c, a, b, (hg.block P (lt_of_block e) h1).trans e⟩, h.body.elim fun x e => ⟨x, (hg.block g (lt_of_block e) h2).trans e⟩, h.ne, h.pos, h.le, h.fuse, h.byte, h.torn⟩

/-- The header's cells. -/
theorem StoreV.cellsP {w : World} {P g : Nat} {st : St} (h : StoreV w P g st) :
    ∃ c : Nat, (st.cells.length ≤ c ∧ c ≤ 9223372036854775807) ∧ w.cell? ⟨P, 0, none⟩ = some (.slice (some ⟨g, 0, none⟩) st.cells.length c) ∧ w.cell? ⟨P, 1, none⟩ = some (.int .i64 st.fuse) ∧ w.cell? ⟨P, 2, none⟩ = some (.int .u8 st.tb) ∧
    w.cell? ⟨P, 3, none⟩ = some (.bool st.tu) ∧ w.cell? ⟨P, 4, none⟩ = some (.bool st.dead) ∧ ∀ i, w.frozen? ⟨P, i, none⟩ = false := by
  obtain ⟨c, h1, h2, e⟩ := h.head
  refine ⟨c, ⟨h1, h2⟩, ?_, ?_, ?_, ?_, ?_, fun i => ?_⟩
  · simp [World.cell?, e, headVals]
  · simp [World.cell?, e, headVals]
  · simp [World.cell?, e, headVals]
  · simp [World.cell?, e, headVals]
  · simp [World.cell?, e, headVals]
  · simp [World.frozen?, e]

/-- A byte's cells. -/
theorem StoreV.cellsG {w : World} {P g : Nat} {st : St} (h : StoreV w P g st) (i : Nat) (hi : i < st.cells.length) :
    w.cell? ⟨g, i * 2, none⟩ = some (.int .u8 (st.cells.getD i (0, false)).1) ∧ w.cell? ⟨g, i * 2 + 1, none⟩ = some (.bool (st.cells.getD i (0, false)).2) ∧ w.frozen? ⟨g, i * 2, none⟩ = false ∧ w.frozen? ⟨g, i * 2 + 1, none⟩ = false := by
  obtain ⟨x, e⟩ := h.body
  obtain ⟨h1, h2⟩ := cellVals_get st.cells i hi
  rw [Nat.mul_comm] at h1 h2
  have hl := cellVals_length st.cells
  refine ⟨?_, ?_, ?_, ?_⟩
  · simp only [World.cell?, e]
    simp only [List.getElem?_toArray]
    rw [List.getElem?_append_left (by omega)]; simpa using h1
  · simp only [World.cell?, e]
    simp only [List.getElem?_toArray]
    rw [List.getElem?_append_left (by omega)]; simpa using h2
  · simp [World.frozen?, e]
  · simp [World.frozen?, e]
theorem StoreV.ltP {w : World} {P g : Nat} {st : St} (h : StoreV w P g st) : P < w.heap.size := h.head.elim fun _ ⟨_, _, e⟩ => lt_of_block e
theorem StoreV.ltG {w : World} {P g : Nat} {st : St} (h : StoreV w P g st) : g < w.heap.size := h.body.elim fun _ e => lt_of_block e
end Go.Proofs.Ytajmfgadbphjbaa
