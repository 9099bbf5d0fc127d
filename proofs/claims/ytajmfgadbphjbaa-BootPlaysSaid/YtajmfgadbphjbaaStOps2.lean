/- The contracts of a store's methods that write its header or one byte. -/
import Derived.Test.YtajmfgadbphjbaaStOps
import Derived.ChangeAlike
set_option linter.unusedVariables false
namespace Go.Proofs.Ytajmfgadbphjbaa
open Go.RowKit

/-- A header's cell is written. -/
theorem StoreV.putP {w : World} {P g : Nat} {st st' : St} (h : StoreV w P g st) (i : Nat) (v : Value) (hc : st'.cells = st.cells) (hv : ∀ c, (headVals g st.cells.length c st).setIfInBounds i v = headVals g st.cells.length c st') (hf : -1 ≤ st'.fuse ∧ st'.fuse ≤ 9223372036854775807) (ht : 0 ≤ st'.tb ∧ st'.tb < 256) :
    StoreV (w.setCell ⟨P, i, none⟩ v) P g st' := by
  obtain ⟨c, h1, h2, e⟩ := h.head
  obtain ⟨x, e2⟩ := h.body
  refine ⟨⟨c, by rw [hc]; exact h1, h2, ?_⟩, ⟨x, ?_⟩, h.ne, by rw [hc]; exact h.pos, by rw [hc]; exact h.le, hf, by rw [hc]; exact h.byte, ht⟩
  · rw [hc, ← hv]
    exact heap_setCell_same w P i _ _ v e
  · rw [hc]
    exact (Below.heap_setCell _ _ _ _ (show g ≠ P from Ne.symm h.ne)).trans e2

/-- A byte is written. -/
theorem StoreV.putG {w : World} {P g : Nat} {st : St} (h : StoreV w P g st) (i : Nat) (x : Int) (u : Bool) (hi : i < st.cells.length) (hx : 0 ≤ x ∧ x < 256) :
    StoreV ((w.setCell ⟨g, i * 2, none⟩ (.int .u8 x)).setCell ⟨g, i * 2 + 1, none⟩ (.bool u)) P g { st with cells := st.cells.set i (x, u) } := by
  obtain ⟨c, h1, h2, e⟩ := h.head
  obtain ⟨y, e2⟩ := h.body
  refine ⟨⟨c, by simpa using h1, h2, ?_⟩, ⟨y, ?_⟩, h.ne, by simpa using h.pos, by simpa using h.le, h.fuse, fun c hc => (List.mem_or_eq_of_mem_set hc).elim (h.byte c) (fun e => by rw [e]; exact hx), h.torn⟩
  · rw [Below.heap_setCell _ _ _ _ (show P ≠ g from h.ne), Below.heap_setCell _ _ _ _ (show P ≠ g from h.ne), e]
    simp [headVals]
  · have h1 := heap_setCell_same w g (i * 2) _ _ (.int .u8 x) e2
    have h2 := heap_setCell_same _ g (i * 2 + 1) _ _ (.bool u) h1
    rw [h2]
    have hl := cellVals_length st.cells
    congr 2
    simp only [List.setIfInBounds_toArray]
    rw [List.set_append_left _ _ (by omega), List.set_append_left _ _ (by simp; omega)]
    rw [Nat.mul_comm i 2, cellVals_set]

theorem dead_any {w : World} {P g : Nat} {st : St} (h : StoreV w P g st) :
    Calls Try.prog 26 #[.pointer (some ⟨P, 0, none⟩)] w fun e w' => e = .returned (.bool st.dead) ∧ w = w' := by
  have HL := Lib.hid (len_any h)
  obtain ⟨hc, ⟨hc1, hc2⟩, c0, c1, c2, c3, c4, hf⟩ := h.cellsP
  have hl := h.le
  have hp := h.pos
  clear hf c0 c1 c2 c3 h
  go_enter Try.func26, Try.ntmps26
  go_wp2_with (go_at_call 33; refine HL.out.mono ?_; rintro e w' ⟨rfl, rfl⟩)
  go_ret
  exact ⟨rfl, rfl⟩

theorem raise_any {w : World} {P g : Nat} {st : St} (h : StoreV w P g st) :
    Calls Try.prog 27 #[.pointer (some ⟨P, 0, none⟩)] w fun e w' => e = .returned (.tuple #[]) ∧ StoreV w' P g { st with dead := false, fuse := -1 } ∧ GrowBut (Own P g) w w' := by
  have HL := Lib.hid (len_any h)
  obtain ⟨hc, ⟨hc1, hc2⟩, c0, c1, c2, c3, c4, hf⟩ := h.cellsP
  have hf1 := hf 1
  have hf4 := hf 4
  have hl := h.le
  have hp := h.pos
  have HS := Lib.hid h
  clear hf c0 c2 c3 h
  go_enter Try.func27, Try.ntmps27
  go_wp2_with (go_at_call 33; refine HL.out.mono ?_; rintro e w' ⟨rfl, rfl⟩)
  go_end0
  refine ⟨rfl, ?_, ?_⟩
  · exact StoreV.putP (st := { st with dead := false }) (StoreV.putP HS.out 4 (.bool false) rfl (fun _ => rfl) HS.out.fuse HS.out.torn) 1 (.int .i64 (-1)) rfl (fun _ => rfl) ⟨Int.le_refl _, by show (-1 : Int) ≤ _; omega⟩ HS.out.torn
  · exact ((GrowBut.refl _ w).setCell (Or.inl rfl) _).setCell (Or.inl rfl) _

theorem fuse_any {w : World} {P g : Nat} {st : St} (h : StoreV w P g st) (n by' : Int) (u : Bool) (hn : -9223372036854775808 ≤ n ∧ n ≤ 9223372036854775807) (hb : 0 ≤ by' ∧ by' < 256) :
    Calls Try.prog 23 #[.pointer (some ⟨P, 0, none⟩), .int .i64 n, .int .u8 by', .bool u] w fun e w' => e = .returned (.tuple #[]) ∧ StoreV w' P g { st with fuse := max n (-1), tb := by', tu := u } ∧ GrowBut (Own P g) w w' := by
  have HL := Lib.hid (len_any h)
  obtain ⟨hc, ⟨hc1, hc2⟩, c0, c1, c2, c3, c4, hf⟩ := h.cellsP
  have hf1 := hf 1
  have hf2 := hf 2
  have hf3 := hf 3
  have hl := h.le
  have hp := h.pos
  have HS := Lib.hid h
  clear hf c0 c4 h
  go_enter Try.func23, Try.ntmps23
  go_wp2_with (go_at_call 33; refine HL.out.mono ?_; rintro e w' ⟨rfl, rfl⟩)
  all_goals
    go_end0
    refine ⟨rfl, ?_, ?_⟩
    · have hm : -1 ≤ max n (-1) ∧ max n (-1) ≤ 9223372036854775807 := by omega
      have h1 := StoreV.putP (st' := { st with fuse := max n (-1) }) HS.out 1 (.int .i64 (max n (-1))) rfl (fun _ => rfl) hm HS.out.torn
      have h2 := StoreV.putP (st' := { st with fuse := max n (-1), tb := by' }) h1 2 (.int .u8 by') rfl (fun _ => rfl) hm hb
      have h3 := StoreV.putP (st' := { st with fuse := max n (-1), tb := by', tu := u }) h2 3 (.bool u) rfl (fun _ => rfl) hm hb
      first
        | (rw [show max n (-1) = n from by omega] at h3 ⊢; exact h3)
        | (rw [show max n (-1) = -1 from by omega] at h3 ⊢; exact h3)
    · exact (((GrowBut.refl _ w).setCell (Or.inl rfl) _).setCell (Or.inl rfl) _).setCell (Or.inl rfl) _

theorem spoil_any {w : World} {P g : Nat} {st : St} (h : StoreV w P g st) (k : Nat) (x : Int) (u : Bool) (hk : k < st.cells.length) (hx : 0 ≤ x ∧ x < 256) :
    Calls Try.prog 19 #[.pointer (some ⟨P, 0, none⟩), .int .i64 k, .int .u8 x, .bool u] w fun e w' => e = .returned (.int .i64 0) ∧ StoreV w' P g { st with cells := st.cells.set k (x, u) } ∧ GrowBut (Own P g) w w' := by
  have HL := Lib.hid (len_any h)
  obtain ⟨hc, ⟨hc1, hc2⟩, c0, c1, c2, c3, c4, hf⟩ := h.cellsP
  obtain ⟨g0, g1, gf0, gf1⟩ := h.cellsG k hk
  have hl := h.le
  have hp := h.pos
  have hz : ((st.cells.length : Int) == 0) = false := by simp; intro hh; rw [hh] at hp; simp at hp
  have HS := Lib.hid h
  clear hf c1 c2 c3 c4 h
  go_enter Try.func19, Try.ntmps19
  go_wp2_with (go_at_call 33; refine HL.out.mono ?_; rintro e w' ⟨rfl, rfl⟩)
  go_ret
  refine ⟨rfl, HS.out.putG k x u hk hx, ((GrowBut.refl _ w).setCell (Or.inr rfl) _).setCell (Or.inr rfl) _⟩

theorem spoil_bad {w : World} {P g : Nat} {st : St} (h : StoreV w P g st) (a x : Int) (u : Bool) (ha : a < 0 ∨ (st.cells.length : Int) ≤ a) :
    Calls Try.prog 19 #[.pointer (some ⟨P, 0, none⟩), .int .i64 a, .int .u8 x, .bool u] w fun e w' => e = .returned (.int .i64 2) ∧ w = w' := by
  have HL := Lib.hid (len_any h)
  obtain ⟨hc, ⟨hc1, hc2⟩, c0, c1, c2, c3, c4, hf⟩ := h.cellsP
  have hl := h.le
  have hp := h.pos
  have hz : ((st.cells.length : Int) == 0) = false := by simp; intro hh; rw [hh] at hp; simp at hp
  clear hf c1 c2 c3 c4 h
  by_cases h1 : a < 0
  · go_enter Try.func19, Try.ntmps19
    go_wp2_with (go_at_call 33; refine HL.out.mono ?_; rintro e w' ⟨rfl, rfl⟩)
    go_ret
    exact ⟨rfl, rfl⟩
  · have h2 : (st.cells.length : Int) ≤ a := by omega
    clear ha
    go_enter Try.func19, Try.ntmps19
    go_wp2_with (go_at_call 33; refine HL.out.mono ?_; rintro e w' ⟨rfl, rfl⟩)
    go_ret
    exact ⟨rfl, rfl⟩
end Go.Proofs.Ytajmfgadbphjbaa
