/- A store's Copy and Same. -/
import Derived.Test.YtajmfgadbphjbaaStSplice
import Derived.Laws.StructEq
import Derived.Laws.NewBlocks
set_option linter.unusedVariables false
namespace Go.Proofs.Ytajmfgadbphjbaa
open Go.RowKit

theorem cells_one (cs : List (Int × Bool)) : ∀ u ∈ cellVals cs, u.oneCell' = true := by
  intro u hu
  simp only [cellVals, List.mem_flatMap] at hu
  obtain ⟨c, _, hc⟩ := hu
  simp at hc
  rcases hc with rfl | rfl <;> rfl

/-- What owns cells lies in a block of its own. -/
theorem block_of_owns {w : World} {base n size : Nat} {T : TypeId} {v : Value} {xs : List Value} (h : w.ownsRow base T size v n xs) (hn : 0 < n) :
    ∃ g cap : Nat, ∃ x : List Value, v = .slice (some ⟨g, 0, none⟩) n cap ∧ n ≤ cap ∧ cap ≤ maxLen ∧ base ≤ g ∧ w.heap[g]? = some (.cells (xs ++ x).toArray T (0, 0)) := by
  rcases h.2 with ⟨_, h0⟩ | ⟨g, cap, cur, rfl, hb, hh, h1, h2, _, ht⟩
  · omega
  · refine ⟨g, cap, cur.toList.drop (n * size), rfl, h1, h2, hb, ?_⟩
    rw [hh, ← ht, List.take_append_drop]

theorem clone_any (b n c : Nat) (xs : List Value) (w : World) (hl : xs.length = n * 2) (hn : n ≤ 4096) (h0 : 0 < n) (hc : ∀ j u, xs[j]? = some u → w.cell? ⟨b, j, none⟩ = some u) (h1 : ∀ u ∈ xs, u.oneCell' = true) :
    Calls Try.prog 34 #[.slice (some ⟨b, 0, none⟩) n c] w fun e w' => ∃ v', e = .returned v' ∧ w'.ownsRow w.heap.size 60 2 v' n xs ∧ Grow w w' := by
  obtain ⟨i0, hi, hz0, hz1, hz2⟩ := info_parts infoCell
  have A : Hid (∀ j u, xs[j]? = some u → w.cell? ⟨b, j, none⟩ = some u) := hc
  have HL := Lib.hid hl
  have q : ∀ (W : World) (n c n' c' : Nat), (binOp .eql 58 (.slice (some ⟨b, 0, none⟩) n c) (.slice none n' c')).run Try.prog W = .ok (.bool false) W := fun W n c n' c' => Lib.run_eql_slice_nil W _ _ _ n c n' c' Try.underlying58
  clear hc hl
  go_enter Try.func34, Try.ntmps34
  go_wp2_with (at_builtin; refine wpList_append_own _ rfl _ _ 58 rfl w.heap.size 60 i0 (.agg #[.int .u8 0, .bool false]) 2 2 Try.underlying58 hi hz0 hz1 hz2 rfl (by decide) _ _ _ rfl (World.ownsRow_made w #[] 0 (Nat.le_refl _) (Nat.zero_le _) (by simp)) ⟨b, 0, none⟩ n c xs rfl ?qc1 ?qc2 ?qc3 ?qc4 ?qc5 ?qc6 ?_)
  case qc1 => exact HL.out
  case qc2 =>
    intro j u hj
    rw [Addr.add_lit, Nat.zero_add]
    have := A.out j u hj
    rw [World.cell?_alloc_lt _ _ _ (block_lt this)]; exact this
  case qc3 => exact h1
  case qc4 => rw [Nat.zero_add]; unfold maxLen; omega
  case qc5 => omega
  case qc6 => simp
  intro v' w1 hown hgrow hnil
  go_wp2
  go_ret
  refine ⟨v', rfl, by simpa using hown, ?_⟩
  exact ((Below.refl _ w).alloc (Nat.le_refl _) _).grown hgrow (by simp) (by intro k hk; simp [Value.ownBlock] at hk; omega)

def SomeCopy (st : St) (w : World) (e : Ending) (w' : World) : Prop :=
  ∃ P g : Nat, e = .returned (.pointer (some ⟨P, 0, none⟩)) ∧ StoreV w' P g st ∧ Grow w w' ∧ w.heap.size ≤ P ∧ w.heap.size ≤ g

set_option maxHeartbeats 400000 in
theorem copy_any {w : World} {P g : Nat} {st : St} (h : StoreV w P g st) : Calls Try.prog 20 #[.pointer (some ⟨P, 0, none⟩)] w (SomeCopy st w) := by
  have HL := Lib.hid (len_any h)
  obtain ⟨hc, ⟨hc1, hc2⟩, c0, c1, c2, c3, c4, hf⟩ := h.cellsP
  have hl := h.le
  have hp := h.pos
  have hz : ((st.cells.length : Int) == 0) = false := by simp; intro hh; rw [hh] at hp; simp at hp
  have hlt := h.ltP
  have HS := Lib.hid h
  clear hf h
  go_enter Try.func20, Try.ntmps20
  go_wp2_with (go_at_call 33; refine HL.out.mono ?_; rintro e w' ⟨rfl, rfl⟩)
  refine (clone_any g st.cells.length hc (cellVals st.cells) _ (by rw [cellVals_length]; omega) hl hp (fun j u hj => ?_) (cells_one _)).mono ?_
  · obtain ⟨x, hx⟩ := HS.out.body
    have e := (Below.heap_alloc w (.cells #[.slice (some ⟨g, 0, none⟩) st.cells.length hc, .int .i64 st.fuse, .int .u8 st.tb, .bool st.tu, .bool st.dead] 62) g HS.out.ltG).trans hx
    simp only [World.cell?, e, List.getElem?_toArray]
    rw [List.getElem?_append_left (by rcases Nat.lt_or_ge j (cellVals st.cells).length with h | h; · exact h
                                      · rw [List.getElem?_eq_none h] at hj; cases hj)]
    exact hj
  rintro e w2 ⟨v', rfl, ho, hg⟩
  obtain ⟨g', cap, x, rfl, k1, k2, k3, k4⟩ := block_of_owns ho hp
  have HB : Hid (w2.heap[g']? = some (.cells (cellVals st.cells ++ x).toArray 60 (0, 0))) := k4
  have HG : Hid (Grow w w2) := Grow.trans ((Grow.refl w).alloc _) hg
  have hh := (hg.block w.heap.size (by simp)).trans (heap_alloc_new w _)
  have HH := Lib.hid hh
  have d0 : w2.cell? ⟨w.heap.size, 0, none⟩ = some (.slice (some ⟨g, 0, none⟩) st.cells.length hc) := by simp [World.cell?, hh]
  have df : w2.frozen? ⟨w.heap.size, 0, none⟩ = false := by simp [World.frozen?, hh]
  have hk3 : w.heap.size < g' := by simp at k3; omega
  clear ho hg hh k4
  go_wp2_with fail
  go_ret
  refine ⟨w.heap.size, g', rfl, ⟨⟨cap, k1, k2, heap_setCell_same w2 w.heap.size 0 _ _ _ HH.out⟩, ⟨x, ?_⟩, by omega, hp, hl, HS.out.fuse, HS.out.byte, HS.out.torn⟩, ?_, Nat.le_refl _, by omega⟩
  · exact (Below.heap_setCell _ _ _ _ (show g' ≠ w.heap.size by omega)).trans HB.out
  · exact HG.out.setCell (Nat.le_refl _) _
end Go.Proofs.Ytajmfgadbphjbaa
