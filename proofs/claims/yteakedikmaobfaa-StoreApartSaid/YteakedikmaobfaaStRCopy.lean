/- The document's store: its Copy. -/
import Derived.Test.YteakedikmaobfaaStBytes
set_option linter.unusedVariables false
namespace Go.Proofs.Yteakedikmaobfaa
open Go.RowKit

theorem RefV.intsB {w : World} {R : RAt} {st : St} (h : RefV w R st) (cap : Nat) (hc : st.cells.length ≤ cap) (hm : cap ≤ maxLen) : IntsV .u8 w (.slice (some ⟨R.b, 0, none⟩) st.cells.length cap) (st.cells.map (·.1)) := by
  refine Or.inr ⟨R.b, 0, cap, by simp, by simpa using hc, hm, fun i hi => ?_⟩
  have hi' : i < st.cells.length := by simpa using hi
  rw [Nat.zero_add, (h.cellsR i hi').1]
  simp [hi']

theorem uVals_at {st : St} {j : Nat} {u : Value} (h : (uVals st)[j]? = some u) : ∃ hj : j < st.cells.length, u = .bool (st.cells.getD j (0, false)).2 := by
  rcases Nat.lt_or_ge j st.cells.length with hj | hj
  · refine ⟨hj, ?_⟩
    simp [uVals, hj] at h
    simp [hj, ← h]
  · simp [uVals, Nat.not_lt.2 hj] at h

def SomeRCopy (st : St) (w : World) (e : Ending) (w' : World) : Prop :=
  ∃ R : RAt, e = .returned (.pointer (some ⟨R.p, 0, none⟩)) ∧ RefV w' R st ∧ Grow w w' ∧ w.heap.size ≤ R.p ∧ w.heap.size ≤ R.b ∧ w.heap.size ≤ R.u

set_option maxHeartbeats 1000000 in
theorem rcopy_any {w : World} {R : RAt} {st : St} (h : RefV w R st) : Calls Try.prog 19 #[.pointer (some ⟨R.p, 0, none⟩)] w (SomeRCopy st w) := by
  obtain ⟨i0, hi, hz0, hz1, hz2⟩ := info_parts infoByte
  obtain ⟨i1, hj, hy0, hy1, hy2⟩ := info_parts infoBool
  obtain ⟨cb, cu, ⟨hcb, hcu⟩, c0, c1, c2, c3, c4, c5, hf⟩ := h.cellsP
  have hl := h.le
  have hp := h.pos
  have hlt := h.lts.1
  have HS := Lib.hid h
  have hml : (maxLen : Nat) = 9223372036854775807 := rfl
  have HL1 : Hid ((st.cells.map (·.1)).length = st.cells.length) := by show List.length _ = _; simp
  clear hf h
  go_enter Try.func19, Try.ntmps19
  have HI : Hid (∀ (o : Obj), IntsV .u8 (w.alloc o) (.slice (some ⟨R.b, 0, none⟩) st.cells.length cb) (st.cells.map (·.1))) := fun o => by
    have h' : RefV (w.alloc o) R st := HS.out.stay (M := NoBlock) (GrowBut.of_below ((Below.refl _ _).alloc (Nat.le_refl _) o)) (fun h => h) (fun h => h) (fun h => h)
    exact h'.intsB cb hcb.1 hcb.2
  go_wp2_with (at_builtin; refine wpList_append_ints (k := .u8) rfl _ _ 29 rfl (w.heap.size + 1) 5 i0 1 Try.underlying29 hi hz0 hz1 hz2 _ 0 [] rfl (World.ownsRow_nil _ _ _ _) _ (st.cells.map (·.1)) rfl (HI.out _) ?c3 ?c4 ?c5 ?_)
  case c3 => rw [HL1.out]; omega
  case c4 => rw [HL1.out]; omega
  case c5 => simp
  intro v' w1 hown hgrow
  obtain ⟨b', cap, xb, rfl, k1, k2, k3, k4⟩ := block_of_owns hown hp
  have hg1 : Grow (w.alloc (.cells (refHead R st.cells.length cb cu st) 49)) w1 := ⟨hgrow.os, hgrow.tape, hgrow.output, hgrow.size, fun q hq => hgrow.block q hq (by simp [Value.ownBlock])⟩
  have hh := (hg1.block w.heap.size (by simp)).trans (heap_alloc_new w _)
  have HH := Lib.hid hh
  have HB : Hid (w1.heap[b']? = some (.cells (bVals st ++ xb).toArray 5 (0, 0))) := by
    have h4 := k4
    show w1.heap[b']? = _
    simpa [bVals, Function.comp_def] using h4
  have HG1 : Hid (Grow w w1) := Grow.trans ((Grow.refl w).alloc _) hg1
  have h1 : RefV w1 R st := HS.out.stay (M := NoBlock) (GrowBut.of_below HG1.out) (fun h => h) (fun h => h) (fun h => h)
  have HS1 := Lib.hid h1
  obtain ⟨_, _, _, _, e1, _⟩ := h1.cellsP
  have d0 : w1.cell? ⟨w.heap.size, 0, none⟩ = some (.slice (some ⟨R.b, 0, none⟩) st.cells.length cb) := by simp [World.cell?, hh, refHead]
  have d1 : w1.cell? ⟨w.heap.size, 1, none⟩ = some (.slice (some ⟨R.u, 0, none⟩) st.cells.length cu) := by simp [World.cell?, hh, refHead]
  have df : ∀ i, w1.frozen? ⟨w.heap.size, i, none⟩ = false := fun i => by simp [World.frozen?, hh]
  have df0 := df 0
  have df1 := df 1
  have g1 := (HG1.out.cell (block_lt c1)).trans c1
  have hne : ¬ w.heap.size = R.p := by omega
  have hne' : ¬ R.p = w.heap.size := by omega
  have hbs : b' < w1.heap.size := lt_of_block HB.out
  have hbw : w.heap.size + 1 ≤ b' := k3
  have HUV : Hid (∀ j u, (uVals st)[j]? = some u → (w1.setCell ⟨w.heap.size, 0, none⟩ (.slice (some ⟨b', 0, none⟩) st.cells.length cap)).cell? ⟨R.u, j, none⟩ = some u) := by
    intro j u hu
    obtain ⟨hj, rfl⟩ := uVals_at hu
    have hult := HS.out.lts.2.2
    rw [World.cell?_setCell_other _ _ _ _ (by intro e; injection e with e; omega)]
    exact (h1.cellsR j hj).2.1
  have HUL : Hid ((uVals st).length = st.cells.length) := by show (uVals st).length = _; simp [uVals]
  clear hown hgrow k4 hg1 hh df h1 e1 c0 c1 c2 c3 c4 c5
  go_wp2_with (at_builtin; refine wpList_append_own _ rfl _ _ 47 rfl (w.heap.size + 1) 4 i1 (.bool false) 1 1 Try.underlying47 hj hy0 hy1 hy2 rfl (by decide) _ 0 [] rfl (World.ownsRow_nil _ _ _ _) ⟨R.u, 0, none⟩ st.cells.length cu (uVals st) rfl ?q1 ?q2 ?q3 ?q4 ?q5 ?q6 ?_)
  case q1 => rw [HUL.out]; omega
  case q2 => intro j u hu; rw [Addr.add_lit, Nat.zero_add]; exact HUV.out j u hu
  case q3 =>
    intro u hu
    obtain ⟨j, hj⟩ := List.getElem?_of_mem hu
    obtain ⟨_, rfl⟩ := uVals_at hj
    rfl
  case q4 => omega
  case q5 => omega
  case q6 => simp [World.setCell]; omega
  intro v2 w2 hown hgrow hnil
  have hown2 : w2.ownsRow (w.heap.size + 1) 4 1 v2 st.cells.length (uVals st) := by simpa using hown
  obtain ⟨u', cap2, xu, rfl, m1, m2, m3, m4⟩ := block_of_owns hown2 hp
  have hrow : ∀ q, q < w1.heap.size → w2.heap[q]? = (w1.setCell ⟨w.heap.size, 0, none⟩ (.slice (some ⟨b', 0, none⟩) st.cells.length cap)).heap[q]? := fun q hq => hgrow.block q (by simpa [World.setCell] using hq) (by simp [Value.ownBlock])
  have hH0 := heap_setCell_same w1 w.heap.size 0 _ _ (.slice (some ⟨b', 0, none⟩) st.cells.length cap) HH.out
  have hlt1 : w.heap.size < w1.heap.size := lt_of_block HH.out
  have HH2 : Hid (w2.heap[w.heap.size]? = _) := (hrow w.heap.size hlt1).trans hH0
  have HB2 : Hid (w2.heap[b']? = some (.cells (bVals st ++ xb).toArray 5 (0, 0))) := (hrow b' hbs).trans ((Below.heap_setCell _ _ _ _ (show b' ≠ w.heap.size by omega)).trans HB.out)
  have HU2 : Hid (w2.heap[u']? = some (.cells (uVals st ++ xu).toArray 4 (0, 0))) := m4
  have HG2 : Hid (Grow w w2) := by
    have : Grow w (w1.setCell ⟨w.heap.size, 0, none⟩ (.slice (some ⟨b', 0, none⟩) st.cells.length cap)) := Below.setCell HG1.out (Nat.le_refl _) _
    refine ⟨hgrow.os.trans this.os, hgrow.tape.trans this.tape, hgrow.output.trans this.output, Nat.le_trans this.size hgrow.size, fun q hq => ?_⟩
    exact (hrow q (by omega)).trans (this.block q hq)
  have hub : u' ≠ b' := by
    intro e
    have h1 := HB2.out
    rw [← e, m4] at h1
    injection h1 with h1
    injection h1 with _ h1
    cases h1
  have hh2 := HH2.out
  have d1' : w2.cell? ⟨w.heap.size, 1, none⟩ = some (.slice (some ⟨R.u, 0, none⟩) st.cells.length cu) := by simp [World.cell?, hh2, refHead]
  have df2 : w2.frozen? ⟨w.heap.size, 1, none⟩ = false := by simp [World.frozen?, hh2]
  clear hown hgrow hnil hown2 m4 hrow hH0 hh2 d0 d1 df0 df1 g1
  go_wp2_with fail
  go_ret
  have hF := heap_setCell_same w2 w.heap.size 1 _ _ (.slice (some ⟨u', 0, none⟩) st.cells.length cap2) HH2.out
  refine ⟨⟨w.heap.size, b', u'⟩, rfl, ⟨⟨cap, cap2, ⟨k1, k2, m1, m2⟩, ?_⟩, ⟨xb, ?_⟩, ⟨xu, ?_⟩, by show w.heap.size ≠ b'; omega, by show w.heap.size ≠ u'; omega, Ne.symm hub, hp, hl, HS.out.fuse, HS.out.byte, HS.out.torn⟩, ?_, Nat.le_refl _, by show w.heap.size ≤ b'; omega, by show w.heap.size ≤ u'; omega⟩
  · rw [hF]; simp [refHead]
  · exact (Below.heap_setCell _ _ _ _ (show b' ≠ w.heap.size by omega)).trans HB2.out
  · exact (Below.heap_setCell _ _ _ _ (show u' ≠ w.heap.size by omega)).trans HU2.out
  · exact Below.setCell HG2.out (Nat.le_refl _) _
end Go.Proofs.Yteakedikmaobfaa
