/- The contract of the document's Hear. -/
import Derived.Test.YtnpmdiekcdjfaaaRad
set_option linter.unusedVariables false
set_option linter.unusedSimpArgs false
namespace Go.Proofs.Ytnpmdiekcdjfaaa
open Go.RowKit

theorem rhear_own {w : World} {P : Nat} {a : Ad} {sd : Bool} (h : RadV w P a sd) (x : Hl) (ho : x.node = a.node) :
    Calls Try.prog 19 #[.pointer (some ⟨P, 0, none⟩), x.val] w (RadAfter P w (.int .i64 0) a sd) := by
  obtain ⟨n, b, t, hb', ht'⟩ := x
  simp only [Hl.val]
  dsimp only at ho
  obtain ⟨⟨c0, c1, c2⟩, _⟩ := h.cells
  rw [← ho] at c0
  have HS := Lib.hid h
  have hlt := HS.out.ltP
  clear h c1 c2 ho
  go_enter Try.func19, Try.ntmps19
  go_wp2_with fail
  go_quiet (fail)
  go_wp2_with fail
  go_ret
  exact ⟨rfl, RadV.drewN (RadV.alloc HS.out _) _, GrowBut.drewN (grow_alloc _ _) _⟩

set_option maxRecDepth 20000 in
set_option maxHeartbeats 4000000 in
theorem rhear_down {w : World} {P : Nat} {a : Ad} {sd : Bool} (h : RadV w P a sd) (x : Hl) (hx : HlOk x) (hb : ¬ x.bad) (ho : x.node ≠ a.node) (hs : a.state = 0) :
    Calls Try.prog 19 #[.pointer (some ⟨P, 0, none⟩), x.val] w (RadAfter P w (.int .i64 ((a.greet x).fin x 0).2) ((a.greet x).fin x 0).1 sd) := by
  have HOK := Lib.hid (Ad.greet_ok h.ok hx hb)
  obtain ⟨n, b, t, hb', ht'⟩ := x
  unfold Hl.bad at hb
  simp only [Hl.val]
  dsimp only at *
  obtain ⟨⟨c0, c1, c2⟩, c3, ⟨c4, c5, c6, c7⟩, c8, c9, c10, c11, hf⟩ := h.cells
  have f3 := hf 3
  have f6 := hf 6
  have f7 := hf 7
  have f8 := hf 8
  have f11 := hf 11
  have h5 : (n == a.node) = false := by simpa using ho
  have HS := Lib.hid h
  have HH : Hid (∀ o, (w.alloc o).heap[P]? = some (.cells (radVals a sd) 44 (0, 0))) := fun o => (RadV.alloc h o).head
  have HNE : Hid (¬ One P w.heap.size) := fun e => by have := h.ltP; unfold One at e; omega
  have hlt := h.ltP
  have hpb : ¬ P = w.heap.size := by omega
  have hbp : ¬ w.heap.size = P := by omega
  have hst := h.ok.state
  rw [hs] at c3
  clear h hx c1 c2 hb ho hf c9 c10 hst hs
  by_cases hm : hb' = a.mb ∧ ht' = a.mt
  · rw [fin_yes (a.greet ⟨n, b, t, hb', ht'⟩) ⟨n, b, t, hb', ht'⟩ 0 hm rfl]
    obtain ⟨rfl, rfl⟩ := hm
    have HOK2 := Lib.hid (Ad.up_ok HOK.out)
    go_enter Try.func19, Try.ntmps19
    go_wp2_with fail
    go_quiet (fail)
    go_wp2_with fail
    go_quiet (fail)
    go_wp2_with fail
    go_quiet (fail)
    go_wp2_with fail
    go_quiet (fail)
    go_wp2_with fail
    go_ret
    refine ⟨rfl, ⟨?_, HOK2.out⟩, ?_⟩
    · simp only [heap_put, heap_dr, heap_dn, HH.out, Option.map_some, setObj_cells]; simp [radVals, Ad.greet]
    · simp only [but_put, but_dr, but_dn]; exact grow_alloc _ _
  · rw [fin_no (a.greet ⟨n, b, t, hb', ht'⟩) ⟨n, b, t, hb', ht'⟩ 0 hm]
    have hm1 : ¬ (hb' = a.mb ∧ ht' = a.mt) := hm
    clear hm
    by_cases hm2 : hb' = a.mb
    · have e2 : (ht' == a.mt) = false := by simp; exact fun h => hm1 ⟨hm2, h⟩
      subst hm2
      clear hm1
      go_enter Try.func19, Try.ntmps19
      go_wp2_with fail
      go_quiet (fail)
      go_wp2_with fail
      go_quiet (fail)
      go_wp2_with fail
      go_quiet (fail)
      go_wp2_with fail
      go_quiet (fail)
      go_wp2_with fail
      go_ret
      refine ⟨rfl, ⟨?_, HOK.out⟩, ?_⟩
      · simp only [heap_put, heap_dr, heap_dn, HH.out, Option.map_some, setObj_cells]; simp [radVals, Ad.greet]
      · simp only [but_put, but_dr, but_dn]; exact grow_alloc _ _
    · have e1 : (hb' == a.mb) = false := by simpa using hm2
      clear hm1 hm2
      go_enter Try.func19, Try.ntmps19
      go_wp2_with fail
      go_quiet (fail)
      go_wp2_with fail
      go_quiet (fail)
      go_wp2_with fail
      go_quiet (fail)
      go_wp2_with fail
      go_quiet (fail)
      go_wp2_with fail
      go_ret
      refine ⟨rfl, ⟨?_, HOK.out⟩, ?_⟩
      · simp only [heap_put, heap_dr, heap_dn, HH.out, Option.map_some, setObj_cells]; simp [radVals, Ad.greet]
      · simp only [but_put, but_dr, but_dn]; exact grow_alloc _ _

set_option maxRecDepth 20000 in
set_option maxHeartbeats 4000000 in
theorem rhear_elder1 {w : World} {P : Nat} {a : Ad} {sd : Bool} (h : RadV w P a sd) (x : Hl) (hx : HlOk x) (hb : ¬ x.bad) (ho : x.node ≠ a.node) (hs : a.state ≠ 0) (hno : x.node = a.other) (he : x.mb < a.tb) :
    Calls Try.prog 19 #[.pointer (some ⟨P, 0, none⟩), x.val] w (RadAfter P w (.int .i64 0) a sd) := by
  obtain ⟨n, b, t, hb', ht'⟩ := x
  unfold Hl.bad at hb
  simp only [Hl.val]
  dsimp only at *
  obtain ⟨⟨c0, c1, c2⟩, c3, ⟨c4, c5, c6, c7⟩, c8, c9, c10, c11, hf⟩ := h.cells
  have f3 := hf 3
  have f6 := hf 6
  have f7 := hf 7
  have f8 := hf 8
  have f11 := hf 11
  have h5 : (n == a.node) = false := by simpa using ho
  have HS := Lib.hid h
  have HH : Hid (∀ o, (w.alloc o).heap[P]? = some (.cells (radVals a sd) 44 (0, 0))) := fun o => (RadV.alloc h o).head
  have HNE : Hid (¬ One P w.heap.size) := fun e => by have := h.ltP; unfold One at e; omega
  have hlt := h.ltP
  have hpb : ¬ P = w.heap.size := by omega
  have hbp : ¬ w.heap.size = P := by omega
  have hst := h.ok.state
  have hs1 : decide (0 < a.state) = true := by simp; omega
  have hno' : (n != a.other) = false := by simpa using hno
  have q1 : (b == a.tb) = false := by simp; omega
  clear h hx c1 c2 hb ho hf c9 c10 hst hs hno
  go_enter Try.func19, Try.ntmps19
  go_wp2_with fail
  go_quiet (fail)
  go_wp2_with fail
  go_quiet (fail)
  go_wp2_with fail
  go_quiet (fail)
  go_wp2_with fail
  go_quiet (fail)
  go_wp2_with fail
  go_ret
  refine ⟨rfl, ⟨?_, HS.out.ok⟩, ?_⟩
  · simp only [heap_put, heap_dr, heap_dn, HH.out, Option.map_some, setObj_cells]
  · simp only [but_put, but_dr, but_dn]; exact grow_alloc _ _

set_option maxRecDepth 20000 in
set_option maxHeartbeats 4000000 in
theorem rhear_elder2 {w : World} {P : Nat} {a : Ad} {sd : Bool} (h : RadV w P a sd) (x : Hl) (hx : HlOk x) (hb : ¬ x.bad) (ho : x.node ≠ a.node) (hs : a.state ≠ 0) (hno : x.node = a.other) (he : x.mb = a.tb) (he2 : x.mt < a.tt) :
    Calls Try.prog 19 #[.pointer (some ⟨P, 0, none⟩), x.val] w (RadAfter P w (.int .i64 0) a sd) := by
  obtain ⟨n, b, t, hb', ht'⟩ := x
  unfold Hl.bad at hb
  simp only [Hl.val]
  dsimp only at *
  obtain ⟨⟨c0, c1, c2⟩, c3, ⟨c4, c5, c6, c7⟩, c8, c9, c10, c11, hf⟩ := h.cells
  have f3 := hf 3
  have f6 := hf 6
  have f7 := hf 7
  have f8 := hf 8
  have f11 := hf 11
  have h5 : (n == a.node) = false := by simpa using ho
  have HS := Lib.hid h
  have HH : Hid (∀ o, (w.alloc o).heap[P]? = some (.cells (radVals a sd) 44 (0, 0))) := fun o => (RadV.alloc h o).head
  have HNE : Hid (¬ One P w.heap.size) := fun e => by have := h.ltP; unfold One at e; omega
  have hlt := h.ltP
  have hpb : ¬ P = w.heap.size := by omega
  have hbp : ¬ w.heap.size = P := by omega
  have hst := h.ok.state
  have hs1 : decide (0 < a.state) = true := by simp; omega
  have hno' : (n != a.other) = false := by simpa using hno
  have q1 : (b == a.tb) = true := by simpa using he
  have q2 : (t == a.tt) = false := by simp; omega
  have q3 : decide (b < a.tb) = false := by simp; omega
  clear h hx c1 c2 hb ho hf c9 c10 hst hs hno he
  go_enter Try.func19, Try.ntmps19
  go_wp2_with fail
  go_quiet (fail)
  go_wp2_with fail
  go_quiet (fail)
  go_wp2_with fail
  go_quiet (fail)
  go_wp2_with fail
  go_quiet (fail)
  go_wp2_with fail
  go_ret
  refine ⟨rfl, ⟨?_, HS.out.ok⟩, ?_⟩
  · simp only [heap_put, heap_dr, heap_dn, HH.out, Option.map_some, setObj_cells]
  · simp only [but_put, but_dr, but_dn]; exact grow_alloc _ _

end Go.Proofs.Ytnpmdiekcdjfaaa
