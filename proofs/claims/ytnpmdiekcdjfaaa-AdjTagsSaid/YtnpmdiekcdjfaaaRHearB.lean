/- The contract of the document's Hear: of another node than the session's. -/
import Derived.Test.YtnpmdiekcdjfaaaRad
set_option linter.unusedVariables false
set_option linter.unusedSimpArgs false
namespace Go.Proofs.Ytnpmdiekcdjfaaa
open Go.RowKit

set_option maxRecDepth 20000 in
set_option maxHeartbeats 4000000 in
theorem rhear_other2 {w : World} {P : Nat} {a : Ad} {sd : Bool} (h : RadV w P a sd) (x : Hl) (hx : HlOk x) (hb : ¬ x.bad) (ho : x.node ≠ a.node) (hs2 : a.state = 2) (hno : x.node ≠ a.other) (hm : a.mt < 18446744073709551615) :
    Calls Try.prog 19 #[.pointer (some ⟨P, 0, none⟩), x.val] w (RadAfter P w (.int .i64 ((a.anew.greet x).fin x a.lost).2) ((a.anew.greet x).fin x a.lost).1 sd) := by
  have HOK := Lib.hid (Ad.greet_ok (Ad.anew_ok h.ok hm) hx hb)
  obtain ⟨n, b, t, hb', ht'⟩ := x
  unfold Hl.bad at hb
  simp only [Hl.val]
  dsimp only at *
  obtain ⟨⟨c0, c1, c2⟩, c3, ⟨c4, c5, c6, c7⟩, c8, c9, c10, c11, hf⟩ := h.cells
  have f3 := hf 3
  have f6 := hf 6
  have f7 := hf 7
  have f8 := hf 8
  have f11 := hf 11
  have h5 : (n == a.node) = false := by simpa using ho
  have HS := Lib.hid h
  have HH : Hid (∀ o, (w.alloc o).heap[P]? = some (.cells (radVals a sd) 44 (0, 0))) := fun o => (RadV.alloc h o).head
  have HNE : Hid (¬ One P w.heap.size) := fun e => by have := h.ltP; unfold One at e; omega
  have hlt := h.ltP
  have hpb : ¬ P = w.heap.size := by omega
  have hbp : ¬ w.heap.size = P := by omega
  have hst := h.ok.state
  have hs1 : decide (0 < a.state) = true := by simp; omega
  have hno' : (n != a.other) = true := by simpa using hno
  have u2 : (a.state == 2) = true := by simpa using hs2
  have HM := Lib.hid hm
  have HLO : Hid (a.lost = 2) := by show a.lost = _; unfold Ad.lost; rw [hs2]; rfl
  clear h hx c1 c2 hb ho hf c9 c10 hst hs2 hno hm
  by_cases hm : hb' = a.mb ∧ ht' = a.mt + 1
  · rw [fin_yes (a.anew.greet ⟨n, b, t, hb', ht'⟩) ⟨n, b, t, hb', ht'⟩ a.lost hm rfl]
    obtain ⟨rfl, rfl⟩ := hm
    have HOK2 := Lib.hid (Ad.up_ok HOK.out)
    go_enter Try.func19, Try.ntmps19
    go_wp2_with fail
    go_quiet (fail)
    go_wp2_with fail
    go_quiet (fail)
    go_wp2_with fail
    refine (ranew_any (RadV.drewN (RadV.alloc HS.out _) _) HM.out).mono ?_
    rintro e w2 ⟨rfl, hA2, hg2⟩
    have HS2 := Lib.hid hA2
    obtain ⟨b0, b1, b2, b3, b4⟩ := hello_cells (head_dn (heap_alloc_new w _) _) hg2 HNE.out
    have HG2 := Lib.hid (GrowBut.trans (GrowBut.drewN (grow_alloc w _) _) hg2)
    obtain ⟨⟨d0, d1, d2⟩, d3, ⟨d4, d5, d6, d7⟩, d8, d9, d10, d11, df⟩ := hA2.cells
    simp only [Ad.anew] at d3 d4 d5 d6 d7 d8 d11
    have df3 := df 3
    have df6 := df 6
    have df7 := df 7
    have df8 := df 8
    have df11 := df 11
    clear df d0 d1 d2 d9 d10 hA2 hg2 c0 c3 c4 c5 c6 c7 c8 c11 f3 f6 f7 f8 f11 HS HM HNE HH hlt
    go_wp2_with fail
    go_quiet (fail)
    go_wp2_with fail
    go_ret
    refine ⟨rfl, ⟨?_, HOK2.out⟩, ?_⟩
    · simp only [heap_put, heap_dr, heap_dn, HS2.out.head, Option.map_some, setObj_cells]; simp [radVals, Ad.greet, Ad.anew]
    · simp only [but_put, but_dr, but_dn]; exact HG2.out
  · rw [fin_no (a.anew.greet ⟨n, b, t, hb', ht'⟩) ⟨n, b, t, hb', ht'⟩ a.lost hm]
    have hm1 : ¬ (hb' = a.mb ∧ ht' = a.mt + 1) := hm
    clear hm
    by_cases hm2 : hb' = a.mb
    · have e2 : (ht' == a.mt + 1) = false := by simp; exact fun h => hm1 ⟨hm2, h⟩
      subst hm2
      clear hm1
      go_enter Try.func19, Try.ntmps19
      go_wp2_with fail
      go_quiet (fail)
      go_wp2_with fail
      go_quiet (fail)
      go_wp2_with fail
      refine (ranew_any (RadV.drewN (RadV.alloc HS.out _) _) HM.out).mono ?_
      rintro e w2 ⟨rfl, hA2, hg2⟩
      have HS2 := Lib.hid hA2
      obtain ⟨b0, b1, b2, b3, b4⟩ := hello_cells (head_dn (heap_alloc_new w _) _) hg2 HNE.out
      have HG2 := Lib.hid (GrowBut.trans (GrowBut.drewN (grow_alloc w _) _) hg2)
      obtain ⟨⟨d0, d1, d2⟩, d3, ⟨d4, d5, d6, d7⟩, d8, d9, d10, d11, df⟩ := hA2.cells
      simp only [Ad.anew] at d3 d4 d5 d6 d7 d8 d11
      have df3 := df 3
      have df6 := df 6
      have df7 := df 7
      have df8 := df 8
      have df11 := df 11
      clear df d0 d1 d2 d9 d10 hA2 hg2 c0 c3 c4 c5 c6 c7 c8 c11 f3 f6 f7 f8 f11 HS HM HNE HH hlt
      go_wp2_with fail
      go_quiet (fail)
      go_wp2_with fail
      go_ret
      refine ⟨by rw [HLO.out]; rfl, ⟨?_, HOK.out⟩, ?_⟩
      · simp only [heap_put, heap_dr, heap_dn, HS2.out.head, Option.map_some, setObj_cells]; simp [radVals, Ad.greet, Ad.anew]
      · simp only [but_put, but_dr, but_dn]; exact HG2.out
    · have e1 : (hb' == a.mb) = false := by simpa using hm2
      clear hm1 hm2
      go_enter Try.func19, Try.ntmps19
      go_wp2_with fail
      go_quiet (fail)
      go_wp2_with fail
      go_quiet (fail)
      go_wp2_with fail
      refine (ranew_any (RadV.drewN (RadV.alloc HS.out _) _) HM.out).mono ?_
      rintro e w2 ⟨rfl, hA2, hg2⟩
      have HS2 := Lib.hid hA2
      obtain ⟨b0, b1, b2, b3, b4⟩ := hello_cells (head_dn (heap_alloc_new w _) _) hg2 HNE.out
      have HG2 := Lib.hid (GrowBut.trans (GrowBut.drewN (grow_alloc w _) _) hg2)
      obtain ⟨⟨d0, d1, d2⟩, d3, ⟨d4, d5, d6, d7⟩, d8, d9, d10, d11, df⟩ := hA2.cells
      simp only [Ad.anew] at d3 d4 d5 d6 d7 d8 d11
      have df3 := df 3
      have df6 := df 6
      have df7 := df 7
      have df8 := df 8
      have df11 := df 11
      clear df d0 d1 d2 d9 d10 hA2 hg2 c0 c3 c4 c5 c6 c7 c8 c11 f3 f6 f7 f8 f11 HS HM HNE HH hlt
      go_wp2_with fail
      go_quiet (fail)
      go_wp2_with fail
      go_ret
      refine ⟨by rw [HLO.out]; rfl, ⟨?_, HOK.out⟩, ?_⟩
      · simp only [heap_put, heap_dr, heap_dn, HS2.out.head, Option.map_some, setObj_cells]; simp [radVals, Ad.greet, Ad.anew]
      · simp only [but_put, but_dr, but_dn]; exact HG2.out

set_option maxRecDepth 20000 in
set_option maxHeartbeats 4000000 in
theorem rhear_other1 {w : World} {P : Nat} {a : Ad} {sd : Bool} (h : RadV w P a sd) (x : Hl) (hx : HlOk x) (hb : ¬ x.bad) (ho : x.node ≠ a.node) (hs2 : a.state = 1) (hno : x.node ≠ a.other) (hm : a.mt < 18446744073709551615) :
    Calls Try.prog 19 #[.pointer (some ⟨P, 0, none⟩), x.val] w (RadAfter P w (.int .i64 ((a.anew.greet x).fin x a.lost).2) ((a.anew.greet x).fin x a.lost).1 sd) := by
  have HOK := Lib.hid (Ad.greet_ok (Ad.anew_ok h.ok hm) hx hb)
  obtain ⟨n, b, t, hb', ht'⟩ := x
  unfold Hl.bad at hb
  simp only [Hl.val]
  dsimp only at *
  obtain ⟨⟨c0, c1, c2⟩, c3, ⟨c4, c5, c6, c7⟩, c8, c9, c10, c11, hf⟩ := h.cells
  have f3 := hf 3
  have f6 := hf 6
  have f7 := hf 7
  have f8 := hf 8
  have f11 := hf 11
  have h5 : (n == a.node) = false := by simpa using ho
  have HS := Lib.hid h
  have HH : Hid (∀ o, (w.alloc o).heap[P]? = some (.cells (radVals a sd) 44 (0, 0))) := fun o => (RadV.alloc h o).head
  have HNE : Hid (¬ One P w.heap.size) := fun e => by have := h.ltP; unfold One at e; omega
  have hlt := h.ltP
  have hpb : ¬ P = w.heap.size := by omega
  have hbp : ¬ w.heap.size = P := by omega
  have hst := h.ok.state
  have hs1 : decide (0 < a.state) = true := by simp; omega
  have hno' : (n != a.other) = true := by simpa using hno
  have u2 : (a.state == 2) = false := by simp; omega
  have HM := Lib.hid hm
  have HLO : Hid (a.lost = 0) := by show a.lost = _; unfold Ad.lost; rw [hs2]; rfl
  clear h hx c1 c2 hb ho hf c9 c10 hst hs2 hno hm
  by_cases hm : hb' = a.mb ∧ ht' = a.mt + 1
  · rw [fin_yes (a.anew.greet ⟨n, b, t, hb', ht'⟩) ⟨n, b, t, hb', ht'⟩ a.lost hm rfl]
    obtain ⟨rfl, rfl⟩ := hm
    have HOK2 := Lib.hid (Ad.up_ok HOK.out)
    go_enter Try.func19, Try.ntmps19
    go_wp2_with fail
    go_quiet (fail)
    go_wp2_with fail
    go_quiet (fail)
    go_wp2_with fail
    refine (ranew_any (RadV.drewN (RadV.alloc HS.out _) _) HM.out).mono ?_
    rintro e w2 ⟨rfl, hA2, hg2⟩
    have HS2 := Lib.hid hA2
    obtain ⟨b0, b1, b2, b3, b4⟩ := hello_cells (head_dn (heap_alloc_new w _) _) hg2 HNE.out
    have HG2 := Lib.hid (GrowBut.trans (GrowBut.drewN (grow_alloc w _) _) hg2)
    obtain ⟨⟨d0, d1, d2⟩, d3, ⟨d4, d5, d6, d7⟩, d8, d9, d10, d11, df⟩ := hA2.cells
    simp only [Ad.anew] at d3 d4 d5 d6 d7 d8 d11
    have df3 := df 3
    have df6 := df 6
    have df7 := df 7
    have df8 := df 8
    have df11 := df 11
    clear df d0 d1 d2 d9 d10 hA2 hg2 c0 c3 c4 c5 c6 c7 c8 c11 f3 f6 f7 f8 f11 HS HM HNE HH hlt
    go_wp2_with fail
    go_quiet (fail)
    go_wp2_with fail
    go_ret
    refine ⟨rfl, ⟨?_, HOK2.out⟩, ?_⟩
    · simp only [heap_put, heap_dr, heap_dn, HS2.out.head, Option.map_some, setObj_cells]; simp [radVals, Ad.greet, Ad.anew]
    · simp only [but_put, but_dr, but_dn]; exact HG2.out
  · rw [fin_no (a.anew.greet ⟨n, b, t, hb', ht'⟩) ⟨n, b, t, hb', ht'⟩ a.lost hm]
    have hm1 : ¬ (hb' = a.mb ∧ ht' = a.mt + 1) := hm
    clear hm
    by_cases hm2 : hb' = a.mb
    · have e2 : (ht' == a.mt + 1) = false := by simp; exact fun h => hm1 ⟨hm2, h⟩
      subst hm2
      clear hm1
      go_enter Try.func19, Try.ntmps19
      go_wp2_with fail
      go_quiet (fail)
      go_wp2_with fail
      go_quiet (fail)
      go_wp2_with fail
      refine (ranew_any (RadV.drewN (RadV.alloc HS.out _) _) HM.out).mono ?_
      rintro e w2 ⟨rfl, hA2, hg2⟩
      have HS2 := Lib.hid hA2
      obtain ⟨b0, b1, b2, b3, b4⟩ := hello_cells (head_dn (heap_alloc_new w _) _) hg2 HNE.out
      have HG2 := Lib.hid (GrowBut.trans (GrowBut.drewN (grow_alloc w _) _) hg2)
      obtain ⟨⟨d0, d1, d2⟩, d3, ⟨d4, d5, d6, d7⟩, d8, d9, d10, d11, df⟩ := hA2.cells
      simp only [Ad.anew] at d3 d4 d5 d6 d7 d8 d11
      have df3 := df 3
      have df6 := df 6
      have df7 := df 7
      have df8 := df 8
      have df11 := df 11
      clear df d0 d1 d2 d9 d10 hA2 hg2 c0 c3 c4 c5 c6 c7 c8 c11 f3 f6 f7 f8 f11 HS HM HNE HH hlt
      go_wp2_with fail
      go_quiet (fail)
      go_wp2_with fail
      go_ret
      refine ⟨by rw [HLO.out]; rfl, ⟨?_, HOK.out⟩, ?_⟩
      · simp only [heap_put, heap_dr, heap_dn, HS2.out.head, Option.map_some, setObj_cells]; simp [radVals, Ad.greet, Ad.anew]
      · simp only [but_put, but_dr, but_dn]; exact HG2.out
    · have e1 : (hb' == a.mb) = false := by simpa using hm2
      clear hm1 hm2
      go_enter Try.func19, Try.ntmps19
      go_wp2_with fail
      go_quiet (fail)
      go_wp2_with fail
      go_quiet (fail)
      go_wp2_with fail
      refine (ranew_any (RadV.drewN (RadV.alloc HS.out _) _) HM.out).mono ?_
      rintro e w2 ⟨rfl, hA2, hg2⟩
      have HS2 := Lib.hid hA2
      obtain ⟨b0, b1, b2, b3, b4⟩ := hello_cells (head_dn (heap_alloc_new w _) _) hg2 HNE.out
      have HG2 := Lib.hid (GrowBut.trans (GrowBut.drewN (grow_alloc w _) _) hg2)
      obtain ⟨⟨d0, d1, d2⟩, d3, ⟨d4, d5, d6, d7⟩, d8, d9, d10, d11, df⟩ := hA2.cells
      simp only [Ad.anew] at d3 d4 d5 d6 d7 d8 d11
      have df3 := df 3
      have df6 := df 6
      have df7 := df 7
      have df8 := df 8
      have df11 := df 11
      clear df d0 d1 d2 d9 d10 hA2 hg2 c0 c3 c4 c5 c6 c7 c8 c11 f3 f6 f7 f8 f11 HS HM HNE HH hlt
      go_wp2_with fail
      go_quiet (fail)
      go_wp2_with fail
      go_ret
      refine ⟨by rw [HLO.out]; rfl, ⟨?_, HOK.out⟩, ?_⟩
      · simp only [heap_put, heap_dr, heap_dn, HS2.out.head, Option.map_some, setObj_cells]; simp [radVals, Ad.greet, Ad.anew]
      · simp only [but_put, but_dr, but_dn]; exact HG2.out

end Go.Proofs.Ytnpmdiekcdjfaaa
