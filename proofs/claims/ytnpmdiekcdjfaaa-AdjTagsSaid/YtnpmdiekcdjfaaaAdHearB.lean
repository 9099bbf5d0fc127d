/- The contract of Hear: hellos of another node than the session's. -/
import Derived.Test.YtnpmdiekcdjfaaaAdHear
set_option linter.unusedVariables false
namespace Go.Proofs.Ytnpmdiekcdjfaaa
open Go.RowKit

set_option maxRecDepth 20000 in
set_option maxHeartbeats 16000000 in
theorem hear_other {w : World} {P : Nat} {a : Ad} (h : AdV w P a) (x : Hl) (hx : HlOk x) (hb : ¬ x.bad) (ho : x.node ≠ a.node) (hs : a.state ≠ 0) (hno : x.node ≠ a.other) (hm : a.mt < 18446744073709551615) :
    Calls Try.prog 13 #[.pointer (some ⟨P, 0, none⟩), x.val] w (AdHeard P w ((a.anew.greet x).fin x a.lost) 0) := by
  have HOK := Lib.hid (Ad.greet_ok (Ad.anew_ok h.ok hm) hx hb)
  have HM := Lib.hid hm
  have HNE : Hid (¬ One P w.heap.size) := fun e => by have := h.ltP; unfold One at e; omega
  have hmt := h.ok.mt.1
  obtain ⟨n, b, t, hb', ht'⟩ := x
  unfold Hl.bad at hb
  simp only [Hl.val]
  dsimp only at hb ho
  have hh := hx.node
  dsimp only at hh
  obtain ⟨⟨c0, c1, c2⟩, c3, ⟨c4, c5, c6, c7⟩, c8, c9, c10, hf⟩ := h.cells
  have f3 := hf 3
  have f6 := hf 6
  have f7 := hf 7
  have f8 := hf 8
  have f10 := hf 10
  have hn1 : 1 ≤ n := by omega
  have hn2 : n ≤ 16 := by omega
  have h3 : (b == 0) = false := by simp; omega
  have h4 : (t == 0) = false := by simp; omega
  have h5 : (n == a.node) = false := by simpa using ho
  have HS := Lib.hid h
  have hlt := h.ltP
  have hpb : ¬ P = w.heap.size := by omega
  have hbp : ¬ w.heap.size = P := by omega
  have hs' : (a.state == 0) = false := by simpa using hs
  have hno' : (n != a.other) = true := by simpa using hno
  clear h hx c1 c2 hb ho hf c9 hs hno hh
  clear hm
  by_cases hm : hb' = a.mb ∧ ht' = a.mt + 1
  · rw [fin_yes (a.anew.greet ⟨n, b, t, hb', ht'⟩) ⟨n, b, t, hb', ht'⟩ a.lost hm rfl]
    obtain ⟨rfl, rfl⟩ := hm
    have HOK2 := Lib.hid (Ad.up_ok HOK.out)
    go_enter Try.func13, Try.ntmps13
    go_wp2_with (go_at_call 22; refine (there_any (AdV.alloc HS.out _)).mono ?_; rintro e w' ⟨rfl, rfl⟩)
    go_quiet (fail)
    go_wp2_with fail
    go_quiet (fail)
    go_wp2_with (go_at_call 23; refine (anew_any (AdV.drewN (AdV.alloc HS.out _) _) HM.out).mono ?_; rintro e w2 ⟨rfl, hA2, hg2⟩; have HS2 := Lib.hid hA2; obtain ⟨b0, b1, b2, b3, b4⟩ := hello_cells (head_dn (heap_alloc_new w _) _) hg2 HNE.out; have HG2 := Lib.hid (GrowBut.trans (GrowBut.drewN (grow_alloc w _) _) hg2); obtain ⟨⟨d0, d1, d2⟩, d3, ⟨d4, d5, d6, d7⟩, d8, d9, d10, df⟩ := hA2.cells; simp only [Ad.anew] at d3 d4 d5 d6 d7 d8 d10; have df3 := df 3; have df6 := df 6; have df7 := df 7; have df8 := df 8; have df10 := df 10; clear df d0 d1 d2 d9 hA2 hg2 c0 c3 c4 c5 c6 c7 c8 c10 f3 f6 f7 f8 f10 HS HM HNE hlt h3 h4 h5 hs' hno')
    go_region
    go_wp2_with fail
    go_quiet (fail)
    go_wp2_with fail
    go_ret2
    exact ⟨rfl, adv_of (head_put (head_dn (head_put (head_put (head_put (head_put (head_put (HS2.out.head) _ _) _ _) _ _) _ _) _ _) _) _ _) (by simp [adVals, Ad.greet, Ad.anew]) HOK2.out, (grow_one (GrowBut.drewN (grow_one (grow_one (grow_one (grow_one (grow_one (HG2.out) _ _) _ _) _ _) _ _) _ _) _) _ _)⟩
  · rw [fin_no (a.anew.greet ⟨n, b, t, hb', ht'⟩) ⟨n, b, t, hb', ht'⟩ a.lost hm]
    have hm1 : ¬ (hb' = a.mb ∧ ht' = a.mt + 1) := hm
    clear hm
    by_cases hm2 : hb' = a.mb
    · have e2 : (ht' == a.mt + 1) = false := by simp; exact fun h => hm1 ⟨hm2, h⟩
      subst hm2
      clear hm1
      go_enter Try.func13, Try.ntmps13
      go_wp2_with (go_at_call 22; refine (there_any (AdV.alloc HS.out _)).mono ?_; rintro e w' ⟨rfl, rfl⟩)
      go_quiet (fail)
      go_wp2_with fail
      go_quiet (fail)
      go_wp2_with (go_at_call 23; refine (anew_any (AdV.drewN (AdV.alloc HS.out _) _) HM.out).mono ?_; rintro e w2 ⟨rfl, hA2, hg2⟩; have HS2 := Lib.hid hA2; obtain ⟨b0, b1, b2, b3, b4⟩ := hello_cells (head_dn (heap_alloc_new w _) _) hg2 HNE.out; have HG2 := Lib.hid (GrowBut.trans (GrowBut.drewN (grow_alloc w _) _) hg2); obtain ⟨⟨d0, d1, d2⟩, d3, ⟨d4, d5, d6, d7⟩, d8, d9, d10, df⟩ := hA2.cells; simp only [Ad.anew] at d3 d4 d5 d6 d7 d8 d10; have df3 := df 3; have df6 := df 6; have df7 := df 7; have df8 := df 8; have df10 := df 10; clear df d0 d1 d2 d9 hA2 hg2 c0 c3 c4 c5 c6 c7 c8 c10 f3 f6 f7 f8 f10 HS HM HNE hlt h3 h4 h5 hs' hno')
      go_region
      go_wp2_with fail
      go_quiet (fail)
      go_wp2_with fail
      go_ret2
      exact ⟨rfl, adv_of (head_dn (head_dr (head_put (head_put (head_put (head_put (head_put (HS2.out.head) _ _) _ _) _ _) _ _) _ _)) _) (by simp [adVals, Ad.greet, Ad.anew]) HOK.out, (GrowBut.drewN (GrowBut.drew (grow_one (grow_one (grow_one (grow_one (grow_one (HG2.out) _ _) _ _) _ _) _ _) _ _)) _)⟩
    · have e1 : (hb' == a.mb) = false := by simpa using hm2
      clear hm1 hm2
      go_enter Try.func13, Try.ntmps13
      go_wp2_with (go_at_call 22; refine (there_any (AdV.alloc HS.out _)).mono ?_; rintro e w' ⟨rfl, rfl⟩)
      go_quiet (fail)
      go_wp2_with fail
      go_quiet (fail)
      go_wp2_with (go_at_call 23; refine (anew_any (AdV.drewN (AdV.alloc HS.out _) _) HM.out).mono ?_; rintro e w2 ⟨rfl, hA2, hg2⟩; have HS2 := Lib.hid hA2; obtain ⟨b0, b1, b2, b3, b4⟩ := hello_cells (head_dn (heap_alloc_new w _) _) hg2 HNE.out; have HG2 := Lib.hid (GrowBut.trans (GrowBut.drewN (grow_alloc w _) _) hg2); obtain ⟨⟨d0, d1, d2⟩, d3, ⟨d4, d5, d6, d7⟩, d8, d9, d10, df⟩ := hA2.cells; simp only [Ad.anew] at d3 d4 d5 d6 d7 d8 d10; have df3 := df 3; have df6 := df 6; have df7 := df 7; have df8 := df 8; have df10 := df 10; clear df d0 d1 d2 d9 hA2 hg2 c0 c3 c4 c5 c6 c7 c8 c10 f3 f6 f7 f8 f10 HS HM HNE hlt h3 h4 h5 hs' hno')
      go_region
      go_wp2_with fail
      go_quiet (fail)
      go_wp2_with fail
      go_ret2
      exact ⟨rfl, adv_of (head_dn (head_dr (head_put (head_put (head_put (head_put (head_put (HS2.out.head) _ _) _ _) _ _) _ _) _ _)) _) (by simp [adVals, Ad.greet, Ad.anew]) HOK.out, (GrowBut.drewN (GrowBut.drew (grow_one (grow_one (grow_one (grow_one (grow_one (HG2.out) _ _) _ _) _ _) _ _) _ _)) _)⟩
end Go.Proofs.Ytnpmdiekcdjfaaa
