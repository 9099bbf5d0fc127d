/- The contract of Hear: hellos of the session's own node, of its tag. -/
import Derived.Test.YtnpmdiekcdjfaaaAdHear
set_option linter.unusedVariables false
namespace Go.Proofs.Ytnpmdiekcdjfaaa
open Go.RowKit

set_option maxRecDepth 20000 in
set_option maxHeartbeats 16000000 in
theorem hear_same1 {w : World} {P : Nat} {a : Ad} (h : AdV w P a) (x : Hl) (hx : HlOk x) (hb : ¬ x.bad) (ho : x.node ≠ a.node) (hs0 : a.state = 1) (hno : x.node = a.other) (he : elderB x.mb x.mt a.tb a.tt = false) (ht : x.mb = a.tb ∧ x.mt = a.tt) :
    Calls Try.prog 13 #[.pointer (some ⟨P, 0, none⟩), x.val] w (AdHeard P w (a.still.fin x 0) 0) := by
  have HE := Lib.hid he
  have HOK := Lib.hid (Ad.still_ok h.ok)
  have HSS := Lib.hid hs0
  clear he
  obtain ⟨n, b, t, hb', ht'⟩ := x
  unfold Hl.bad at hb
  simp only [Hl.val]
  dsimp only at hb ho
  have hh := hx.node
  dsimp only at hh
  obtain ⟨⟨c0, c1, c2⟩, c3, ⟨c4, c5, c6, c7⟩, c8, c9, c10, hf⟩ := h.cells
  have f3 := hf 3
  have f6 := hf 6
  have f7 := hf 7
  have f8 := hf 8
  have f10 := hf 10
  have hn1 : 1 ≤ n := by omega
  have hn2 : n ≤ 16 := by omega
  have h3 : (b == 0) = false := by simp; omega
  have h4 : (t == 0) = false := by simp; omega
  have h5 : (n == a.node) = false := by simpa using ho
  have HS := Lib.hid h
  have hlt := h.ltP
  have hpb : ¬ P = w.heap.size := by omega
  have hbp : ¬ w.heap.size = P := by omega
  rw [hs0] at c3
  have hno' : (n != a.other) = false := by simpa using hno
  dsimp only at ht
  obtain ⟨ht1, ht2⟩ := ht
  have q1 : (t == a.tt) = true := by simpa using ht2
  have q2 : (b == a.tb) = true := by simpa using ht1
  clear ht1 ht2
  clear h hx c1 c2 hb ho hf c9 hno hh hs0
  by_cases hm : hb' = a.mb ∧ ht' = a.mt
  · rw [fin_yes (a.still) ⟨n, b, t, hb', ht'⟩ 0 hm HSS.out]
    obtain ⟨rfl, rfl⟩ := hm
    have HOK2 := Lib.hid (Ad.up_ok HOK.out)
    go_enter Try.func13, Try.ntmps13
    go_wp2_with (go_at_call 22; refine (there_any (AdV.alloc HS.out _)).mono ?_; rintro e w' ⟨rfl, rfl⟩)
    go_quiet (fail)
    go_wp2_with fail
    go_quiet (fail)
    go_wp2_with fail
    refine wp_region_grow 9 [] NoBlock (fun _ => True) (by kernel_rfl) (by kernel_rfl) (by rfl) (fun _ _ _ _ => trivial) trivial ?_
    simp only [List.take_succ_cons, List.take_zero, List.drop_succ_cons, List.drop_zero]
    repeat (refine wpH_pure (by intro _ _ h; cases h) (by rfl) (by rfl) (fun K hK => ?_); go_simp; refine hK _ ?_; clear hK K)
    refine wpH_det (.agg #[.int .u64 b, .int .u64 t]) (by rfl) (fun xs => by rfl) (fun xs w' hg hf => ?_) ?_
    · clear hf
      obtain ⟨b0, b1, b2, b3, b4⟩ := hello_cells (M := NoBlock) (head_dn (head_dn (heap_alloc_new w _) _) _) hg (fun h => h)
      go_simp
      exact Below.refl _ _
    repeat (refine wpH_pure (by intro _ _ h; cases h) (by rfl) (by rfl) (fun K hK => ?_); go_simp; refine hK _ ?_; clear hK K)
    refine wpH_det (.agg #[.int .u64 a.tb, .int .u64 a.tt]) (by rfl) (fun xs => by rfl) (fun xs w' hg hf => ?_) ?_
    · clear hf
      obtain ⟨_, _, ⟨_, _, d6, d7⟩, _⟩ := (AdV.stay (M := NoBlock) (AdV.drewN (AdV.drewN (AdV.alloc HS.out _) _) _) hg (fun h => h)).cells
      go_simp
      exact Below.refl _ _
    refine wpH_det (.bool (elderB b t a.tb a.tt)) (by rfl) (fun xs => by rfl) (fun xs w' hg hf => ?_) ?_
    · clear hf
      go_simp
      refine (elder_any _ _ _ _ _).mono ?_
      rintro e w' ⟨rfl, hg1⟩
      exact ⟨_, rfl, rfl, hg1⟩
    repeat (refine wpH_pure (by intro _ _ h; cases h) (by rfl) (by rfl) (fun K hK => ?_); go_simp; refine hK _ ?_; clear hK K)
    refine wpH_nil ?_
    intro xs w2 hg2 _ _
    obtain ⟨b0, b1, b2, b3, b4⟩ := hello_cells (M := NoBlock) (head_dn (head_dn (heap_alloc_new w _) _) _) hg2 (fun h => h)
    have HA2 : Hid (AdV w2 P a) := AdV.stay (M := NoBlock) (AdV.drewN (AdV.drewN (AdV.alloc HS.out _) _) _) hg2 (fun h => h)
    have HG2 : Hid (GrowBut (One P) w w2) := GrowBut.trans (GrowBut.drewN (GrowBut.drewN (grow_alloc w _) _) _) (hg2.weaken fun _ h => h.elim)
    simp only [fill]
    go_simp
    rw [HE.out]
    clear hg2 c0 c3 c4 c5 c6 c7 c8 c10 f3 f6 f7 f8 f10
    obtain ⟨_, d3, ⟨d4, d5, d6, d7⟩, d8, _, d10, df⟩ := HA2.out.cells
    rw [HSS.out] at d3
    have df3 := df 3
    have df6 := df 6
    have df7 := df 7
    have df10 := df 10
    clear df HS hlt h3 h4 h5 hno'
    go_wp2_with fail
    go_quiet (fail)
    go_wp2_with fail
    go_quiet (fail)
    go_wp2_with fail
    go_ret2
    exact ⟨rfl, adv_of (head_put (head_dn (head_put (head_dn HA2.out.head _) _ _) _) _ _) (by simp [adVals, Ad.still]) HOK2.out, (grow_one (GrowBut.drewN (grow_one (GrowBut.drewN HG2.out _) _ _) _) _ _)⟩
  · rw [fin_no (a.still) ⟨n, b, t, hb', ht'⟩ 0 hm]
    have hm1 : ¬ (hb' = a.mb ∧ ht' = a.mt) := hm
    clear hm
    by_cases hm2 : hb' = a.mb
    · have e2 : (ht' == a.mt) = false := by simp; exact fun h => hm1 ⟨hm2, h⟩
      subst hm2
      clear hm1
      go_enter Try.func13, Try.ntmps13
      go_wp2_with (go_at_call 22; refine (there_any (AdV.alloc HS.out _)).mono ?_; rintro e w' ⟨rfl, rfl⟩)
      go_quiet (fail)
      go_wp2_with fail
      go_quiet (fail)
      go_wp2_with fail
      refine wp_region_grow 9 [] NoBlock (fun _ => True) (by kernel_rfl) (by kernel_rfl) (by rfl) (fun _ _ _ _ => trivial) trivial ?_
      simp only [List.take_succ_cons, List.take_zero, List.drop_succ_cons, List.drop_zero]
      repeat (refine wpH_pure (by intro _ _ h; cases h) (by rfl) (by rfl) (fun K hK => ?_); go_simp; refine hK _ ?_; clear hK K)
      refine wpH_det (.agg #[.int .u64 b, .int .u64 t]) (by rfl) (fun xs => by rfl) (fun xs w' hg hf => ?_) ?_
      · clear hf
        obtain ⟨b0, b1, b2, b3, b4⟩ := hello_cells (M := NoBlock) (head_dn (head_dn (heap_alloc_new w _) _) _) hg (fun h => h)
        go_simp
        exact Below.refl _ _
      repeat (refine wpH_pure (by intro _ _ h; cases h) (by rfl) (by rfl) (fun K hK => ?_); go_simp; refine hK _ ?_; clear hK K)
      refine wpH_det (.agg #[.int .u64 a.tb, .int .u64 a.tt]) (by rfl) (fun xs => by rfl) (fun xs w' hg hf => ?_) ?_
      · clear hf
        obtain ⟨_, _, ⟨_, _, d6, d7⟩, _⟩ := (AdV.stay (M := NoBlock) (AdV.drewN (AdV.drewN (AdV.alloc HS.out _) _) _) hg (fun h => h)).cells
        go_simp
        exact Below.refl _ _
      refine wpH_det (.bool (elderB b t a.tb a.tt)) (by rfl) (fun xs => by rfl) (fun xs w' hg hf => ?_) ?_
      · clear hf
        go_simp
        refine (elder_any _ _ _ _ _).mono ?_
        rintro e w' ⟨rfl, hg1⟩
        exact ⟨_, rfl, rfl, hg1⟩
      repeat (refine wpH_pure (by intro _ _ h; cases h) (by rfl) (by rfl) (fun K hK => ?_); go_simp; refine hK _ ?_; clear hK K)
      refine wpH_nil ?_
      intro xs w2 hg2 _ _
      obtain ⟨b0, b1, b2, b3, b4⟩ := hello_cells (M := NoBlock) (head_dn (head_dn (heap_alloc_new w _) _) _) hg2 (fun h => h)
      have HA2 : Hid (AdV w2 P a) := AdV.stay (M := NoBlock) (AdV.drewN (AdV.drewN (AdV.alloc HS.out _) _) _) hg2 (fun h => h)
      have HG2 : Hid (GrowBut (One P) w w2) := GrowBut.trans (GrowBut.drewN (GrowBut.drewN (grow_alloc w _) _) _) (hg2.weaken fun _ h => h.elim)
      simp only [fill]
      go_simp
      rw [HE.out]
      clear hg2 c0 c3 c4 c5 c6 c7 c8 c10 f3 f6 f7 f8 f10
      obtain ⟨_, d3, ⟨d4, d5, d6, d7⟩, d8, _, d10, df⟩ := HA2.out.cells
      rw [HSS.out] at d3
      have df3 := df 3
      have df6 := df 6
      have df7 := df 7
      have df10 := df 10
      clear df HS hlt h3 h4 h5 hno'
      go_wp2_with fail
      go_quiet (fail)
      go_wp2_with fail
      go_quiet (fail)
      go_wp2_with fail
      go_ret2
      exact ⟨rfl, adv_of (head_dn (head_put (head_dn HA2.out.head _) _ _) _) (by simp [adVals, Ad.still]) HOK.out, (GrowBut.drewN (grow_one (GrowBut.drewN HG2.out _) _ _) _)⟩
    · have e1 : (hb' == a.mb) = false := by simpa using hm2
      clear hm1 hm2
      go_enter Try.func13, Try.ntmps13
      go_wp2_with (go_at_call 22; refine (there_any (AdV.alloc HS.out _)).mono ?_; rintro e w' ⟨rfl, rfl⟩)
      go_quiet (fail)
      go_wp2_with fail
      go_quiet (fail)
      go_wp2_with fail
      refine wp_region_grow 9 [] NoBlock (fun _ => True) (by kernel_rfl) (by kernel_rfl) (by rfl) (fun _ _ _ _ => trivial) trivial ?_
      simp only [List.take_succ_cons, List.take_zero, List.drop_succ_cons, List.drop_zero]
      repeat (refine wpH_pure (by intro _ _ h; cases h) (by rfl) (by rfl) (fun K hK => ?_); go_simp; refine hK _ ?_; clear hK K)
      refine wpH_det (.agg #[.int .u64 b, .int .u64 t]) (by rfl) (fun xs => by rfl) (fun xs w' hg hf => ?_) ?_
      · clear hf
        obtain ⟨b0, b1, b2, b3, b4⟩ := hello_cells (M := NoBlock) (head_dn (head_dn (heap_alloc_new w _) _) _) hg (fun h => h)
        go_simp
        exact Below.refl _ _
      repeat (refine wpH_pure (by intro _ _ h; cases h) (by rfl) (by rfl) (fun K hK => ?_); go_simp; refine hK _ ?_; clear hK K)
      refine wpH_det (.agg #[.int .u64 a.tb, .int .u64 a.tt]) (by rfl) (fun xs => by rfl) (fun xs w' hg hf => ?_) ?_
      · clear hf
        obtain ⟨_, _, ⟨_, _, d6, d7⟩, _⟩ := (AdV.stay (M := NoBlock) (AdV.drewN (AdV.drewN (AdV.alloc HS.out _) _) _) hg (fun h => h)).cells
        go_simp
        exact Below.refl _ _
      refine wpH_det (.bool (elderB b t a.tb a.tt)) (by rfl) (fun xs => by rfl) (fun xs w' hg hf => ?_) ?_
      · clear hf
        go_simp
        refine (elder_any _ _ _ _ _).mono ?_
        rintro e w' ⟨rfl, hg1⟩
        exact ⟨_, rfl, rfl, hg1⟩
      repeat (refine wpH_pure (by intro _ _ h; cases h) (by rfl) (by rfl) (fun K hK => ?_); go_simp; refine hK _ ?_; clear hK K)
      refine wpH_nil ?_
      intro xs w2 hg2 _ _
      obtain ⟨b0, b1, b2, b3, b4⟩ := hello_cells (M := NoBlock) (head_dn (head_dn (heap_alloc_new w _) _) _) hg2 (fun h => h)
      have HA2 : Hid (AdV w2 P a) := AdV.stay (M := NoBlock) (AdV.drewN (AdV.drewN (AdV.alloc HS.out _) _) _) hg2 (fun h => h)
      have HG2 : Hid (GrowBut (One P) w w2) := GrowBut.trans (GrowBut.drewN (GrowBut.drewN (grow_alloc w _) _) _) (hg2.weaken fun _ h => h.elim)
      simp only [fill]
      go_simp
      rw [HE.out]
      clear hg2 c0 c3 c4 c5 c6 c7 c8 c10 f3 f6 f7 f8 f10
      obtain ⟨_, d3, ⟨d4, d5, d6, d7⟩, d8, _, d10, df⟩ := HA2.out.cells
      rw [HSS.out] at d3
      have df3 := df 3
      have df6 := df 6
      have df7 := df 7
      have df10 := df 10
      clear df HS hlt h3 h4 h5 hno'
      go_wp2_with fail
      go_quiet (fail)
      go_wp2_with fail
      go_quiet (fail)
      go_wp2_with fail
      go_ret2
      exact ⟨rfl, adv_of (head_dn (head_put (head_dn HA2.out.head _) _ _) _) (by simp [adVals, Ad.still]) HOK.out, (GrowBut.drewN (grow_one (GrowBut.drewN HG2.out _) _ _) _)⟩
set_option maxRecDepth 20000 in
set_option maxHeartbeats 16000000 in
theorem hear_same2 {w : World} {P : Nat} {a : Ad} (h : AdV w P a) (x : Hl) (hx : HlOk x) (hb : ¬ x.bad) (ho : x.node ≠ a.node) (hs0 : a.state = 2) (hno : x.node = a.other) (he : elderB x.mb x.mt a.tb a.tt = false) (ht : x.mb = a.tb ∧ x.mt = a.tt) :
    Calls Try.prog 13 #[.pointer (some ⟨P, 0, none⟩), x.val] w (AdHeard P w (a.still.fin x 0) 0) := by
  have HE := Lib.hid he
  have HOK := Lib.hid (Ad.still_ok h.ok)
  have HSS := Lib.hid hs0
  clear he
  obtain ⟨n, b, t, hb', ht'⟩ := x
  unfold Hl.bad at hb
  simp only [Hl.val]
  dsimp only at hb ho
  have hh := hx.node
  dsimp only at hh
  obtain ⟨⟨c0, c1, c2⟩, c3, ⟨c4, c5, c6, c7⟩, c8, c9, c10, hf⟩ := h.cells
  have f3 := hf 3
  have f6 := hf 6
  have f7 := hf 7
  have f8 := hf 8
  have f10 := hf 10
  have hn1 : 1 ≤ n := by omega
  have hn2 : n ≤ 16 := by omega
  have h3 : (b == 0) = false := by simp; omega
  have h4 : (t == 0) = false := by simp; omega
  have h5 : (n == a.node) = false := by simpa using ho
  have HS := Lib.hid h
  have hlt := h.ltP
  have hpb : ¬ P = w.heap.size := by omega
  have hbp : ¬ w.heap.size = P := by omega
  rw [hs0] at c3
  have hno' : (n != a.other) = false := by simpa using hno
  dsimp only at ht
  obtain ⟨ht1, ht2⟩ := ht
  have q1 : (t == a.tt) = true := by simpa using ht2
  have q2 : (b == a.tb) = true := by simpa using ht1
  clear ht1 ht2
  clear h hx c1 c2 hb ho hf c9 hno hh hs0
  by_cases hm : hb' = a.mb ∧ ht' = a.mt
  · rw [fin_no2 (a.still) ⟨n, b, t, hb', ht'⟩ 0 (by show a.state ≠ 1; rw [HSS.out]; decide)]
    obtain ⟨rfl, rfl⟩ := hm
    have HOK2 := Lib.hid (HOK.out)
    go_enter Try.func13, Try.ntmps13
    go_wp2_with (go_at_call 22; refine (there_any (AdV.alloc HS.out _)).mono ?_; rintro e w' ⟨rfl, rfl⟩)
    go_quiet (fail)
    go_wp2_with fail
    go_quiet (fail)
    go_wp2_with fail
    refine wp_region_grow 9 [] NoBlock (fun _ => True) (by kernel_rfl) (by kernel_rfl) (by rfl) (fun _ _ _ _ => trivial) trivial ?_
    simp only [List.take_succ_cons, List.take_zero, List.drop_succ_cons, List.drop_zero]
    repeat (refine wpH_pure (by intro _ _ h; cases h) (by rfl) (by rfl) (fun K hK => ?_); go_simp; refine hK _ ?_; clear hK K)
    refine wpH_det (.agg #[.int .u64 b, .int .u64 t]) (by rfl) (fun xs => by rfl) (fun xs w' hg hf => ?_) ?_
    · clear hf
      obtain ⟨b0, b1, b2, b3, b4⟩ := hello_cells (M := NoBlock) (head_dn (head_dn (heap_alloc_new w _) _) _) hg (fun h => h)
      go_simp
      exact Below.refl _ _
    repeat (refine wpH_pure (by intro _ _ h; cases h) (by rfl) (by rfl) (fun K hK => ?_); go_simp; refine hK _ ?_; clear hK K)
    refine wpH_det (.agg #[.int .u64 a.tb, .int .u64 a.tt]) (by rfl) (fun xs => by rfl) (fun xs w' hg hf => ?_) ?_
    · clear hf
      obtain ⟨_, _, ⟨_, _, d6, d7⟩, _⟩ := (AdV.stay (M := NoBlock) (AdV.drewN (AdV.drewN (AdV.alloc HS.out _) _) _) hg (fun h => h)).cells
      go_simp
      exact Below.refl _ _
    refine wpH_det (.bool (elderB b t a.tb a.tt)) (by rfl) (fun xs => by rfl) (fun xs w' hg hf => ?_) ?_
    · clear hf
      go_simp
      refine (elder_any _ _ _ _ _).mono ?_
      rintro e w' ⟨rfl, hg1⟩
      exact ⟨_, rfl, rfl, hg1⟩
    repeat (refine wpH_pure (by intro _ _ h; cases h) (by rfl) (by rfl) (fun K hK => ?_); go_simp; refine hK _ ?_; clear hK K)
    refine wpH_nil ?_
    intro xs w2 hg2 _ _
    obtain ⟨b0, b1, b2, b3, b4⟩ := hello_cells (M := NoBlock) (head_dn (head_dn (heap_alloc_new w _) _) _) hg2 (fun h => h)
    have HA2 : Hid (AdV w2 P a) := AdV.stay (M := NoBlock) (AdV.drewN (AdV.drewN (AdV.alloc HS.out _) _) _) hg2 (fun h => h)
    have HG2 : Hid (GrowBut (One P) w w2) := GrowBut.trans (GrowBut.drewN (GrowBut.drewN (grow_alloc w _) _) _) (hg2.weaken fun _ h => h.elim)
    simp only [fill]
    go_simp
    rw [HE.out]
    clear hg2 c0 c3 c4 c5 c6 c7 c8 c10 f3 f6 f7 f8 f10
    obtain ⟨_, d3, ⟨d4, d5, d6, d7⟩, d8, _, d10, df⟩ := HA2.out.cells
    rw [HSS.out] at d3
    have df3 := df 3
    have df6 := df 6
    have df7 := df 7
    have df10 := df 10
    clear df HS hlt h3 h4 h5 hno'
    go_wp2_with fail
    go_quiet (fail)
    go_wp2_with fail
    go_quiet (fail)
    go_wp2_with fail
    go_ret2
    exact ⟨rfl, adv_of (head_dn (head_put (head_dn HA2.out.head _) _ _) _) (by simp [adVals, Ad.still]) HOK2.out, (GrowBut.drewN (grow_one (GrowBut.drewN HG2.out _) _ _) _)⟩
  · rw [fin_no (a.still) ⟨n, b, t, hb', ht'⟩ 0 hm]
    have hm1 : ¬ (hb' = a.mb ∧ ht' = a.mt) := hm
    clear hm
    by_cases hm2 : hb' = a.mb
    · have e2 : (ht' == a.mt) = false := by simp; exact fun h => hm1 ⟨hm2, h⟩
      subst hm2
      clear hm1
      go_enter Try.func13, Try.ntmps13
      go_wp2_with (go_at_call 22; refine (there_any (AdV.alloc HS.out _)).mono ?_; rintro e w' ⟨rfl, rfl⟩)
      go_quiet (fail)
      go_wp2_with fail
      go_quiet (fail)
      go_wp2_with fail
      refine wp_region_grow 9 [] NoBlock (fun _ => True) (by kernel_rfl) (by kernel_rfl) (by rfl) (fun _ _ _ _ => trivial) trivial ?_
      simp only [List.take_succ_cons, List.take_zero, List.drop_succ_cons, List.drop_zero]
      repeat (refine wpH_pure (by intro _ _ h; cases h) (by rfl) (by rfl) (fun K hK => ?_); go_simp; refine hK _ ?_; clear hK K)
      refine wpH_det (.agg #[.int .u64 b, .int .u64 t]) (by rfl) (fun xs => by rfl) (fun xs w' hg hf => ?_) ?_
      · clear hf
        obtain ⟨b0, b1, b2, b3, b4⟩ := hello_cells (M := NoBlock) (head_dn (head_dn (heap_alloc_new w _) _) _) hg (fun h => h)
        go_simp
        exact Below.refl _ _
      repeat (refine wpH_pure (by intro _ _ h; cases h) (by rfl) (by rfl) (fun K hK => ?_); go_simp; refine hK _ ?_; clear hK K)
      refine wpH_det (.agg #[.int .u64 a.tb, .int .u64 a.tt]) (by rfl) (fun xs => by rfl) (fun xs w' hg hf => ?_) ?_
      · clear hf
        obtain ⟨_, _, ⟨_, _, d6, d7⟩, _⟩ := (AdV.stay (M := NoBlock) (AdV.drewN (AdV.drewN (AdV.alloc HS.out _) _) _) hg (fun h => h)).cells
        go_simp
        exact Below.refl _ _
      refine wpH_det (.bool (elderB b t a.tb a.tt)) (by rfl) (fun xs => by rfl) (fun xs w' hg hf => ?_) ?_
      · clear hf
        go_simp
        refine (elder_any _ _ _ _ _).mono ?_
        rintro e w' ⟨rfl, hg1⟩
        exact ⟨_, rfl, rfl, hg1⟩
      repeat (refine wpH_pure (by intro _ _ h; cases h) (by rfl) (by rfl) (fun K hK => ?_); go_simp; refine hK _ ?_; clear hK K)
      refine wpH_nil ?_
      intro xs w2 hg2 _ _
      obtain ⟨b0, b1, b2, b3, b4⟩ := hello_cells (M := NoBlock) (head_dn (head_dn (heap_alloc_new w _) _) _) hg2 (fun h => h)
      have HA2 : Hid (AdV w2 P a) := AdV.stay (M := NoBlock) (AdV.drewN (AdV.drewN (AdV.alloc HS.out _) _) _) hg2 (fun h => h)
      have HG2 : Hid (GrowBut (One P) w w2) := GrowBut.trans (GrowBut.drewN (GrowBut.drewN (grow_alloc w _) _) _) (hg2.weaken fun _ h => h.elim)
      simp only [fill]
      go_simp
      rw [HE.out]
      clear hg2 c0 c3 c4 c5 c6 c7 c8 c10 f3 f6 f7 f8 f10
      obtain ⟨_, d3, ⟨d4, d5, d6, d7⟩, d8, _, d10, df⟩ := HA2.out.cells
      rw [HSS.out] at d3
      have df3 := df 3
      have df6 := df 6
      have df7 := df 7
      have df10 := df 10
      clear df HS hlt h3 h4 h5 hno'
      go_wp2_with fail
      go_quiet (fail)
      go_wp2_with fail
      go_quiet (fail)
      go_wp2_with fail
      go_ret2
      exact ⟨rfl, adv_of (head_dn (head_put (head_dn HA2.out.head _) _ _) _) (by simp [adVals, Ad.still]) HOK.out, (GrowBut.drewN (grow_one (GrowBut.drewN HG2.out _) _ _) _)⟩
    · have e1 : (hb' == a.mb) = false := by simpa using hm2
      clear hm1 hm2
      go_enter Try.func13, Try.ntmps13
      go_wp2_with (go_at_call 22; refine (there_any (AdV.alloc HS.out _)).mono ?_; rintro e w' ⟨rfl, rfl⟩)
      go_quiet (fail)
      go_wp2_with fail
      go_quiet (fail)
      go_wp2_with fail
      refine wp_region_grow 9 [] NoBlock (fun _ => True) (by kernel_rfl) (by kernel_rfl) (by rfl) (fun _ _ _ _ => trivial) trivial ?_
      simp only [List.take_succ_cons, List.take_zero, List.drop_succ_cons, List.drop_zero]
      repeat (refine wpH_pure (by intro _ _ h; cases h) (by rfl) (by rfl) (fun K hK => ?_); go_simp; refine hK _ ?_; clear hK K)
      refine wpH_det (.agg #[.int .u64 b, .int .u64 t]) (by rfl) (fun xs => by rfl) (fun xs w' hg hf => ?_) ?_
      · clear hf
        obtain ⟨b0, b1, b2, b3, b4⟩ := hello_cells (M := NoBlock) (head_dn (head_dn (heap_alloc_new w _) _) _) hg (fun h => h)
        go_simp
        exact Below.refl _ _
      repeat (refine wpH_pure (by intro _ _ h; cases h) (by rfl) (by rfl) (fun K hK => ?_); go_simp; refine hK _ ?_; clear hK K)
      refine wpH_det (.agg #[.int .u64 a.tb, .int .u64 a.tt]) (by rfl) (fun xs => by rfl) (fun xs w' hg hf => ?_) ?_
      · clear hf
        obtain ⟨_, _, ⟨_, _, d6, d7⟩, _⟩ := (AdV.stay (M := NoBlock) (AdV.drewN (AdV.drewN (AdV.alloc HS.out _) _) _) hg (fun h => h)).cells
        go_simp
        exact Below.refl _ _
      refine wpH_det (.bool (elderB b t a.tb a.tt)) (by rfl) (fun xs => by rfl) (fun xs w' hg hf => ?_) ?_
      · clear hf
        go_simp
        refine (elder_any _ _ _ _ _).mono ?_
        rintro e w' ⟨rfl, hg1⟩
        exact ⟨_, rfl, rfl, hg1⟩
      repeat (refine wpH_pure (by intro _ _ h; cases h) (by rfl) (by rfl) (fun K hK => ?_); go_simp; refine hK _ ?_; clear hK K)
      refine wpH_nil ?_
      intro xs w2 hg2 _ _
      obtain ⟨b0, b1, b2, b3, b4⟩ := hello_cells (M := NoBlock) (head_dn (head_dn (heap_alloc_new w _) _) _) hg2 (fun h => h)
      have HA2 : Hid (AdV w2 P a) := AdV.stay (M := NoBlock) (AdV.drewN (AdV.drewN (AdV.alloc HS.out _) _) _) hg2 (fun h => h)
      have HG2 : Hid (GrowBut (One P) w w2) := GrowBut.trans (GrowBut.drewN (GrowBut.drewN (grow_alloc w _) _) _) (hg2.weaken fun _ h => h.elim)
      simp only [fill]
      go_simp
      rw [HE.out]
      clear hg2 c0 c3 c4 c5 c6 c7 c8 c10 f3 f6 f7 f8 f10
      obtain ⟨_, d3, ⟨d4, d5, d6, d7⟩, d8, _, d10, df⟩ := HA2.out.cells
      rw [HSS.out] at d3
      have df3 := df 3
      have df6 := df 6
      have df7 := df 7
      have df10 := df 10
      clear df HS hlt h3 h4 h5 hno'
      go_wp2_with fail
      go_quiet (fail)
      go_wp2_with fail
      go_quiet (fail)
      go_wp2_with fail
      go_ret2
      exact ⟨rfl, adv_of (head_dn (head_put (head_dn HA2.out.head _) _ _) _) (by simp [adVals, Ad.still]) HOK.out, (GrowBut.drewN (grow_one (GrowBut.drewN HG2.out _) _ _) _)⟩
end Go.Proofs.Ytnpmdiekcdjfaaa
