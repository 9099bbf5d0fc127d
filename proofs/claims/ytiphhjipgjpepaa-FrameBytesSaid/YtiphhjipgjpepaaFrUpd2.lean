/- Updates: frame's update, and the document's Of. -/
import Derived.Test.YtiphhjipgjpepaaFrUpd
set_option linter.unusedVariables false
set_option linter.unusedSimpArgs false
namespace Go.Proofs.Ytiphhjipgjpepaa
open Go.RowKit

theorem updCells3 (zs : List Int) : ∃ a l d : Int, updCells zs = #[.int .u32 a, .int .i64 l, .int .i64 d] := by
  unfold updCells
  split
  · exact ⟨_, _, _, rfl⟩
  · exact ⟨_, _, _, rfl⟩

set_option maxHeartbeats 1000000 in
theorem update_any (v : Value) (zs : List Int) (w : World) (hv : BytesV w v zs) : Calls Try.prog 29 #[v] w (SomeUpdB zs w) := by
  have HC : Hid (∀ x, Grow w x → Calls Try.prog 43 #[v] x (SomeUpd zs x)) := fun x hx => cof_any v zs x (hv.mono hx)
  obtain ⟨ao, cap, rfl, h1, h2⟩ := hv.shape
  clear hv
  unfold maxLen at h2
  obtain ⟨a, l, d, hu⟩ := updCells3 zs
  have hV : updV zs = .agg #[.int .u32 a, .int .i64 l, .int .i64 d] := by unfold updV; rw [hu]
  have HV := Lib.hid hV
  have HZ : Hid ((w.alloc (.cells #[.int .u32 0, .int .i64 0, .int .i64 0] 52)).heap[w.heap.size]? = some (.cells #[.int .u32 0, .int .i64 0, .int .i64 0] 52 (0, 0))) := heap_alloc_new w _
  have HW0 : Hid (Grow w (w.alloc (.cells #[.int .u32 0, .int .i64 0, .int .i64 0] 52))) := (Grow.refl w).alloc _
  clear hu hV
  generalize zs.length = m at *
  go_enter Try.func29, Try.ntmps29
  go_wp2_with fail
  refine (HC.out _ HW0.out).mono ?_
  rintro e w1 ⟨rfl, hg⟩
  rw [HV.out]
  have hz := (((Grow.refl w1).alloc (.cells #[.int .u32 a, .int .i64 l, .int .i64 d] 52)).block _ (lt_of_block ((hg.block _ (lt_of_block HZ.out)).trans HZ.out))).trans ((hg.block _ (lt_of_block HZ.out)).trans HZ.out)
  obtain ⟨⟨c0, c1, c2⟩, f0, f1, f2⟩ := blk3 hz
  have HW1 := Lib.hid ((HW0.out.trans hg).alloc (.cells #[.int .u32 a, .int .i64 l, .int .i64 d] 52))
  have hn := heap_alloc_new w1 (.cells #[.int .u32 a, .int .i64 l, .int .i64 d] 52)
  obtain ⟨⟨d0, d1, d2⟩, _, _, _⟩ := blk3 hn
  clear hz hg hn
  cases hux : isU zs
  · have HUx := Lib.hid hux
    clear hux
    go_wp2_with fail
    refine bodyPost_ret (v := .tuple #[updV zs, .bool false]) (by rw [HV.out]; simp [results, Try.results29, go_sem, c0, c1, c2]) rfl ⟨by rw [HUx.out], ?_⟩
    exact grow3 HW1.out (Nat.le_refl _) _ _ _
  · have HUx := Lib.hid hux
    clear hux
    go_wp2_with fail
    refine bodyPost_ret (v := .tuple #[updV zs, .bool true]) (by rw [HV.out]; simp [results, Try.results29, go_sem, c0, c1, c2]) rfl ⟨by rw [HUx.out], ?_⟩
    exact grow3 HW1.out (Nat.le_refl _) _ _ _

set_option maxHeartbeats 1000000 in
theorem rof_short (v : Value) (zs : List Int) (w : World) (hv : BytesV w v zs) (hl : zs.length ≠ 6) :
    Calls Try.prog 30 #[v] w (SomeUpdB zs w) := by
  obtain ⟨ao, cap, rfl, h1, h2⟩ := hv.shape
  have HR : Hid (isU zs = false) := by show _ = _; unfold isU; rw [decide_eq_false hl]; rfl
  have h3 : ((zs.length : Int) == 6) = false := by simp; omega
  clear hv hl
  unfold maxLen at h2
  have HG : Hid (∀ v2, Grow w ((w.alloc (.cells #[.int .u32 0, .int .i64 0, .int .i64 0] 52)).drewN v2)) := fun v2 => grow_dn ((Grow.refl w).alloc _) _
  generalize hm : zs.length = m at *
  clear hm
  go_enter Try.func30, Try.ntmps30
  go_wp2_with fail
  refine bodyPost_ret (v := .tuple #[updV zs, .bool false]) (by rw [updV, updCells, HR.out]; simp [results, Try.results30, go_sem]) rfl ⟨by rw [HR.out], ?_⟩
  exact (Grow.refl w).alloc _

set_option maxHeartbeats 2000000 in
theorem rof_six (b off cap : Nat) (zs : List Int) (w : World) (hb : Bytes zs) (hc : ∀ i, i < zs.length → w.cell? ⟨b, off + i, none⟩ = some (.int .u8 (zs.getD i 0))) (hl : zs.length = 6) (h1 : 6 ≤ cap) (h2 : cap ≤ maxLen) :
    Calls Try.prog 30 #[.slice (some ⟨b, off, none⟩) 6 cap] w (SomeUpdB zs w) := by
  have HG4 : Hid (∀ x, Grow w x → Calls Try.prog 38 #[.slice (some ⟨b, off, none⟩) 4 cap] x fun e w' => e = .returned (.int .u64 (beN (zs.take 4))) ∧ x = w') := fun x hx =>
    rgetL b off cap 4 (zs.take 4) x (hb.take 4) (bytes_head (cap := cap) fun i hi => (hx.cell (block_lt (hc i hi))).trans (hc i hi)) (by rw [List.length_take, hl]; rfl) (by omega) (by omega) h2
  unfold maxLen at h2
  have hcap : (4 : Int) ≤ (cap : Int) := by omega
  have hx4 := hc 4 (by omega)
  have hx5 := hc 5 (by omega)
  have hb4 := hb.getD 4
  have hb5 := hb.getD 5
  obtain ⟨ha1, ha2⟩ := beN4 hb
  have HU : Hid (isU zs = mayP (beN (zs.take 4)) (zs.getD 4 0)) := by show _ = _; unfold isU; rw [decide_eq_true hl]; rfl
  have HUV : Hid (updCells zs = if isU zs then #[.int .u32 (beN (zs.take 4)), .int .i64 (zs.getD 4 0), .int .i64 (zs.getD 5 0)] else #[.int .u32 0, .int .i64 0, .int .i64 0]) := rfl
  have HV : Hid (updV zs = .agg (updCells zs)) := rfl
  clear hc hl hb
  generalize beN (zs.take 4) = a at *
  generalize zs.getD 4 0 = l at *
  generalize zs.getD 5 0 = d at *
  have HX4 := Lib.hid hx4
  have HX5 := Lib.hid hx5
  have HM : Hid (∀ x, Calls Try.prog 19 #[.agg #[.int .u32 a, .int .i64 l, .int .i64 d]] x fun e w' => e = .returned (.bool (isU zs)) ∧ Grow x w') := fun x => by
    have := rumay_any a l d x ⟨ha1, ha2⟩ (by omega)
    rw [HU.out]
    unfold mayU at this
    rwa [decide_eq_true (by omega : 0 ≤ d ∧ d ≤ 255), Bool.and_true] at this
  have HZ : Hid ((w.alloc (.cells #[.int .u32 0, .int .i64 0, .int .i64 0] 52)).heap[w.heap.size]? = some (.cells #[.int .u32 0, .int .i64 0, .int .i64 0] 52 (0, 0))) := heap_alloc_new w _
  have HW0 : Hid (Grow w (w.alloc (.cells #[.int .u32 0, .int .i64 0, .int .i64 0] 52))) := (Grow.refl w).alloc _
  clear hx4 hx5
  go_enter Try.func30, Try.ntmps30
  go_wp2_with fail
  refine wp_region_grow 15 [] NoBlock (fun _ => True) (by kernel_rfl) (by kernel_rfl) (by rfl) (fun _ _ _ _ => trivial) trivial ?_
  simp only [List.take_succ_cons, List.take_zero, List.drop_succ_cons, List.drop_zero]
  repeat (refine wpH_pure (by intro _ _ h; cases h) (by rfl) (by rfl) (fun K hK => ?_); go_simp; refine hK _ ?_; clear hK K)
  refine wpH_det (.int .u64 a) (by rfl) (fun xs => by rfl) (fun xs w' hg hf => ?_) ?_
  · clear hf
    have hh := HW0.out.trans hg.below
    go_simp
    refine (HG4.out _ hh).mono ?_
    rintro e w1 ⟨rfl, rfl⟩
    exact ⟨_, rfl, rfl, Below.refl _ _⟩
  repeat (refine wpH_pure (by intro _ _ h; cases h) (by rfl) (by rfl) (fun K hK => ?_); go_simp; refine hK _ ?_; clear hK K)
  refine wpH_det (.int .u8 l) (by rfl) (fun xs => by rfl) (fun xs w' hg hf => ?_) ?_
  · clear hf
    have hx := ((HW0.out.trans hg.below).cell (block_lt HX4.out)).trans HX4.out
    go_simp
    exact Below.refl _ _
  repeat (refine wpH_pure (by intro _ _ h; cases h) (by rfl) (by rfl) (fun K hK => ?_); go_simp; refine hK _ ?_; clear hK K)
  refine wpH_det (.int .u8 d) (by rfl) (fun xs => by rfl) (fun xs w' hg hf => ?_) ?_
  · clear hf
    have hx := ((HW0.out.trans hg.below).cell (block_lt HX5.out)).trans HX5.out
    go_simp
    exact Below.refl _ _
  repeat (refine wpH_pure (by intro _ _ h; cases h) (by rfl) (by rfl) (fun K hK => ?_); go_simp; refine hK _ ?_; clear hK K)
  refine wpH_hid (NewUpd w.heap.size) rfl (by rfl) (fun u x x' hg ⟨B, h1, h2, h3⟩ => ⟨B, h1, (hg.block B (lt_of_block h2) (fun h => h)).trans h2, h3⟩) (fun xs => by rfl) (fun xs w' hg hf => ?_) ?_
  · clear hf
    have hs := hg.size
    rw [World.size_alloc] at hs
    have hn := heap_alloc_new w' (.cells #[.int .u32 0, .int .i64 0, .int .i64 0] 52)
    have HN := Lib.hid hn
    have HS := Lib.hid hs
    clear hn hs hg
    go_simp
    exact ⟨⟨_, rfl, HN.out, by have := HS.out; omega⟩, (Below.refl _ _).alloc (Nat.le_refl _) _⟩
  refine wpH_nil ?_
  intro xs w2 hg hx1 hx2
  obtain ⟨B, hB, hB2, hB3⟩ := hx2 _ (List.Mem.head _)
  dsimp only at hB
  clear hx1 hx2
  have hz2 := (hg.below.block _ (lt_of_block HZ.out)).trans HZ.out
  have HW2 := Lib.hid (HW0.out.trans hg.below)
  obtain ⟨⟨b0, b1, b2⟩, e0, e1, e2⟩ := blk3 hB2
  have HB2 := Lib.hid hB2
  have HZ2 := Lib.hid hz2
  have HB3 := Lib.hid hB3
  have hne : w.heap.size ≠ B := by omega
  clear hg hB2 hz2
  simp only [fill]
  rw [hB]
  clear hB
  go_simp
  go_wp2_with fail
  refine (HM.out _).mono ?_
  rintro e w3 ⟨rfl, hg3⟩
  have hz3 := (hg3.block _ (lt_of_block ((far3 hne _ _ _).trans HZ2.out))).trans ((far3 hne _ _ _).trans HZ2.out)
  have hn3 := (hg3.block _ (lt_of_block (put3 HB2.out _ _ _))).trans (put3 HB2.out _ _ _)
  have HW3 := Lib.hid ((grow3 HW2.out (Nat.le_of_lt HB3.out) _ _ _).trans hg3)
  obtain ⟨⟨c0, c1, c2⟩, f0, f1, f2⟩ := blk3 hz3
  obtain ⟨⟨d0, d1, d2⟩, _, _, _⟩ := blk3 hn3
  clear hz3 hn3 hg3 HU b0 b1 b2 e0 e1 e2
  cases hu : isU zs
  · have HUx := Lib.hid hu
    clear hu
    go_wp2_with fail
    refine bodyPost_ret (v := .tuple #[updV zs, .bool false]) (by rw [HV.out, HUV.out, HUx.out]; simp [results, Try.results30, go_sem, c0, c1, c2]) rfl ⟨by rw [HUx.out], ?_⟩
    exact grow3 HW3.out (Nat.le_refl _) _ _ _
  · have HUx := Lib.hid hu
    clear hu
    go_wp2_with fail
    refine bodyPost_ret (v := .tuple #[updV zs, .bool true]) (by rw [HV.out, HUV.out, HUx.out]; simp [results, Try.results30, go_sem, c0, c1, c2]) rfl ⟨by rw [HUx.out], ?_⟩
    exact grow3 HW3.out (Nat.le_refl _) _ _ _

theorem rof_any (v : Value) (zs : List Int) (w : World) (hv : BytesV w v zs) : Calls Try.prog 30 #[v] w (SomeUpdB zs w) := by
  by_cases hl : zs.length = 6
  · obtain ⟨b, off, cap, rfl, h1, h2⟩ := hv.2.solid (fun e => by rw [e] at hl; simp at hl)
    have hc := hv.2.cells
    have h := rof_six b off cap zs w hv.1 hc hl (by omega) h2
    rwa [← hl] at h
  · exact rof_short v zs w hv hl
end Go.Proofs.Ytiphhjipgjpepaa
