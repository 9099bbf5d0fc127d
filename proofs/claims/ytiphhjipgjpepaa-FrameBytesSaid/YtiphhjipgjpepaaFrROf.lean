/- Which bytes are which frame, as the document has it. -/
import Derived.Test.YtiphhjipgjpepaaFrOf3
import Derived.Test.YtiphhjipgjpepaaFrRBytes
import Derived.Test.YtiphhjipgjpepaaDrawnMore
set_option linter.unusedVariables false
set_option linter.unusedSimpArgs false
namespace Go.Proofs.Ytiphhjipgjpepaa
open Go.RowKit

def SomeROf (zs : List Int) (w : World) (e : Ending) (w' : World) : Prop :=
  (okF zs ∧ ∃ u, e = .returned (.tuple #[(ofF zs u).val, .bool true]) ∧ BytesV w' u (zs.drop 54) ∧ Grow w w') ∨ (¬ okF zs ∧ e = .returned (.tuple #[.agg zeroCells, .bool false]) ∧ Grow w w')

set_option maxHeartbeats 1000000 in
theorem rfof_short (v : Value) (zs : List Int) (w : World) (hv : BytesV w v zs) (hl : zs.length < 54) : Calls Try.prog 15 #[v] w (SomeROf zs w) := by
  obtain ⟨ao, cap, rfl, h1, h2⟩ := hv.shape
  have HS : Hid (∀ w', Grow w w' → SomeROf zs w (.returned (.tuple #[.agg zeroCells, .bool false])) w') := fun w' h => Or.inr ⟨fun hh => by have := hh.1; omega, rfl, h⟩
  have HZ : Hid (zeroCells = #[.int .i64 0, .int .i64 0, .int .u64 0, .int .u64 0, .int .u64 0, .int .u64 0, .int .u64 0, .int .u64 0, .slice none 0 0]) := rfl
  have hl' : (zs.length : Int) < 54 := by omega
  clear hv hl
  unfold maxLen at h2
  generalize zs.length = m at *
  go_enter Try.func15, Try.ntmps15
  go_wp2_with fail
  refine bodyPost_ret (v := .tuple #[.agg zeroCells, .bool false]) (by rw [HZ.out]; simp [results, Try.results15, go_sem]) rfl (HS.out _ ?_)
  exact (Grow.refl w).alloc _

theorem vb_set {w w' : World} {B : Nat} {T : TypeId} {v : Value} {zs : List Int} {cs : Array Value} (h : BytesV w v zs) (hB : w.heap[B]? = some (.cells cs T (0, 0))) (hT : T ≠ 5) (hw : ∀ k, k ≠ B → w'.heap[k]? = w.heap[k]?) (hn : ∀ b off n c, v = .slice (some ⟨b, off, none⟩) n c → b ≠ B) : BytesV w' v zs := by
  refine ⟨h.1, ?_⟩
  rcases h.2 with ⟨rfl, ao, c, rfl, h1, h2⟩ | ⟨b, off, c, rfl, h1, h2, h3⟩
  · exact Or.inl ⟨rfl, ao, c, rfl, h1, h2⟩
  · refine Or.inr ⟨b, off, c, rfl, h1, h2, fun i hi => ?_⟩
    have e := h3 i hi
    unfold World.cell? at e ⊢
    rw [hw b (hn b off _ c rfl)]
    exact e

set_option maxRecDepth 100000 in
set_option maxHeartbeats 4000000 in
theorem rfof_long {b off cap m : Nat} {zs : List Int} {w : World} (hv : BytesV w (.slice (some ⟨b, off, none⟩) m cap) zs) (h54 : 54 ≤ m) (hm2 : m ≤ 5000) (hne : ¬ cap = 54) : Calls Try.prog 15 #[.slice (some ⟨b, off, none⟩) m cap] w (SomeROf zs w) := by
  have hl : zs.length = m := by
    obtain ⟨_, _, e, _, _⟩ := hv.shape
    injection e with _ e _
    exact e.symm
  have hlc : m ≤ cap := by
    obtain ⟨_, _, e, h, _⟩ := hv.shape
    injection e with _ e1 e2
    rw [e1, e2]; exact h
  have hcm : cap ≤ maxLen := by
    obtain ⟨_, _, e, _, h⟩ := hv.shape
    injection e with _ e1 e2
    rw [e2]; exact h
  obtain ⟨tl, htl⟩ : ∃ l, zs.drop 54 = l := ⟨_, rfl⟩
  have HTL := Lib.hid htl
  have hvc := hv.2.cells
  have HV := Lib.hid hv
  have HLen := Lib.hid hl
  have HGet : Hid (∀ (a : Nat) (x : World), Grow w x → a + 8 ≤ m → Calls Try.prog 38 #[.slice (some ⟨b, off + a, none⟩) 8 (cap - a)] x fun e w' => e = .returned (.int .u64 (num8 zs a)) ∧ x = w') := fun a x hx ha => by
    have hs := bytes_sub (hv.mono hx) a (a + 8) (by omega) (by omega)
    rw [show a + 8 - a = 8 from by omega] at hs
    have hl8 : ((zs.drop a).take 8).length = 8 := by rw [List.length_take, List.length_drop]; omega
    exact rgetL b (off + a) (cap - a) 8 _ x hs.1 hs.2.cells hl8 (by omega) (by omega) (by unfold maxLen at *; omega)
  obtain ⟨z0, hz0'⟩ : ∃ x, zs.getD 0 0 = x := ⟨_, rfl⟩
  obtain ⟨z1, hz1'⟩ : ∃ x, zs.getD 1 0 = x := ⟨_, rfl⟩
  have hz0 : Hid (w.cell? ⟨b, off, none⟩ = some (.int .u8 z0)) := by
    have := hvc 0 (by omega)
    rw [hz0'] at this
    exact this
  have hz1 : Hid (w.cell? ⟨b, off + 1, none⟩ = some (.int .u8 z1)) := by
    have := hvc 1 (by omega)
    rw [hz1'] at this
    exact this
  have hzb0 := hv.1.getD 0
  have hzb1 := hv.1.getD 1
  rw [hz0'] at hzb0
  rw [hz1'] at hzb1
  have hw0 : IntKind.i64.wrap z0 = z0 := IntWalk.i64_in _ (by omega)
  have hw1 : IntKind.i64.wrap z1 = z1 := IntWalk.i64_in _ (by omega)
  obtain ⟨n2, hn2⟩ : ∃ x, num8 zs 2 = x := ⟨_, rfl⟩
  have Hn2 := Lib.hid hn2
  obtain ⟨n10, hn10⟩ : ∃ x, num8 zs 10 = x := ⟨_, rfl⟩
  have Hn10 := Lib.hid hn10
  obtain ⟨n18, hn18⟩ : ∃ x, num8 zs 18 = x := ⟨_, rfl⟩
  have Hn18 := Lib.hid hn18
  obtain ⟨n26, hn26⟩ : ∃ x, num8 zs 26 = x := ⟨_, rfl⟩
  have Hn26 := Lib.hid hn26
  obtain ⟨n34, hn34⟩ : ∃ x, num8 zs 34 = x := ⟨_, rfl⟩
  have Hn34 := Lib.hid hn34
  obtain ⟨n42, hn42⟩ : ∃ x, num8 zs 42 = x := ⟨_, rfl⟩
  have Hn42 := Lib.hid hn42
  have HOF : Hid (∀ v, ofF zs v = ⟨z0, z1, n2, n10, n18, n26, n34, n42, v, tl⟩) := fun v => by rw [← htl, ← hz0', ← hz1', ← hn2, ← hn10, ← hn18, ← hn26, ← hn34, ← hn42]; rfl
  have HVB : Hid (BytesV w (.slice (some ⟨b, off + 54, none⟩) (m - 54) (cap - 54)) tl) := by
    rw [← htl]
    have hs := bytes_sub hv 54 m (by omega) (by omega)
    rwa [List.take_of_length_le (by rw [List.length_drop]; omega)] at hs
  have j1 : 0 < m := by omega
  have j2 : 1 < m := by omega
  have i1 : (0 : Int) < (m : Int) := by omega
  have i2 : (1 : Int) < (m : Int) := by omega
  have i3 : (54 : Int) ≤ (m : Int) := by omega
  have i4 : (m : Int) ≤ (cap : Int) := by omega
  have e2 : ¬ cap = 2 := by omega
  have k2 : (10 : Int) ≤ (cap : Int) := by omega
  have e10 : ¬ cap = 10 := by omega
  have k10 : (18 : Int) ≤ (cap : Int) := by omega
  have e18 : ¬ cap = 18 := by omega
  have k18 : (26 : Int) ≤ (cap : Int) := by omega
  have e26 : ¬ cap = 26 := by omega
  have k26 : (34 : Int) ≤ (cap : Int) := by omega
  have e34 : ¬ cap = 34 := by omega
  have k34 : (42 : Int) ≤ (cap : Int) := by omega
  have e42 : ¬ cap = 42 := by omega
  have k42 : (50 : Int) ≤ (cap : Int) := by omega
  have k54 : (54 : Int) ≤ (cap : Int) := by omega
  unfold maxLen at hcm
  have hZZ := heap_alloc_new w (.cells #[.int .i64 0, .int .i64 0, .int .u64 0, .int .u64 0, .int .u64 0, .int .u64 0, .int .u64 0, .int .u64 0, .slice none 0 0] 28)
  have HW0 : Hid (Grow w (w.alloc (.cells #[.int .i64 0, .int .i64 0, .int .u64 0, .int .u64 0, .int .u64 0, .int .u64 0, .int .u64 0, .int .u64 0, .slice none 0 0] 28))) := (Grow.refl w).alloc _
  generalize hwX : w.alloc (.cells #[.int .i64 0, .int .i64 0, .int .u64 0, .int .u64 0, .int .u64 0, .int .u64 0, .int .u64 0, .int .u64 0, .slice none 0 0] 28) = wX at *
  have HXX := Lib.hid hwX
  have HZ := Lib.hid hZZ
  clear hv hvc hz0' hz1' hn2 hn10 hn18 hn26 hn34 hn42 hl htl hwX hZZ
  go_enter Try.func15, Try.ntmps15
  go_wp2_with fail
  rw [HXX.out]
  clear HXX
  refine wp_region_grow 32 [] NoBlock (fun _ => True) (by kernel_rfl) (by kernel_rfl) (by rfl) (fun _ _ _ _ => trivial) trivial ?_
  simp only [List.take_succ_cons, List.take_zero, List.drop_succ_cons, List.drop_zero]
  repeat (refine wpH_pure (by intro _ _ h; cases h) (by rfl) (by rfl) (fun K hK => ?_); go_simp; refine hK _ ?_; clear hK K)
  refine wpH_det' (.int .u8 z0) (by intro _ _ h; cases h) (by rfl) (by rfl) (by rfl) (fun w' hg => ?_) ?_
  · have hx := ((HW0.out.trans hg.below).cell (block_lt hz0.out)).trans hz0.out
    clear hg
    go_simp
    exact Below.refl _ _
  try go_simp
  repeat (refine wpH_pure (by intro _ _ h; cases h) (by rfl) (by rfl) (fun K hK => ?_); go_simp; refine hK _ ?_; clear hK K)
  refine wpH_det' (.int .u8 z1) (by intro _ _ h; cases h) (by rfl) (by rfl) (by rfl) (fun w' hg => ?_) ?_
  · have hx := ((HW0.out.trans hg.below).cell (block_lt hz1.out)).trans hz1.out
    clear hg
    go_simp
    exact Below.refl _ _
  try go_simp
  repeat (refine wpH_pure (by intro _ _ h; cases h) (by rfl) (by rfl) (fun K hK => ?_); go_simp; refine hK _ ?_; clear hK K)
  refine wpH_det' (.int .u64 n2) (by intro _ _ h; cases h) (by rfl) (by rfl) (by rfl) (fun w' hg => ?_) ?_
  · have h := HGet.out 2 w' (HW0.out.trans hg.below) (by omega)
    rw [Hn2.out] at h
    clear hg
    go_simp
    with_reducible refine h.mono ?_
    rintro e w1 ⟨rfl, rfl⟩
    exact ⟨_, rfl, rfl, Below.refl _ _⟩
  try go_simp
  repeat (refine wpH_pure (by intro _ _ h; cases h) (by rfl) (by rfl) (fun K hK => ?_); go_simp; refine hK _ ?_; clear hK K)
  refine wpH_det' (.int .u64 n10) (by intro _ _ h; cases h) (by rfl) (by rfl) (by rfl) (fun w' hg => ?_) ?_
  · have h := HGet.out 10 w' (HW0.out.trans hg.below) (by omega)
    rw [Hn10.out] at h
    clear hg
    go_simp
    with_reducible refine h.mono ?_
    rintro e w1 ⟨rfl, rfl⟩
    exact ⟨_, rfl, rfl, Below.refl _ _⟩
  try go_simp
  repeat (refine wpH_pure (by intro _ _ h; cases h) (by rfl) (by rfl) (fun K hK => ?_); go_simp; refine hK _ ?_; clear hK K)
  refine wpH_det' (.int .u64 n18) (by intro _ _ h; cases h) (by rfl) (by rfl) (by rfl) (fun w' hg => ?_) ?_
  · have h := HGet.out 18 w' (HW0.out.trans hg.below) (by omega)
    rw [Hn18.out] at h
    clear hg
    go_simp
    with_reducible refine h.mono ?_
    rintro e w1 ⟨rfl, rfl⟩
    exact ⟨_, rfl, rfl, Below.refl _ _⟩
  try go_simp
  repeat (refine wpH_pure (by intro _ _ h; cases h) (by rfl) (by rfl) (fun K hK => ?_); go_simp; refine hK _ ?_; clear hK K)
  refine wpH_det' (.int .u64 n26) (by intro _ _ h; cases h) (by rfl) (by rfl) (by rfl) (fun w' hg => ?_) ?_
  · have h := HGet.out 26 w' (HW0.out.trans hg.below) (by omega)
    rw [Hn26.out] at h
    clear hg
    go_simp
    with_reducible refine h.mono ?_
    rintro e w1 ⟨rfl, rfl⟩
    exact ⟨_, rfl, rfl, Below.refl _ _⟩
  try go_simp
  repeat (refine wpH_pure (by intro _ _ h; cases h) (by rfl) (by rfl) (fun K hK => ?_); go_simp; refine hK _ ?_; clear hK K)
  refine wpH_det' (.int .u64 n34) (by intro _ _ h; cases h) (by rfl) (by rfl) (by rfl) (fun w' hg => ?_) ?_
  · have h := HGet.out 34 w' (HW0.out.trans hg.below) (by omega)
    rw [Hn34.out] at h
    clear hg
    go_simp
    with_reducible refine h.mono ?_
    rintro e w1 ⟨rfl, rfl⟩
    exact ⟨_, rfl, rfl, Below.refl _ _⟩
  try go_simp
  repeat (refine wpH_pure (by intro _ _ h; cases h) (by rfl) (by rfl) (fun K hK => ?_); go_simp; refine hK _ ?_; clear hK K)
  refine wpH_det' (.int .u64 n42) (by intro _ _ h; cases h) (by rfl) (by rfl) (by rfl) (fun w' hg => ?_) ?_
  · have h := HGet.out 42 w' (HW0.out.trans hg.below) (by omega)
    rw [Hn42.out] at h
    clear hg
    go_simp
    with_reducible refine h.mono ?_
    rintro e w1 ⟨rfl, rfl⟩
    exact ⟨_, rfl, rfl, Below.refl _ _⟩
  try go_simp
  repeat (refine wpH_pure (by intro _ _ h; cases h) (by rfl) (by rfl) (fun K hK => ?_); go_simp; refine hK _ ?_; clear hK K)
  refine wpH_hid' (NewFr wX.heap.size) (by intro _ _ h; cases h) rfl (by rfl) (fun u x x' hg ⟨B, h1, h2, h3⟩ => ⟨B, h1, (hg.block B (lt_of_block h2) (fun h => h)).trans h2, h3⟩) (by rfl) (by rfl) (fun w' hg => ?_) ?_
  · have hs := hg.size
    have hn := heap_alloc_new w' (.cells #[.int .i64 0, .int .i64 0, .int .u64 0, .int .u64 0, .int .u64 0, .int .u64 0, .int .u64 0, .int .u64 0, .slice none 0 0] 28)
    have HN := Lib.hid hn
    have HS := Lib.hid hs
    clear hn hs hg
    go_simp
    exact ⟨⟨_, rfl, HN.out, HS.out⟩, (Below.refl _ _).alloc (Nat.le_refl _) _⟩
  refine wpH_nil ?_
  intro xs w2 hg hx1 hx2
  obtain ⟨B, hB, hB2, hB3⟩ := hx2 _ _ (List.Mem.head _)
  try dsimp only at hB
  clear hx1 hx2
  have HG2 := Lib.hid (HW0.out.trans hg.below)
  have HZ2 := Lib.hid ((hg.below.block _ (lt_of_block HZ.out)).trans HZ.out)
  obtain ⟨q1, q2⟩ := blkFz hB2
  obtain ⟨⟨q3, q4, q5, q6, q7⟩, q8, q9, q10, q11⟩ := And.intro q1 q2
  have HB2 := Lib.hid hB2
  have HB3 := Lib.hid hB3
  have HBne : Hid (w.heap.size ≠ B) := by have := lt_of_block HZ.out; show _ ≠ _; omega
  simp only [fill]
  generalize hx4 : xs 4 = y4 at *
  subst hB
  clear hg hB2 hB3 hx4
  obtain ⟨⟨p0, p1, p2, p3, p4⟩, p5, p6, p7, p8⟩ := blkF HB2.out
  go_simp
  go_wp2_with fail
  generalize hw4 : (((((((((w2.setCell ⟨B, 0, none⟩ (.int .i64 z0)).setCell ⟨B, 1, none⟩ (.int .i64 z1)).setCell ⟨B, 2, none⟩ (.int .u64 n2)).setCell ⟨B, 3, none⟩ (.int .u64 n10)).setCell ⟨B, 4, none⟩ (.int .u64 n18)).setCell ⟨B, 5, none⟩ (.int .u64 n26)).setCell ⟨B, 6, none⟩ (.int .u64 n34)).setCell ⟨B, 7, none⟩ (.int .u64 n42)).setCell ⟨B, 8, none⟩ (.slice (some ⟨b, off + 54, none⟩) (m - 54) (cap - 54))) = w4
  have HB4 : Hid (w4.heap[B]? = some (.cells #[.int .i64 z0, .int .i64 z1, .int .u64 n2, .int .u64 n10, .int .u64 n18, .int .u64 n26, .int .u64 n34, .int .u64 n42, .slice (some ⟨b, off + 54, none⟩) (m - 54) (cap - 54)] 28 (0, 0))) := by rw [← hw4]; exact put9 HB2.out _ _ _ _ _ _ _ _ _
  have HZ4 : Hid (w4.heap[w.heap.size]? = some (.cells #[.int .i64 0, .int .i64 0, .int .u64 0, .int .u64 0, .int .u64 0, .int .u64 0, .int .u64 0, .int .u64 0, .slice none 0 0] 28 (0, 0))) := by rw [← hw4]; exact (far9 HBne.out _ _ _ _ _ _ _ _ _).trans HZ2.out
  have HG4 : Hid (Grow w w4) := by rw [← hw4]; exact grow9 HG2.out (by have := HB3.out; have := HW0.out.size; omega) _ _ _ _ _ _ _ _ _
  have HV4 : Hid (BytesV w4 (.slice (some ⟨b, off, none⟩) m cap) zs) := HV.out.mono HG4.out
  have HVB4 : Hid (BytesV w4 (.slice (some ⟨b, off + 54, none⟩) (m - 54) (cap - 54)) tl) := HVB.out.mono HG4.out
  have hok4 : FrOk w4 (ofF zs (.slice (some ⟨b, off + 54, none⟩) (m - 54) (cap - 54))) := of_ok HV.out.1 (by rw [HTL.out]; exact HVB4.out.2)
  have HVal4 : Hid ((ofF zs (.slice (some ⟨b, off + 54, none⟩) (m - 54) (cap - 54))).val = .agg #[.int .i64 z0, .int .i64 z1, .int .u64 n2, .int .u64 n10, .int .u64 n18, .int .u64 n26, .int .u64 n34, .int .u64 n42, .slice (some ⟨b, off + 54, none⟩) (m - 54) (cap - 54)]) := by show _ = _; rw [HOF.out]; rfl
  have HMay : Hid (∀ x, Grow w4 x → Calls Try.prog 11 #[.agg #[.int .i64 z0, .int .i64 z1, .int .u64 n2, .int .u64 n10, .int .u64 n18, .int .u64 n26, .int .u64 n34, .int .u64 n42, .slice (some ⟨b, off + 54, none⟩) (m - 54) (cap - 54)]] x fun e w' => e = .returned (.bool (mayF (ofF zs (.slice (some ⟨b, off + 54, none⟩) (m - 54) (cap - 54))))) ∧ Grow x w') := fun x hx => by
    have := rmay_any _ x (hok4.mono hx)
    rwa [HVal4.out] at this
  have HFOk := Lib.hid hok4
  have HZC : Hid (zeroCells = #[.int .i64 0, .int .i64 0, .int .u64 0, .int .u64 0, .int .u64 0, .int .u64 0, .int .u64 0, .int .u64 0, .slice none 0 0]) := rfl
  clear hw4 p0 p1 p2 p3 p4 p5 p6 p7 p8 q1 q2 q3 q4 q5 q6 q7 q8 q9 q10 q11 hok4
  cases hmb : mayF (ofF zs (.slice (some ⟨b, off + 54, none⟩) (m - 54) (cap - 54)))
  · have HMB := Lib.hid hmb
    have HNo : Hid (¬ okF zs) := fun h => by
      have h2 : mayF (ofF zs (.slice (some ⟨b, off + 54, none⟩) (m - 54) (cap - 54))) = true := h.2.1
      rw [HMB.out] at h2; cases h2
    clear hmb
    refine wp_region_grow 11 [] NoBlock (fun _ => True) (by kernel_rfl) (by kernel_rfl) (by rfl) (fun _ _ _ _ => trivial) trivial ?_
    simp only [List.take_succ_cons, List.take_zero, List.drop_succ_cons, List.drop_zero]
    refine wpH_det' (.agg #[.int .i64 z0, .int .i64 z1, .int .u64 n2, .int .u64 n10, .int .u64 n18, .int .u64 n26, .int .u64 n34, .int .u64 n42, .slice (some ⟨b, off + 54, none⟩) (m - 54) (cap - 54)]) (by intro _ _ h; cases h) (by rfl) (by rfl) (by rfl) (fun w' hg => ?_) ?_
    · obtain ⟨⟨r0, r1, r2, r3, r4⟩, r5, r6, r7, r8⟩ := blkF ((hg.below.block _ (lt_of_block HB4.out)).trans HB4.out)
      clear hg
      go_simp
      exact Below.refl _ _
    try go_simp
    refine wpH_det' (.bool false) (by intro _ _ h; cases h) (by rfl) (by rfl) (by rfl) (fun w' hg => ?_) ?_
    · have h := HMay.out w' hg.below
      rw [HMB.out] at h
      clear hg
      go_simp
      with_reducible refine h.mono ?_
      rintro e w1 ⟨rfl, hg1⟩
      exact ⟨_, rfl, rfl, hg1⟩
    try go_simp
    repeat (refine wpH_pure (by intro _ _ h; cases h) (by rfl) (by rfl) (fun K hK => ?_); go_simp; refine hK _ ?_; clear hK K)
    refine wpH_nil ?_
    intro xs w5 hg hx1 hx2
    have HG5 := Lib.hid (HG4.out.trans hg.below)
    have hz5 := (hg.below.block _ (lt_of_block HZ4.out)).trans HZ4.out
    clear hx1 hx2 hg
    obtain ⟨⟨s0, s1', s2, s3, s4⟩, s5, s6, s7, s8⟩ := blkF hz5
    obtain ⟨⟨f0, f1, f2, f3, f4⟩, f5, f6, f7, f8⟩ := blkFz hz5
    clear hz5
    simp only [fill]
    try generalize xs 45 = y45
    go_simp
    go_wp2_with fail
    refine bodyPost_ret (v := .tuple #[.agg zeroCells, .bool false]) (by rw [HZC.out]; simp [results, Try.results15, go_sem, s0, s1', s2, s3, s4, s5, s6, s7, s8]) rfl (Or.inr ⟨HNo.out, rfl, ?_⟩)
    exact grow9 HG5.out (Nat.le_refl _) _ _ _ _ _ _ _ _ _
  · have HMB := Lib.hid hmb
    have hlb := may_len hmb
    have HFb : Hid (∀ x, Grow w4 x → Calls Try.prog 12 #[.agg #[.int .i64 z0, .int .i64 z1, .int .u64 n2, .int .u64 n10, .int .u64 n18, .int .u64 n26, .int .u64 n34, .int .u64 n42, .slice (some ⟨b, off + 54, none⟩) (m - 54) (cap - 54)]] x fun e w' => ∃ u, e = .returned u ∧ NewBytes x (frB (ofF zs (.slice (some ⟨b, off + 54, none⟩) (m - 54) (cap - 54)))) u w') := fun x hx => by
      have := rfbytes_any _ x (HFOk.out.mono hx) hlb
      rwa [HVal4.out] at this
    have HIff : Hid (okF zs ↔ frB (ofF zs (.slice (some ⟨b, off + 54, none⟩) (m - 54) (cap - 54))) = zs) := ⟨fun h => h.2.2, fun h => ⟨by rw [HLen.out]; exact h54, HMB.out, h⟩⟩
    have HFBy : Hid (Bytes (frB (ofF zs (.slice (some ⟨b, off + 54, none⟩) (m - 54) (cap - 54))))) := frB_bytes _ (by rw [HOF.out]; exact HVB.out.1)
    clear hmb hlb
    obtain ⟨fb, hfb⟩ : ∃ l, frB (ofF zs (.slice (some ⟨b, off + 54, none⟩) (m - 54) (cap - 54))) = l := ⟨_, rfl⟩
    rw [hfb] at HFb HIff HFBy
    clear hfb
    by_cases hq : fb = zs
    · have HYes : Hid (okF zs) := HIff.out.2 hq
      have hse : ((strOfNums fb).toList == (strOfNums zs).toList) = true := by rw [hq]; exact beq_self_eq_true _
      clear hq
      refine wp_region_grow 11 [] NoBlock (fun _ => True) (by kernel_rfl) (by kernel_rfl) (by rfl) (fun _ _ _ _ => trivial) trivial ?_
      simp only [List.take_succ_cons, List.take_zero, List.drop_succ_cons, List.drop_zero]
      refine wpH_det' (.agg #[.int .i64 z0, .int .i64 z1, .int .u64 n2, .int .u64 n10, .int .u64 n18, .int .u64 n26, .int .u64 n34, .int .u64 n42, .slice (some ⟨b, off + 54, none⟩) (m - 54) (cap - 54)]) (by intro _ _ h; cases h) (by rfl) (by rfl) (by rfl) (fun w' hg => ?_) ?_
      · obtain ⟨⟨r0, r1, r2, r3, r4⟩, r5, r6, r7, r8⟩ := blkF ((hg.below.block _ (lt_of_block HB4.out)).trans HB4.out)
        clear hg
        go_simp
        exact Below.refl _ _
      try go_simp
      refine wpH_det' (.bool true) (by intro _ _ h; cases h) (by rfl) (by rfl) (by rfl) (fun w' hg => ?_) ?_
      · have h := HMay.out w' hg.below
        rw [HMB.out] at h
        clear hg
        go_simp
        with_reducible refine h.mono ?_
        rintro e w1 ⟨rfl, hg1⟩
        exact ⟨_, rfl, rfl, hg1⟩
      try go_simp
      repeat (refine wpH_pure (by intro _ _ h; cases h) (by rfl) (by rfl) (fun K hK => ?_); go_simp; refine hK _ ?_; clear hK K)
      refine wpH_det' (.agg #[.int .i64 z0, .int .i64 z1, .int .u64 n2, .int .u64 n10, .int .u64 n18, .int .u64 n26, .int .u64 n34, .int .u64 n42, .slice (some ⟨b, off + 54, none⟩) (m - 54) (cap - 54)]) (by intro _ _ h; cases h) (by rfl) (by rfl) (by rfl) (fun w' hg => ?_) ?_
      · obtain ⟨⟨r0, r1, r2, r3, r4⟩, r5, r6, r7, r8⟩ := blkF ((hg.below.block _ (lt_of_block HB4.out)).trans HB4.out)
        clear hg
        go_simp
        exact Below.refl _ _
      try go_simp
      refine wpH_hid' (OwnB w4.heap.size fb) (by intro _ _ h; cases h) rfl (by rfl) (fun u x x' hg h => own_grow h hg.below) (by rfl) (by rfl) (fun w' hg => ?_) ?_
      · have h := HFb.out w' hg.below
        have hs := Lib.hid hg.below.size
        clear hg
        go_simp
        with_reducible refine h.mono ?_
        rintro e w1 ⟨u, rfl, hn⟩
        exact ⟨u, rfl, own_base hn.1 hs.out, hn.2⟩
      try go_simp
      refine wpH_det (.string (strOfNums fb)) (by rfl) (fun xs => by rfl) (fun xs w' hg hf => ?_) ?_
      · have h1 := hf _ (List.Mem.head _) (by rfl)
        try dsimp only at h1
        clear hf
        have hc := str_of (w := w') (v := xs 45) (zs := fb) ⟨HFBy.out, ints_of_owns h1⟩
        clear hg h1
        simp only [fill]
        generalize xs 45 = y45 at *
        generalize strOfNums fb = s1 at *
        go_simp
        exact Below.refl _ _
      try go_simp
      repeat (refine wpH_pure (by intro _ _ h; cases h) (by rfl) (by rfl) (fun K hK => ?_); go_simp; refine hK _ ?_; clear hK K)
      refine wpH_det' (.string (strOfNums zs)) (by intro _ _ h; cases h) (by rfl) (by rfl) (by rfl) (fun w' hg => ?_) ?_
      · have hc := str_of (HV4.out.mono hg.below)
        clear hg
        generalize strOfNums zs = s1 at *
        go_simp
        exact Below.refl _ _
      try go_simp
      generalize strOfNums fb = sf at *
      generalize strOfNums zs = sz at *
      repeat (refine wpH_pure (by intro _ _ h; cases h) (by rfl) (by rfl) (fun K hK => ?_); go_simp; refine hK _ ?_; clear hK K)
      refine wpH_nil ?_
      intro xs w5 hg hx1 hx2
      have HG5 := Lib.hid (HG4.out.trans hg.below)
      have hz5 := (hg.below.block _ (lt_of_block HZ4.out)).trans HZ4.out
      have hf5 := (hg.below.block _ (lt_of_block HB4.out)).trans HB4.out
      have HVB5 := Lib.hid (HVB4.out.mono hg.below)
      clear hx1 hx2 hg
      obtain ⟨⟨s0, s1', s2, s3, s4⟩, s5, s6, s7, s8⟩ := blkF hz5
      obtain ⟨⟨f0, f1, f2, f3, f4⟩, f5, f6, f7, f8⟩ := blkFz hz5
      obtain ⟨⟨r0, r1, r2, r3, r4⟩, r5, r6, r7, r8⟩ := blkF hf5
      have HZ5 := Lib.hid hz5
      clear hz5 hf5
      simp only [fill]
      try generalize xs 45 = y45
      go_simp
      go_wp2_with fail
      refine bodyPost_ret (v := .tuple #[.agg #[.int .i64 z0, .int .i64 z1, .int .u64 n2, .int .u64 n10, .int .u64 n18, .int .u64 n26, .int .u64 n34, .int .u64 n42, .slice (some ⟨b, off + 54, none⟩) (m - 54) (cap - 54)], .bool true]) (by simp [results, Try.results15, go_sem, s0, s1', s2, s3, s4, s5, s6, s7, s8]) rfl (Or.inl ⟨HYes.out, .slice (some ⟨b, off + 54, none⟩) (m - 54) (cap - 54), by rw [HVal4.out], ?_, ?_⟩)
      · rw [HTL.out]
        exact vb_set HVB5.out HZ5.out (by decide) (fun k hk => far9 hk _ _ _ _ _ _ _ _ _) (fun b1 o1 n1 c1 e => by
          injection e with e _ _
          injection e with e
          injection e with e _
          subst e
          exact Nat.ne_of_lt (block_lt hz0.out))
      · exact grow9 HG5.out (Nat.le_refl _) _ _ _ _ _ _ _ _ _
    · have HNo : Hid (¬ okF zs) := fun h => hq (HIff.out.1 h)
      have hse : ((strOfNums fb).toList == (strOfNums zs).toList) = false := beq_eq_false_iff_ne.2 (fun e => hq (str_inj HFBy.out HV.out.1 (by rw [Lib.toList_data, Lib.toList_data] at e; exact ByteArray.ext (Array.toList_inj.1 e))))
      clear hq
      refine wp_region_grow 11 [] NoBlock (fun _ => True) (by kernel_rfl) (by kernel_rfl) (by rfl) (fun _ _ _ _ => trivial) trivial ?_
      simp only [List.take_succ_cons, List.take_zero, List.drop_succ_cons, List.drop_zero]
      refine wpH_det' (.agg #[.int .i64 z0, .int .i64 z1, .int .u64 n2, .int .u64 n10, .int .u64 n18, .int .u64 n26, .int .u64 n34, .int .u64 n42, .slice (some ⟨b, off + 54, none⟩) (m - 54) (cap - 54)]) (by intro _ _ h; cases h) (by rfl) (by rfl) (by rfl) (fun w' hg => ?_) ?_
      · obtain ⟨⟨r0, r1, r2, r3, r4⟩, r5, r6, r7, r8⟩ := blkF ((hg.below.block _ (lt_of_block HB4.out)).trans HB4.out)
        clear hg
        go_simp
        exact Below.refl _ _
      try go_simp
      refine wpH_det' (.bool true) (by intro _ _ h; cases h) (by rfl) (by rfl) (by rfl) (fun w' hg => ?_) ?_
      · have h := HMay.out w' hg.below
        rw [HMB.out] at h
        clear hg
        go_simp
        with_reducible refine h.mono ?_
        rintro e w1 ⟨rfl, hg1⟩
        exact ⟨_, rfl, rfl, hg1⟩
      try go_simp
      repeat (refine wpH_pure (by intro _ _ h; cases h) (by rfl) (by rfl) (fun K hK => ?_); go_simp; refine hK _ ?_; clear hK K)
      refine wpH_det' (.agg #[.int .i64 z0, .int .i64 z1, .int .u64 n2, .int .u64 n10, .int .u64 n18, .int .u64 n26, .int .u64 n34, .int .u64 n42, .slice (some ⟨b, off + 54, none⟩) (m - 54) (cap - 54)]) (by intro _ _ h; cases h) (by rfl) (by rfl) (by rfl) (fun w' hg => ?_) ?_
      · obtain ⟨⟨r0, r1, r2, r3, r4⟩, r5, r6, r7, r8⟩ := blkF ((hg.below.block _ (lt_of_block HB4.out)).trans HB4.out)
        clear hg
        go_simp
        exact Below.refl _ _
      try go_simp
      refine wpH_hid' (OwnB w4.heap.size fb) (by intro _ _ h; cases h) rfl (by rfl) (fun u x x' hg h => own_grow h hg.below) (by rfl) (by rfl) (fun w' hg => ?_) ?_
      · have h := HFb.out w' hg.below
        have hs := Lib.hid hg.below.size
        clear hg
        go_simp
        with_reducible refine h.mono ?_
        rintro e w1 ⟨u, rfl, hn⟩
        exact ⟨u, rfl, own_base hn.1 hs.out, hn.2⟩
      try go_simp
      refine wpH_det (.string (strOfNums fb)) (by rfl) (fun xs => by rfl) (fun xs w' hg hf => ?_) ?_
      · have h1 := hf _ (List.Mem.head _) (by rfl)
        try dsimp only at h1
        clear hf
        have hc := str_of (w := w') (v := xs 45) (zs := fb) ⟨HFBy.out, ints_of_owns h1⟩
        clear hg h1
        simp only [fill]
        generalize xs 45 = y45 at *
        generalize strOfNums fb = s1 at *
        go_simp
        exact Below.refl _ _
      try go_simp
      repeat (refine wpH_pure (by intro _ _ h; cases h) (by rfl) (by rfl) (fun K hK => ?_); go_simp; refine hK _ ?_; clear hK K)
      refine wpH_det' (.string (strOfNums zs)) (by intro _ _ h; cases h) (by rfl) (by rfl) (by rfl) (fun w' hg => ?_) ?_
      · have hc := str_of (HV4.out.mono hg.below)
        clear hg
        generalize strOfNums zs = s1 at *
        go_simp
        exact Below.refl _ _
      try go_simp
      generalize strOfNums fb = sf at *
      generalize strOfNums zs = sz at *
      repeat (refine wpH_pure (by intro _ _ h; cases h) (by rfl) (by rfl) (fun K hK => ?_); go_simp; refine hK _ ?_; clear hK K)
      refine wpH_nil ?_
      intro xs w5 hg hx1 hx2
      have HG5 := Lib.hid (HG4.out.trans hg.below)
      have hz5 := (hg.below.block _ (lt_of_block HZ4.out)).trans HZ4.out
      clear hx1 hx2 hg
      obtain ⟨⟨s0, s1', s2, s3, s4⟩, s5, s6, s7, s8⟩ := blkF hz5
      obtain ⟨⟨f0, f1, f2, f3, f4⟩, f5, f6, f7, f8⟩ := blkFz hz5
      clear hz5
      simp only [fill]
      try generalize xs 45 = y45
      go_simp
      go_wp2_with fail
      refine bodyPost_ret (v := .tuple #[.agg zeroCells, .bool false]) (by rw [HZC.out]; simp [results, Try.results15, go_sem, s0, s1', s2, s3, s4, s5, s6, s7, s8]) rfl (Or.inr ⟨HNo.out, rfl, ?_⟩)
      exact grow9 HG5.out (Nat.le_refl _) _ _ _ _ _ _ _ _ _

set_option maxRecDepth 100000 in
set_option maxHeartbeats 4000000 in
theorem rfof_54 {b off cap m : Nat} {zs : List Int} {w : World} (hv : BytesV w (.slice (some ⟨b, off, none⟩) m cap) zs) (h54 : 54 ≤ m) (hm2 : m ≤ 5000) (hne : cap = 54) : Calls Try.prog 15 #[.slice (some ⟨b, off, none⟩) m cap] w (SomeROf zs w) := by
  have hl : zs.length = m := by
    obtain ⟨_, _, e, _, _⟩ := hv.shape
    injection e with _ e _
    exact e.symm
  have hlc : m ≤ cap := by
    obtain ⟨_, _, e, h, _⟩ := hv.shape
    injection e with _ e1 e2
    rw [e1, e2]; exact h
  have hcm : cap ≤ maxLen := by
    obtain ⟨_, _, e, _, h⟩ := hv.shape
    injection e with _ e1 e2
    rw [e2]; exact h
  obtain rfl : cap = 54 := hne
  obtain rfl : m = 54 := by omega
  obtain ⟨tl, htl⟩ : ∃ l, zs.drop 54 = l := ⟨_, rfl⟩
  have HTL := Lib.hid htl
  have hvc := hv.2.cells
  have HV := Lib.hid hv
  have HLen := Lib.hid hl
  have HGet : Hid (∀ (a : Nat) (x : World), Grow w x → a + 8 ≤ 54 → Calls Try.prog 38 #[.slice (some ⟨b, off + a, none⟩) 8 (54 - a)] x fun e w' => e = .returned (.int .u64 (num8 zs a)) ∧ x = w') := fun a x hx ha => by
    have hs := bytes_sub (hv.mono hx) a (a + 8) (by omega) (by omega)
    rw [show a + 8 - a = 8 from by omega] at hs
    have hl8 : ((zs.drop a).take 8).length = 8 := by rw [List.length_take, List.length_drop]; omega
    exact rgetL b (off + a) (54 - a) 8 _ x hs.1 hs.2.cells hl8 (by omega) (by omega) (by unfold maxLen at *; omega)
  obtain ⟨z0, hz0'⟩ : ∃ x, zs.getD 0 0 = x := ⟨_, rfl⟩
  obtain ⟨z1, hz1'⟩ : ∃ x, zs.getD 1 0 = x := ⟨_, rfl⟩
  have hz0 : Hid (w.cell? ⟨b, off, none⟩ = some (.int .u8 z0)) := by
    have := hvc 0 (by omega)
    rw [hz0'] at this
    exact this
  have hz1 : Hid (w.cell? ⟨b, off + 1, none⟩ = some (.int .u8 z1)) := by
    have := hvc 1 (by omega)
    rw [hz1'] at this
    exact this
  have hzb0 := hv.1.getD 0
  have hzb1 := hv.1.getD 1
  rw [hz0'] at hzb0
  rw [hz1'] at hzb1
  have hw0 : IntKind.i64.wrap z0 = z0 := IntWalk.i64_in _ (by omega)
  have hw1 : IntKind.i64.wrap z1 = z1 := IntWalk.i64_in _ (by omega)
  obtain ⟨n2, hn2⟩ : ∃ x, num8 zs 2 = x := ⟨_, rfl⟩
  have Hn2 := Lib.hid hn2
  obtain ⟨n10, hn10⟩ : ∃ x, num8 zs 10 = x := ⟨_, rfl⟩
  have Hn10 := Lib.hid hn10
  obtain ⟨n18, hn18⟩ : ∃ x, num8 zs 18 = x := ⟨_, rfl⟩
  have Hn18 := Lib.hid hn18
  obtain ⟨n26, hn26⟩ : ∃ x, num8 zs 26 = x := ⟨_, rfl⟩
  have Hn26 := Lib.hid hn26
  obtain ⟨n34, hn34⟩ : ∃ x, num8 zs 34 = x := ⟨_, rfl⟩
  have Hn34 := Lib.hid hn34
  obtain ⟨n42, hn42⟩ : ∃ x, num8 zs 42 = x := ⟨_, rfl⟩
  have Hn42 := Lib.hid hn42
  have HOF : Hid (∀ v, ofF zs v = ⟨z0, z1, n2, n10, n18, n26, n34, n42, v, tl⟩) := fun v => by rw [← htl, ← hz0', ← hz1', ← hn2, ← hn10, ← hn18, ← hn26, ← hn34, ← hn42]; rfl
  have HVB : Hid (BytesV w (.slice (some ⟨b, off, none⟩) 0 0) tl) := by
    rw [← htl]
    have hd : zs.drop 54 = [] := List.drop_eq_nil_iff.2 (by omega)
    rw [hd]
    exact ⟨Bytes.nil, Or.inl ⟨rfl, _, 0, rfl, Nat.zero_le _, fun hh => by cases hh⟩⟩
  have j1 : 0 < 54 := by omega
  have j2 : 1 < 54 := by omega
  have i1 : (0 : Int) < (54 : Int) := by omega
  have i2 : (1 : Int) < (54 : Int) := by omega
  have i3 : (54 : Int) ≤ (54 : Int) := by omega
  have i4 : (54 : Int) ≤ (54 : Int) := by omega
  unfold maxLen at hcm
  have hZZ := heap_alloc_new w (.cells #[.int .i64 0, .int .i64 0, .int .u64 0, .int .u64 0, .int .u64 0, .int .u64 0, .int .u64 0, .int .u64 0, .slice none 0 0] 28)
  have HW0 : Hid (Grow w (w.alloc (.cells #[.int .i64 0, .int .i64 0, .int .u64 0, .int .u64 0, .int .u64 0, .int .u64 0, .int .u64 0, .int .u64 0, .slice none 0 0] 28))) := (Grow.refl w).alloc _
  generalize hwX : w.alloc (.cells #[.int .i64 0, .int .i64 0, .int .u64 0, .int .u64 0, .int .u64 0, .int .u64 0, .int .u64 0, .int .u64 0, .slice none 0 0] 28) = wX at *
  have HXX := Lib.hid hwX
  have HZ := Lib.hid hZZ
  clear hv hvc hz0' hz1' hn2 hn10 hn18 hn26 hn34 hn42 hl htl hwX hZZ
  go_enter Try.func15, Try.ntmps15
  go_wp2_with fail
  rw [HXX.out]
  clear HXX
  refine wp_region_grow 32 [] NoBlock (fun _ => True) (by kernel_rfl) (by kernel_rfl) (by rfl) (fun _ _ _ _ => trivial) trivial ?_
  simp only [List.take_succ_cons, List.take_zero, List.drop_succ_cons, List.drop_zero]
  repeat (refine wpH_pure (by intro _ _ h; cases h) (by rfl) (by rfl) (fun K hK => ?_); go_simp; refine hK _ ?_; clear hK K)
  refine wpH_det' (.int .u8 z0) (by intro _ _ h; cases h) (by rfl) (by rfl) (by rfl) (fun w' hg => ?_) ?_
  · have hx := ((HW0.out.trans hg.below).cell (block_lt hz0.out)).trans hz0.out
    clear hg
    go_simp
    exact Below.refl _ _
  try go_simp
  repeat (refine wpH_pure (by intro _ _ h; cases h) (by rfl) (by rfl) (fun K hK => ?_); go_simp; refine hK _ ?_; clear hK K)
  refine wpH_det' (.int .u8 z1) (by intro _ _ h; cases h) (by rfl) (by rfl) (by rfl) (fun w' hg => ?_) ?_
  · have hx := ((HW0.out.trans hg.below).cell (block_lt hz1.out)).trans hz1.out
    clear hg
    go_simp
    exact Below.refl _ _
  try go_simp
  repeat (refine wpH_pure (by intro _ _ h; cases h) (by rfl) (by rfl) (fun K hK => ?_); go_simp; refine hK _ ?_; clear hK K)
  refine wpH_det' (.int .u64 n2) (by intro _ _ h; cases h) (by rfl) (by rfl) (by rfl) (fun w' hg => ?_) ?_
  · have h := HGet.out 2 w' (HW0.out.trans hg.below) (by omega)
    rw [Hn2.out] at h
    clear hg
    go_simp
    with_reducible refine h.mono ?_
    rintro e w1 ⟨rfl, rfl⟩
    exact ⟨_, rfl, rfl, Below.refl _ _⟩
  try go_simp
  repeat (refine wpH_pure (by intro _ _ h; cases h) (by rfl) (by rfl) (fun K hK => ?_); go_simp; refine hK _ ?_; clear hK K)
  refine wpH_det' (.int .u64 n10) (by intro _ _ h; cases h) (by rfl) (by rfl) (by rfl) (fun w' hg => ?_) ?_
  · have h := HGet.out 10 w' (HW0.out.trans hg.below) (by omega)
    rw [Hn10.out] at h
    clear hg
    go_simp
    with_reducible refine h.mono ?_
    rintro e w1 ⟨rfl, rfl⟩
    exact ⟨_, rfl, rfl, Below.refl _ _⟩
  try go_simp
  repeat (refine wpH_pure (by intro _ _ h; cases h) (by rfl) (by rfl) (fun K hK => ?_); go_simp; refine hK _ ?_; clear hK K)
  refine wpH_det' (.int .u64 n18) (by intro _ _ h; cases h) (by rfl) (by rfl) (by rfl) (fun w' hg => ?_) ?_
  · have h := HGet.out 18 w' (HW0.out.trans hg.below) (by omega)
    rw [Hn18.out] at h
    clear hg
    go_simp
    with_reducible refine h.mono ?_
    rintro e w1 ⟨rfl, rfl⟩
    exact ⟨_, rfl, rfl, Below.refl _ _⟩
  try go_simp
  repeat (refine wpH_pure (by intro _ _ h; cases h) (by rfl) (by rfl) (fun K hK => ?_); go_simp; refine hK _ ?_; clear hK K)
  refine wpH_det' (.int .u64 n26) (by intro _ _ h; cases h) (by rfl) (by rfl) (by rfl) (fun w' hg => ?_) ?_
  · have h := HGet.out 26 w' (HW0.out.trans hg.below) (by omega)
    rw [Hn26.out] at h
    clear hg
    go_simp
    with_reducible refine h.mono ?_
    rintro e w1 ⟨rfl, rfl⟩
    exact ⟨_, rfl, rfl, Below.refl _ _⟩
  try go_simp
  repeat (refine wpH_pure (by intro _ _ h; cases h) (by rfl) (by rfl) (fun K hK => ?_); go_simp; refine hK _ ?_; clear hK K)
  refine wpH_det' (.int .u64 n34) (by intro _ _ h; cases h) (by rfl) (by rfl) (by rfl) (fun w' hg => ?_) ?_
  · have h := HGet.out 34 w' (HW0.out.trans hg.below) (by omega)
    rw [Hn34.out] at h
    clear hg
    go_simp
    with_reducible refine h.mono ?_
    rintro e w1 ⟨rfl, rfl⟩
    exact ⟨_, rfl, rfl, Below.refl _ _⟩
  try go_simp
  repeat (refine wpH_pure (by intro _ _ h; cases h) (by rfl) (by rfl) (fun K hK => ?_); go_simp; refine hK _ ?_; clear hK K)
  refine wpH_det' (.int .u64 n42) (by intro _ _ h; cases h) (by rfl) (by rfl) (by rfl) (fun w' hg => ?_) ?_
  · have h := HGet.out 42 w' (HW0.out.trans hg.below) (by omega)
    rw [Hn42.out] at h
    clear hg
    go_simp
    with_reducible refine h.mono ?_
    rintro e w1 ⟨rfl, rfl⟩
    exact ⟨_, rfl, rfl, Below.refl _ _⟩
  try go_simp
  repeat (refine wpH_pure (by intro _ _ h; cases h) (by rfl) (by rfl) (fun K hK => ?_); go_simp; refine hK _ ?_; clear hK K)
  refine wpH_hid' (NewFr wX.heap.size) (by intro _ _ h; cases h) rfl (by rfl) (fun u x x' hg ⟨B, h1, h2, h3⟩ => ⟨B, h1, (hg.block B (lt_of_block h2) (fun h => h)).trans h2, h3⟩) (by rfl) (by rfl) (fun w' hg => ?_) ?_
  · have hs := hg.size
    have hn := heap_alloc_new w' (.cells #[.int .i64 0, .int .i64 0, .int .u64 0, .int .u64 0, .int .u64 0, .int .u64 0, .int .u64 0, .int .u64 0, .slice none 0 0] 28)
    have HN := Lib.hid hn
    have HS := Lib.hid hs
    clear hn hs hg
    go_simp
    exact ⟨⟨_, rfl, HN.out, HS.out⟩, (Below.refl _ _).alloc (Nat.le_refl _) _⟩
  refine wpH_nil ?_
  intro xs w2 hg hx1 hx2
  obtain ⟨B, hB, hB2, hB3⟩ := hx2 _ _ (List.Mem.head _)
  try dsimp only at hB
  clear hx1 hx2
  have HG2 := Lib.hid (HW0.out.trans hg.below)
  have HZ2 := Lib.hid ((hg.below.block _ (lt_of_block HZ.out)).trans HZ.out)
  obtain ⟨q1, q2⟩ := blkFz hB2
  obtain ⟨⟨q3, q4, q5, q6, q7⟩, q8, q9, q10, q11⟩ := And.intro q1 q2
  have HB2 := Lib.hid hB2
  have HB3 := Lib.hid hB3
  have HBne : Hid (w.heap.size ≠ B) := by have := lt_of_block HZ.out; show _ ≠ _; omega
  simp only [fill]
  generalize hx4 : xs 4 = y4 at *
  subst hB
  clear hg hB2 hB3 hx4
  obtain ⟨⟨p0, p1, p2, p3, p4⟩, p5, p6, p7, p8⟩ := blkF HB2.out
  go_simp
  go_wp2_with fail
  generalize hw4 : (((((((((w2.setCell ⟨B, 0, none⟩ (.int .i64 z0)).setCell ⟨B, 1, none⟩ (.int .i64 z1)).setCell ⟨B, 2, none⟩ (.int .u64 n2)).setCell ⟨B, 3, none⟩ (.int .u64 n10)).setCell ⟨B, 4, none⟩ (.int .u64 n18)).setCell ⟨B, 5, none⟩ (.int .u64 n26)).setCell ⟨B, 6, none⟩ (.int .u64 n34)).setCell ⟨B, 7, none⟩ (.int .u64 n42)).setCell ⟨B, 8, none⟩ (.slice (some ⟨b, off, none⟩) 0 0)) = w4
  have HB4 : Hid (w4.heap[B]? = some (.cells #[.int .i64 z0, .int .i64 z1, .int .u64 n2, .int .u64 n10, .int .u64 n18, .int .u64 n26, .int .u64 n34, .int .u64 n42, .slice (some ⟨b, off, none⟩) 0 0] 28 (0, 0))) := by rw [← hw4]; exact put9 HB2.out _ _ _ _ _ _ _ _ _
  have HZ4 : Hid (w4.heap[w.heap.size]? = some (.cells #[.int .i64 0, .int .i64 0, .int .u64 0, .int .u64 0, .int .u64 0, .int .u64 0, .int .u64 0, .int .u64 0, .slice none 0 0] 28 (0, 0))) := by rw [← hw4]; exact (far9 HBne.out _ _ _ _ _ _ _ _ _).trans HZ2.out
  have HG4 : Hid (Grow w w4) := by rw [← hw4]; exact grow9 HG2.out (by have := HB3.out; have := HW0.out.size; omega) _ _ _ _ _ _ _ _ _
  have HV4 : Hid (BytesV w4 (.slice (some ⟨b, off, none⟩) 54 54) zs) := HV.out.mono HG4.out
  have HVB4 : Hid (BytesV w4 (.slice (some ⟨b, off, none⟩) 0 0) tl) := HVB.out.mono HG4.out
  have hok4 : FrOk w4 (ofF zs (.slice (some ⟨b, off, none⟩) 0 0)) := of_ok HV.out.1 (by rw [HTL.out]; exact HVB4.out.2)
  have HVal4 : Hid ((ofF zs (.slice (some ⟨b, off, none⟩) 0 0)).val = .agg #[.int .i64 z0, .int .i64 z1, .int .u64 n2, .int .u64 n10, .int .u64 n18, .int .u64 n26, .int .u64 n34, .int .u64 n42, .slice (some ⟨b, off, none⟩) 0 0]) := by show _ = _; rw [HOF.out]; rfl
  have HMay : Hid (∀ x, Grow w4 x → Calls Try.prog 11 #[.agg #[.int .i64 z0, .int .i64 z1, .int .u64 n2, .int .u64 n10, .int .u64 n18, .int .u64 n26, .int .u64 n34, .int .u64 n42, .slice (some ⟨b, off, none⟩) 0 0]] x fun e w' => e = .returned (.bool (mayF (ofF zs (.slice (some ⟨b, off, none⟩) 0 0)))) ∧ Grow x w') := fun x hx => by
    have := rmay_any _ x (hok4.mono hx)
    rwa [HVal4.out] at this
  have HFOk := Lib.hid hok4
  have HZC : Hid (zeroCells = #[.int .i64 0, .int .i64 0, .int .u64 0, .int .u64 0, .int .u64 0, .int .u64 0, .int .u64 0, .int .u64 0, .slice none 0 0]) := rfl
  clear hw4 p0 p1 p2 p3 p4 p5 p6 p7 p8 q1 q2 q3 q4 q5 q6 q7 q8 q9 q10 q11 hok4
  cases hmb : mayF (ofF zs (.slice (some ⟨b, off, none⟩) 0 0))
  · have HMB := Lib.hid hmb
    have HNo : Hid (¬ okF zs) := fun h => by
      have h2 : mayF (ofF zs (.slice (some ⟨b, off, none⟩) 0 0)) = true := h.2.1
      rw [HMB.out] at h2; cases h2
    clear hmb
    refine wp_region_grow 11 [] NoBlock (fun _ => True) (by kernel_rfl) (by kernel_rfl) (by rfl) (fun _ _ _ _ => trivial) trivial ?_
    simp only [List.take_succ_cons, List.take_zero, List.drop_succ_cons, List.drop_zero]
    refine wpH_det' (.agg #[.int .i64 z0, .int .i64 z1, .int .u64 n2, .int .u64 n10, .int .u64 n18, .int .u64 n26, .int .u64 n34, .int .u64 n42, .slice (some ⟨b, off, none⟩) 0 0]) (by intro _ _ h; cases h) (by rfl) (by rfl) (by rfl) (fun w' hg => ?_) ?_
    · obtain ⟨⟨r0, r1, r2, r3, r4⟩, r5, r6, r7, r8⟩ := blkF ((hg.below.block _ (lt_of_block HB4.out)).trans HB4.out)
      clear hg
      go_simp
      exact Below.refl _ _
    try go_simp
    refine wpH_det' (.bool false) (by intro _ _ h; cases h) (by rfl) (by rfl) (by rfl) (fun w' hg => ?_) ?_
    · have h := HMay.out w' hg.below
      rw [HMB.out] at h
      clear hg
      go_simp
      with_reducible refine h.mono ?_
      rintro e w1 ⟨rfl, hg1⟩
      exact ⟨_, rfl, rfl, hg1⟩
    try go_simp
    repeat (refine wpH_pure (by intro _ _ h; cases h) (by rfl) (by rfl) (fun K hK => ?_); go_simp; refine hK _ ?_; clear hK K)
    refine wpH_nil ?_
    intro xs w5 hg hx1 hx2
    have HG5 := Lib.hid (HG4.out.trans hg.below)
    have hz5 := (hg.below.block _ (lt_of_block HZ4.out)).trans HZ4.out
    clear hx1 hx2 hg
    obtain ⟨⟨s0, s1', s2, s3, s4⟩, s5, s6, s7, s8⟩ := blkF hz5
    obtain ⟨⟨f0, f1, f2, f3, f4⟩, f5, f6, f7, f8⟩ := blkFz hz5
    clear hz5
    simp only [fill]
    try generalize xs 45 = y45
    go_simp
    go_wp2_with fail
    refine bodyPost_ret (v := .tuple #[.agg zeroCells, .bool false]) (by rw [HZC.out]; simp [results, Try.results15, go_sem, s0, s1', s2, s3, s4, s5, s6, s7, s8]) rfl (Or.inr ⟨HNo.out, rfl, ?_⟩)
    exact grow9 HG5.out (Nat.le_refl _) _ _ _ _ _ _ _ _ _
  · have HMB := Lib.hid hmb
    have hlb := may_len hmb
    have HFb : Hid (∀ x, Grow w4 x → Calls Try.prog 12 #[.agg #[.int .i64 z0, .int .i64 z1, .int .u64 n2, .int .u64 n10, .int .u64 n18, .int .u64 n26, .int .u64 n34, .int .u64 n42, .slice (some ⟨b, off, none⟩) 0 0]] x fun e w' => ∃ u, e = .returned u ∧ NewBytes x (frB (ofF zs (.slice (some ⟨b, off, none⟩) 0 0))) u w') := fun x hx => by
      have := rfbytes_any _ x (HFOk.out.mono hx) hlb
      rwa [HVal4.out] at this
    have HIff : Hid (okF zs ↔ frB (ofF zs (.slice (some ⟨b, off, none⟩) 0 0)) = zs) := ⟨fun h => h.2.2, fun h => ⟨by rw [HLen.out]; exact Nat.le_refl _, HMB.out, h⟩⟩
    have HFBy : Hid (Bytes (frB (ofF zs (.slice (some ⟨b, off, none⟩) 0 0)))) := frB_bytes _ (by rw [HOF.out]; exact HVB.out.1)
    clear hmb hlb
    obtain ⟨fb, hfb⟩ : ∃ l, frB (ofF zs (.slice (some ⟨b, off, none⟩) 0 0)) = l := ⟨_, rfl⟩
    rw [hfb] at HFb HIff HFBy
    clear hfb
    by_cases hq : fb = zs
    · have HYes : Hid (okF zs) := HIff.out.2 hq
      have hse : ((strOfNums fb).toList == (strOfNums zs).toList) = true := by rw [hq]; exact beq_self_eq_true _
      clear hq
      refine wp_region_grow 11 [] NoBlock (fun _ => True) (by kernel_rfl) (by kernel_rfl) (by rfl) (fun _ _ _ _ => trivial) trivial ?_
      simp only [List.take_succ_cons, List.take_zero, List.drop_succ_cons, List.drop_zero]
      refine wpH_det' (.agg #[.int .i64 z0, .int .i64 z1, .int .u64 n2, .int .u64 n10, .int .u64 n18, .int .u64 n26, .int .u64 n34, .int .u64 n42, .slice (some ⟨b, off, none⟩) 0 0]) (by intro _ _ h; cases h) (by rfl) (by rfl) (by rfl) (fun w' hg => ?_) ?_
      · obtain ⟨⟨r0, r1, r2, r3, r4⟩, r5, r6, r7, r8⟩ := blkF ((hg.below.block _ (lt_of_block HB4.out)).trans HB4.out)
        clear hg
        go_simp
        exact Below.refl _ _
      try go_simp
      refine wpH_det' (.bool true) (by intro _ _ h; cases h) (by rfl) (by rfl) (by rfl) (fun w' hg => ?_) ?_
      · have h := HMay.out w' hg.below
        rw [HMB.out] at h
        clear hg
        go_simp
        with_reducible refine h.mono ?_
        rintro e w1 ⟨rfl, hg1⟩
        exact ⟨_, rfl, rfl, hg1⟩
      try go_simp
      repeat (refine wpH_pure (by intro _ _ h; cases h) (by rfl) (by rfl) (fun K hK => ?_); go_simp; refine hK _ ?_; clear hK K)
      refine wpH_det' (.agg #[.int .i64 z0, .int .i64 z1, .int .u64 n2, .int .u64 n10, .int .u64 n18, .int .u64 n26, .int .u64 n34, .int .u64 n42, .slice (some ⟨b, off, none⟩) 0 0]) (by intro _ _ h; cases h) (by rfl) (by rfl) (by rfl) (fun w' hg => ?_) ?_
      · obtain ⟨⟨r0, r1, r2, r3, r4⟩, r5, r6, r7, r8⟩ := blkF ((hg.below.block _ (lt_of_block HB4.out)).trans HB4.out)
        clear hg
        go_simp
        exact Below.refl _ _
      try go_simp
      refine wpH_hid' (OwnB w4.heap.size fb) (by intro _ _ h; cases h) rfl (by rfl) (fun u x x' hg h => own_grow h hg.below) (by rfl) (by rfl) (fun w' hg => ?_) ?_
      · have h := HFb.out w' hg.below
        have hs := Lib.hid hg.below.size
        clear hg
        go_simp
        with_reducible refine h.mono ?_
        rintro e w1 ⟨u, rfl, hn⟩
        exact ⟨u, rfl, own_base hn.1 hs.out, hn.2⟩
      try go_simp
      refine wpH_det (.string (strOfNums fb)) (by rfl) (fun xs => by rfl) (fun xs w' hg hf => ?_) ?_
      · have h1 := hf _ (List.Mem.head _) (by rfl)
        try dsimp only at h1
        clear hf
        have hc := str_of (w := w') (v := xs 45) (zs := fb) ⟨HFBy.out, ints_of_owns h1⟩
        clear hg h1
        simp only [fill]
        generalize xs 45 = y45 at *
        generalize strOfNums fb = s1 at *
        go_simp
        exact Below.refl _ _
      try go_simp
      repeat (refine wpH_pure (by intro _ _ h; cases h) (by rfl) (by rfl) (fun K hK => ?_); go_simp; refine hK _ ?_; clear hK K)
      refine wpH_det' (.string (strOfNums zs)) (by intro _ _ h; cases h) (by rfl) (by rfl) (by rfl) (fun w' hg => ?_) ?_
      · have hc := str_of (HV4.out.mono hg.below)
        clear hg
        generalize strOfNums zs = s1 at *
        go_simp
        exact Below.refl _ _
      try go_simp
      generalize strOfNums fb = sf at *
      generalize strOfNums zs = sz at *
      repeat (refine wpH_pure (by intro _ _ h; cases h) (by rfl) (by rfl) (fun K hK => ?_); go_simp; refine hK _ ?_; clear hK K)
      refine wpH_nil ?_
      intro xs w5 hg hx1 hx2
      have HG5 := Lib.hid (HG4.out.trans hg.below)
      have hz5 := (hg.below.block _ (lt_of_block HZ4.out)).trans HZ4.out
      have hf5 := (hg.below.block _ (lt_of_block HB4.out)).trans HB4.out
      have HVB5 := Lib.hid (HVB4.out.mono hg.below)
      clear hx1 hx2 hg
      obtain ⟨⟨s0, s1', s2, s3, s4⟩, s5, s6, s7, s8⟩ := blkF hz5
      obtain ⟨⟨f0, f1, f2, f3, f4⟩, f5, f6, f7, f8⟩ := blkFz hz5
      obtain ⟨⟨r0, r1, r2, r3, r4⟩, r5, r6, r7, r8⟩ := blkF hf5
      have HZ5 := Lib.hid hz5
      clear hz5 hf5
      simp only [fill]
      try generalize xs 45 = y45
      go_simp
      go_wp2_with fail
      refine bodyPost_ret (v := .tuple #[.agg #[.int .i64 z0, .int .i64 z1, .int .u64 n2, .int .u64 n10, .int .u64 n18, .int .u64 n26, .int .u64 n34, .int .u64 n42, .slice (some ⟨b, off, none⟩) 0 0], .bool true]) (by simp [results, Try.results15, go_sem, s0, s1', s2, s3, s4, s5, s6, s7, s8]) rfl (Or.inl ⟨HYes.out, .slice (some ⟨b, off, none⟩) 0 0, by rw [HVal4.out], ?_, ?_⟩)
      · rw [HTL.out]
        exact vb_set HVB5.out HZ5.out (by decide) (fun k hk => far9 hk _ _ _ _ _ _ _ _ _) (fun b1 o1 n1 c1 e => by
          injection e with e _ _
          injection e with e
          injection e with e _
          subst e
          exact Nat.ne_of_lt (block_lt hz0.out))
      · exact grow9 HG5.out (Nat.le_refl _) _ _ _ _ _ _ _ _ _
    · have HNo : Hid (¬ okF zs) := fun h => hq (HIff.out.1 h)
      have hse : ((strOfNums fb).toList == (strOfNums zs).toList) = false := beq_eq_false_iff_ne.2 (fun e => hq (str_inj HFBy.out HV.out.1 (by rw [Lib.toList_data, Lib.toList_data] at e; exact ByteArray.ext (Array.toList_inj.1 e))))
      clear hq
      refine wp_region_grow 11 [] NoBlock (fun _ => True) (by kernel_rfl) (by kernel_rfl) (by rfl) (fun _ _ _ _ => trivial) trivial ?_
      simp only [List.take_succ_cons, List.take_zero, List.drop_succ_cons, List.drop_zero]
      refine wpH_det' (.agg #[.int .i64 z0, .int .i64 z1, .int .u64 n2, .int .u64 n10, .int .u64 n18, .int .u64 n26, .int .u64 n34, .int .u64 n42, .slice (some ⟨b, off, none⟩) 0 0]) (by intro _ _ h; cases h) (by rfl) (by rfl) (by rfl) (fun w' hg => ?_) ?_
      · obtain ⟨⟨r0, r1, r2, r3, r4⟩, r5, r6, r7, r8⟩ := blkF ((hg.below.block _ (lt_of_block HB4.out)).trans HB4.out)
        clear hg
        go_simp
        exact Below.refl _ _
      try go_simp
      refine wpH_det' (.bool true) (by intro _ _ h; cases h) (by rfl) (by rfl) (by rfl) (fun w' hg => ?_) ?_
      · have h := HMay.out w' hg.below
        rw [HMB.out] at h
        clear hg
        go_simp
        with_reducible refine h.mono ?_
        rintro e w1 ⟨rfl, hg1⟩
        exact ⟨_, rfl, rfl, hg1⟩
      try go_simp
      repeat (refine wpH_pure (by intro _ _ h; cases h) (by rfl) (by rfl) (fun K hK => ?_); go_simp; refine hK _ ?_; clear hK K)
      refine wpH_det' (.agg #[.int .i64 z0, .int .i64 z1, .int .u64 n2, .int .u64 n10, .int .u64 n18, .int .u64 n26, .int .u64 n34, .int .u64 n42, .slice (some ⟨b, off, none⟩) 0 0]) (by intro _ _ h; cases h) (by rfl) (by rfl) (by rfl) (fun w' hg => ?_) ?_
      · obtain ⟨⟨r0, r1, r2, r3, r4⟩, r5, r6, r7, r8⟩ := blkF ((hg.below.block _ (lt_of_block HB4.out)).trans HB4.out)
        clear hg
        go_simp
        exact Below.refl _ _
      try go_simp
      refine wpH_hid' (OwnB w4.heap.size fb) (by intro _ _ h; cases h) rfl (by rfl) (fun u x x' hg h => own_grow h hg.below) (by rfl) (by rfl) (fun w' hg => ?_) ?_
      · have h := HFb.out w' hg.below
        have hs := Lib.hid hg.below.size
        clear hg
        go_simp
        with_reducible refine h.mono ?_
        rintro e w1 ⟨u, rfl, hn⟩
        exact ⟨u, rfl, own_base hn.1 hs.out, hn.2⟩
      try go_simp
      refine wpH_det (.string (strOfNums fb)) (by rfl) (fun xs => by rfl) (fun xs w' hg hf => ?_) ?_
      · have h1 := hf _ (List.Mem.head _) (by rfl)
        try dsimp only at h1
        clear hf
        have hc := str_of (w := w') (v := xs 45) (zs := fb) ⟨HFBy.out, ints_of_owns h1⟩
        clear hg h1
        simp only [fill]
        generalize xs 45 = y45 at *
        generalize strOfNums fb = s1 at *
        go_simp
        exact Below.refl _ _
      try go_simp
      repeat (refine wpH_pure (by intro _ _ h; cases h) (by rfl) (by rfl) (fun K hK => ?_); go_simp; refine hK _ ?_; clear hK K)
      refine wpH_det' (.string (strOfNums zs)) (by intro _ _ h; cases h) (by rfl) (by rfl) (by rfl) (fun w' hg => ?_) ?_
      · have hc := str_of (HV4.out.mono hg.below)
        clear hg
        generalize strOfNums zs = s1 at *
        go_simp
        exact Below.refl _ _
      try go_simp
      generalize strOfNums fb = sf at *
      generalize strOfNums zs = sz at *
      repeat (refine wpH_pure (by intro _ _ h; cases h) (by rfl) (by rfl) (fun K hK => ?_); go_simp; refine hK _ ?_; clear hK K)
      refine wpH_nil ?_
      intro xs w5 hg hx1 hx2
      have HG5 := Lib.hid (HG4.out.trans hg.below)
      have hz5 := (hg.below.block _ (lt_of_block HZ4.out)).trans HZ4.out
      clear hx1 hx2 hg
      obtain ⟨⟨s0, s1', s2, s3, s4⟩, s5, s6, s7, s8⟩ := blkF hz5
      obtain ⟨⟨f0, f1, f2, f3, f4⟩, f5, f6, f7, f8⟩ := blkFz hz5
      clear hz5
      simp only [fill]
      try generalize xs 45 = y45
      go_simp
      go_wp2_with fail
      refine bodyPost_ret (v := .tuple #[.agg zeroCells, .bool false]) (by rw [HZC.out]; simp [results, Try.results15, go_sem, s0, s1', s2, s3, s4, s5, s6, s7, s8]) rfl (Or.inr ⟨HNo.out, rfl, ?_⟩)
      exact grow9 HG5.out (Nat.le_refl _) _ _ _ _ _ _ _ _ _

theorem rfof_any (v : Value) (zs : List Int) (w : World) (hv : BytesV w v zs) (hz : zs.length ≤ 5000) : Calls Try.prog 15 #[v] w (SomeROf zs w) := by
  by_cases h : zs.length < 54
  · exact rfof_short v zs w hv h
  · obtain ⟨b, off, cap, rfl, h1, h2⟩ := hv.2.solid (fun e => h (by rw [e]; decide))
    by_cases hc : cap = 54
    · exact rfof_54 hv (by omega) hz hc
    · exact rfof_long hv (by omega) hz hc
end Go.Proofs.Ytiphhjipgjpepaa
