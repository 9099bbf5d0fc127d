/- frame.Of of bytes that are long enough. -/
import Derived.Test.YtiphhjipgjpepaaFrOf2
import Derived.IntWalk
set_option linter.unusedVariables false
set_option linter.unusedSimpArgs false
namespace Go.Proofs.Ytiphhjipgjpepaa
open Go.RowKit

def One (P : Nat) : Nat → Prop := fun k => k = P
theorem own_set {w w' : World} {base B : Nat} {e T : TypeId} {size : Nat} {v : Value} {n : Nat} {xs : List Value} {cs : Array Value} (h : w.ownsRow base e size v n xs) (hB : w.heap[B]? = some (.cells cs T (0, 0))) (hT : e ≠ T) (hw : ∀ k, k ≠ B → w'.heap[k]? = w.heap[k]?) : w'.ownsRow base e size v n xs := by
  obtain ⟨h1, h2⟩ := h
  refine ⟨h1, h2.imp id ?_⟩
  rintro ⟨g, cap, cur, e1, e2, e3, e4⟩
  refine ⟨g, cap, cur, e1, e2, (hw g (fun hg => ?_)).trans e3, e4⟩
  rw [hg, hB] at e3
  injection e3 with e3
  injection e3 with _ e3
  exact hT e3.symm
theorem may_len {f : Fr} (h : mayF f = true) : f.zs.length ≤ 5000 := by
  have hm : MayF f := of_decide_eq_true h
  rcases hm.2.2 with h | h | h
  · omega
  · rcases h.2.2 with g | g
    · have := isU_len g.1; omega
    · omega
  · omega
theorem num8_bd {zs : List Int} (h : Bytes zs) (a : Nat) : U64 (num8 zs a) := by
  have hn := beN_lt (h.drop a) 8
  have e : (256 : Int) ^ 8 = 18446744073709551616 := by decide
  unfold num8 U64
  omega
theorem of_ok {w : World} {zs : List Int} {v : Value} (h : Bytes zs) (hv : IntsV .u8 w v (zs.drop 54)) : FrOk w (ofF zs v) := by
  have h0 := h.getD 0
  have h1 := h.getD 1
  exact ⟨⟨by show _ ≤ zs.getD 0 0; omega, by show zs.getD 0 0 ≤ _; omega⟩, ⟨by show _ ≤ zs.getD 1 0; omega, by show zs.getD 1 0 ≤ _; omega⟩, num8_bd h _, num8_bd h _, num8_bd h _, num8_bd h _, num8_bd h _, num8_bd h _, h.drop 54, hv⟩
def AtIs (B k : Nat) (x : World) : Prop := x.heap[B]? = some (.cells #[.int .i64 (k : Int)] 3 (0, 0))

set_option maxRecDepth 100000 in
set_option maxHeartbeats 8000000 in
theorem of_long {b off cap m : Nat} {zs : List Int} {w : World} (hv : BytesV w (.slice (some ⟨b, off, none⟩) m cap) zs) (h54 : 54 ≤ m) (hm2 : m ≤ 6000) (hne : ¬ cap = 54) : Calls Try.prog 14 #[.slice (some ⟨b, off, none⟩) m cap] w (SomeOf zs w) := by
  have hl := addr_off hv
  obtain ⟨_, _, e, hlc, hcm⟩ := hv.shape
  injection e with e1 e2 e3
  subst e3
  clear e1 e2
  rw [hl] at hlc
  obtain ⟨tl, htl⟩ : ∃ l, zs.drop 54 = l := ⟨_, rfl⟩
  have HTL := Lib.hid htl
  have hvc := hv.2.cells
  have HVw := Lib.hid hv
  have HLen := Lib.hid hl
  obtain ⟨wX, hwX⟩ : ∃ x, ((w.alloc (.cells #[.slice (some ⟨b, off, none⟩) m cap] 26)).alloc (.cells #[.int .i64 0, .int .i64 0, .int .u64 0, .int .u64 0, .int .u64 0, .int .u64 0, .int .u64 0, .int .u64 0, .slice none 0 0] 28)).alloc (.cells #[.int .i64 2] 3) = x := ⟨_, rfl⟩
  have HX := Lib.hid hwX
  have HGX : Hid (Grow w wX) := by rw [← hwX]; exact (((Grow.refl w).alloc _).alloc _).alloc _
  have HSX : Hid (wX.heap.size = w.heap.size + 1 + 1 + 1) := by show _ = _; rw [← hwX]; simp
  have hB1 : Hid (wX.heap[w.heap.size]? = some (.cells #[.slice (some ⟨b, off, none⟩) m cap] 26 (0, 0))) := by
    rw [← hwX, Below.heap_alloc _ _ _ (by first | (simp; done) | (simp; omega)), Below.heap_alloc _ _ _ (by simp)]
    exact heap_alloc_new w _
  have hZ : Hid (wX.heap[w.heap.size + 1]? = some (.cells #[.int .i64 0, .int .i64 0, .int .u64 0, .int .u64 0, .int .u64 0, .int .u64 0, .int .u64 0, .int .u64 0, .slice none 0 0] 28 (0, 0))) := by
    rw [← hwX, Below.heap_alloc _ _ _ (by first | (simp; done) | (simp; omega))]
    have e := heap_alloc_new (w.alloc (.cells #[.slice (some ⟨b, off, none⟩) m cap] 26)) (.cells #[.int .i64 0, .int .i64 0, .int .u64 0, .int .u64 0, .int .u64 0, .int .u64 0, .int .u64 0, .int .u64 0, .slice none 0 0] 28)
    rwa [World.size_alloc] at e
  have hA : Hid (AtIs (w.heap.size + 1 + 1) 2 wX) := by
    rw [← hwX]
    have e := heap_alloc_new ((w.alloc (.cells #[.slice (some ⟨b, off, none⟩) m cap] 26)).alloc (.cells #[.int .i64 0, .int .i64 0, .int .u64 0, .int .u64 0, .int .u64 0, .int .u64 0, .int .u64 0, .int .u64 0, .slice none 0 0] 28)) (.cells #[.int .i64 2] 3)
    rw [World.size_alloc, World.size_alloc] at e
    exact e
  have hbl : b < w.heap.size := block_lt (hvc 0 (by omega))
  have hM1 : Hid (¬ One (w.heap.size + 1 + 1) w.heap.size) := fun h => by have : w.heap.size = w.heap.size + 1 + 1 := h; omega
  have hMb : Hid (¬ One (w.heap.size + 1 + 1) b) := fun h => by have : b = w.heap.size + 1 + 1 := h; omega
  have hcX : Hid (∀ i, i < m → wX.cell? ⟨b, off + i, none⟩ = some (.int .u8 (zs.getD i 0))) := fun i hi => (HGX.out.cell (block_lt (hvc i (by omega)))).trans (hvc i (by omega))
  have HGet : Hid (∀ (at' : Nat) (x : World), GrowBut (One (w.heap.size + 1 + 1)) wX x → AtIs (w.heap.size + 1 + 1) at' x → at' + 8 ≤ m → at' ≤ 100 → Calls Try.prog 34 #[.pointer (some ⟨w.heap.size, 0, none⟩), .pointer (some ⟨w.heap.size + 1 + 1, 0, none⟩)] x fun e w' => e = .returned (.int .u64 (num8 zs at')) ∧ w' = x.setCell ⟨w.heap.size + 1 + 1, 0, none⟩ (.int .i64 ((at' + 8 : Nat) : Int))) := fun at' x hx ha h1 h2 =>
    get_closure ((hx.block _ (lt_of_block hB1.out) hM1.out).trans hB1.out) ha hv.1 hl (fun i hi => hx.cell (hcX.out i hi) hMb.out) (by omega) hcm h1 h2
  obtain ⟨z0, hz0'⟩ : ∃ x, zs.getD 0 0 = x := ⟨_, rfl⟩
  obtain ⟨z1, hz1'⟩ : ∃ x, zs.getD 1 0 = x := ⟨_, rfl⟩
  have hz0 : Hid (wX.cell? ⟨b, off, none⟩ = some (.int .u8 z0)) := by
    have := hcX.out 0 (by omega)
    rw [hz0'] at this
    exact this
  have hz1 : Hid (wX.cell? ⟨b, off + 1, none⟩ = some (.int .u8 z1)) := by
    have := hcX.out 1 (by omega)
    rw [hz1'] at this
    exact this
  have hzb0 := hv.1.getD 0
  have hzb1 := hv.1.getD 1
  rw [hz0'] at hzb0
  rw [hz1'] at hzb1
  have hw0 : IntKind.i64.wrap z0 = z0 := IntWalk.i64_in _ (by omega)
  have hw1 : IntKind.i64.wrap z1 = z1 := IntWalk.i64_in _ (by omega)
  obtain ⟨n2, hn2⟩ : ∃ x, num8 zs 2 = x := ⟨_, rfl⟩
  have Hn2 := Lib.hid hn2
  obtain ⟨n10, hn10⟩ : ∃ x, num8 zs 10 = x := ⟨_, rfl⟩
  have Hn10 := Lib.hid hn10
  obtain ⟨n18, hn18⟩ : ∃ x, num8 zs 18 = x := ⟨_, rfl⟩
  have Hn18 := Lib.hid hn18
  obtain ⟨n26, hn26⟩ : ∃ x, num8 zs 26 = x := ⟨_, rfl⟩
  have Hn26 := Lib.hid hn26
  obtain ⟨n34, hn34⟩ : ∃ x, num8 zs 34 = x := ⟨_, rfl⟩
  have Hn34 := Lib.hid hn34
  obtain ⟨n42, hn42⟩ : ∃ x, num8 zs 42 = x := ⟨_, rfl⟩
  have Hn42 := Lib.hid hn42
  have HOF : Hid (∀ v, ofF zs v = ⟨z0, z1, n2, n10, n18, n26, n34, n42, v, tl⟩) := fun v => by rw [← htl, ← hz0', ← hz1', ← hn2, ← hn10, ← hn18, ← hn26, ← hn34, ← hn42]; rfl
  have HCl : Hid (∀ x, GrowBut (One (w.heap.size + 1 + 1)) wX x → Calls Try.prog 36 #[.slice (some ⟨b, off + 54, none⟩) (m - 54) (cap - 54)] x fun e w' => ∃ u, e = .returned u ∧ NewBytes x tl u w') := fun x hx => by
    rw [← htl]
    have hbx : BytesV x (.slice (some ⟨b, off, none⟩) m cap) zs := ⟨hv.1, by
      rcases hv.2 with ⟨e, _⟩ | ⟨b', off', cap', e, e1, e2, e3⟩
      · rw [e] at hl; (first | (simp at hl; done) | (simp at hl; omega))
      · injection e with q1 q2 q3
        injection q1 with q1
        injection q1 with q4 q5
        subst q3; subst q4; subst q5
        exact Or.inr ⟨b, off, _, by rw [hl], e1, e2, fun i hi => hx.cell (hcX.out i (by omega)) hMb.out⟩⟩
    have hs := bytes_sub hbx 54 m (by omega) (by omega)
    rw [show m - 54 = (zs.drop 54).length from by rw [List.length_drop]; omega, List.take_of_length_le (Nat.le_refl _)] at hs
    rw [show m - 54 = (zs.drop 54).length from by rw [List.length_drop]; omega]
    exact clone_any hs (by rw [List.length_drop]; omega)
  have j1 : 0 < m := by omega
  have j2 : 1 < m := by omega
  have i1 : (0 : Int) < (m : Int) := by omega
  have i2 : (1 : Int) < (m : Int) := by omega
  have i3 : (54 : Int) ≤ (m : Int) := by omega
  have i4 : (m : Int) ≤ (cap : Int) := by omega
  unfold maxLen at hcm
  clear hv hvc hwX hz0' hz1' hn2 hn10 hn18 hn26 hn34 hn42 hl htl
  go_enter Try.func14, Try.ntmps14
  go_wp2_with fail
  rw [HX.out]
  clear HX
  refine wp_region_grow 27 [9, 11, 14, 16, 19, 21] (One (w.heap.size + 1 + 1)) (AtIs (w.heap.size + 1 + 1) 2) (by kernel_rfl) (by kernel_rfl) (by rfl) (fun _ _ hb h => (hb.block _ (lt_of_block h)).trans h) hA.out ?_
  simp only [List.take_succ_cons, List.take_zero, List.drop_succ_cons, List.drop_zero]
  refine wpH_det (.slice (some ⟨b, off, none⟩) m cap) (by rfl) (fun xs => by rfl) (fun xs w' hg hf => ?_) ?_
  · clear hf
    have hx := hg.cell (cell_of_one hB1.out) hM1.out
    go_simp
    exact Below.refl _ _
  try go_simp
  repeat (refine wpH_pure (by intro _ _ h; cases h) (by rfl) (by rfl) (fun K hK => ?_); go_simp; refine hK _ ?_; clear hK K)
  refine wpH_det (.int .u8 z0) (by rfl) (fun xs => by rfl) (fun xs w' hg hf => ?_) ?_
  · clear hf
    have hx := hg.cell hz0.out hMb.out
    go_simp
    exact Below.refl _ _
  try go_simp
  repeat (refine wpH_pure (by intro _ _ h; cases h) (by rfl) (by rfl) (fun K hK => ?_); go_simp; refine hK _ ?_; clear hK K)
  refine wpH_det (.slice (some ⟨b, off, none⟩) m cap) (by rfl) (fun xs => by rfl) (fun xs w' hg hf => ?_) ?_
  · clear hf
    have hx := hg.cell (cell_of_one hB1.out) hM1.out
    go_simp
    exact Below.refl _ _
  try go_simp
  repeat (refine wpH_pure (by intro _ _ h; cases h) (by rfl) (by rfl) (fun K hK => ?_); go_simp; refine hK _ ?_; clear hK K)
  refine wpH_det (.int .u8 z1) (by rfl) (fun xs => by rfl) (fun xs w' hg hf => ?_) ?_
  · clear hf
    have hx := hg.cell hz1.out hMb.out
    go_simp
    exact Below.refl _ _
  try go_simp
  repeat (refine wpH_pure (by intro _ _ h; cases h) (by rfl) (by rfl) (fun K hK => ?_); go_simp; refine hK _ ?_; clear hK K)
  refine wpH_cdet (.int .u64 n2) (AtIs (w.heap.size + 1 + 1) 10) (by rfl) (fun _ _ hb h => (hb.block _ (lt_of_block h)).trans h) (fun xs => by rfl) (fun xs w' hg hc hf => ?_) ?_
  · clear hf
    have h := HGet.out 2 w' hg hc (by omega) (by omega)
    rw [Hn2.out] at h
    go_simp
    refine h.mono ?_
    rintro e w1 ⟨rfl, rfl⟩
    exact ⟨_, rfl, rfl, (GrowBut.refl (One (w.heap.size + 1 + 1)) _).setCell (a := ⟨w.heap.size + 1 + 1, 0, none⟩) (show One (w.heap.size + 1 + 1) (w.heap.size + 1 + 1) from rfl) _, heap_setCell_same _ _ 0 _ _ _ hc⟩
  try go_simp
  repeat (refine wpH_pure (by intro _ _ h; cases h) (by rfl) (by rfl) (fun K hK => ?_); go_simp; refine hK _ ?_; clear hK K)
  refine wpH_cdet (.int .u64 n10) (AtIs (w.heap.size + 1 + 1) 18) (by rfl) (fun _ _ hb h => (hb.block _ (lt_of_block h)).trans h) (fun xs => by rfl) (fun xs w' hg hc hf => ?_) ?_
  · clear hf
    have h := HGet.out 10 w' hg hc (by omega) (by omega)
    rw [Hn10.out] at h
    go_simp
    refine h.mono ?_
    rintro e w1 ⟨rfl, rfl⟩
    exact ⟨_, rfl, rfl, (GrowBut.refl (One (w.heap.size + 1 + 1)) _).setCell (a := ⟨w.heap.size + 1 + 1, 0, none⟩) (show One (w.heap.size + 1 + 1) (w.heap.size + 1 + 1) from rfl) _, heap_setCell_same _ _ 0 _ _ _ hc⟩
  try go_simp
  repeat (refine wpH_pure (by intro _ _ h; cases h) (by rfl) (by rfl) (fun K hK => ?_); go_simp; refine hK _ ?_; clear hK K)
  refine wpH_cdet (.int .u64 n18) (AtIs (w.heap.size + 1 + 1) 26) (by rfl) (fun _ _ hb h => (hb.block _ (lt_of_block h)).trans h) (fun xs => by rfl) (fun xs w' hg hc hf => ?_) ?_
  · clear hf
    have h := HGet.out 18 w' hg hc (by omega) (by omega)
    rw [Hn18.out] at h
    go_simp
    refine h.mono ?_
    rintro e w1 ⟨rfl, rfl⟩
    exact ⟨_, rfl, rfl, (GrowBut.refl (One (w.heap.size + 1 + 1)) _).setCell (a := ⟨w.heap.size + 1 + 1, 0, none⟩) (show One (w.heap.size + 1 + 1) (w.heap.size + 1 + 1) from rfl) _, heap_setCell_same _ _ 0 _ _ _ hc⟩
  try go_simp
  repeat (refine wpH_pure (by intro _ _ h; cases h) (by rfl) (by rfl) (fun K hK => ?_); go_simp; refine hK _ ?_; clear hK K)
  refine wpH_cdet (.int .u64 n26) (AtIs (w.heap.size + 1 + 1) 34) (by rfl) (fun _ _ hb h => (hb.block _ (lt_of_block h)).trans h) (fun xs => by rfl) (fun xs w' hg hc hf => ?_) ?_
  · clear hf
    have h := HGet.out 26 w' hg hc (by omega) (by omega)
    rw [Hn26.out] at h
    go_simp
    refine h.mono ?_
    rintro e w1 ⟨rfl, rfl⟩
    exact ⟨_, rfl, rfl, (GrowBut.refl (One (w.heap.size + 1 + 1)) _).setCell (a := ⟨w.heap.size + 1 + 1, 0, none⟩) (show One (w.heap.size + 1 + 1) (w.heap.size + 1 + 1) from rfl) _, heap_setCell_same _ _ 0 _ _ _ hc⟩
  try go_simp
  repeat (refine wpH_pure (by intro _ _ h; cases h) (by rfl) (by rfl) (fun K hK => ?_); go_simp; refine hK _ ?_; clear hK K)
  refine wpH_cdet (.int .u64 n34) (AtIs (w.heap.size + 1 + 1) 42) (by rfl) (fun _ _ hb h => (hb.block _ (lt_of_block h)).trans h) (fun xs => by rfl) (fun xs w' hg hc hf => ?_) ?_
  · clear hf
    have h := HGet.out 34 w' hg hc (by omega) (by omega)
    rw [Hn34.out] at h
    go_simp
    refine h.mono ?_
    rintro e w1 ⟨rfl, rfl⟩
    exact ⟨_, rfl, rfl, (GrowBut.refl (One (w.heap.size + 1 + 1)) _).setCell (a := ⟨w.heap.size + 1 + 1, 0, none⟩) (show One (w.heap.size + 1 + 1) (w.heap.size + 1 + 1) from rfl) _, heap_setCell_same _ _ 0 _ _ _ hc⟩
  try go_simp
  repeat (refine wpH_pure (by intro _ _ h; cases h) (by rfl) (by rfl) (fun K hK => ?_); go_simp; refine hK _ ?_; clear hK K)
  refine wpH_cdet (.int .u64 n42) (AtIs (w.heap.size + 1 + 1) 50) (by rfl) (fun _ _ hb h => (hb.block _ (lt_of_block h)).trans h) (fun xs => by rfl) (fun xs w' hg hc hf => ?_) ?_
  · clear hf
    have h := HGet.out 42 w' hg hc (by omega) (by omega)
    rw [Hn42.out] at h
    go_simp
    refine h.mono ?_
    rintro e w1 ⟨rfl, rfl⟩
    exact ⟨_, rfl, rfl, (GrowBut.refl (One (w.heap.size + 1 + 1)) _).setCell (a := ⟨w.heap.size + 1 + 1, 0, none⟩) (show One (w.heap.size + 1 + 1) (w.heap.size + 1 + 1) from rfl) _, heap_setCell_same _ _ 0 _ _ _ hc⟩
  try go_simp
  repeat (refine wpH_pure (by intro _ _ h; cases h) (by rfl) (by rfl) (fun K hK => ?_); go_simp; refine hK _ ?_; clear hK K)
  refine wpH_det (.slice (some ⟨b, off, none⟩) m cap) (by rfl) (fun xs => by rfl) (fun xs w' hg hf => ?_) ?_
  · clear hf
    have hx := hg.cell (cell_of_one hB1.out) hM1.out
    go_simp
    exact Below.refl _ _
  try go_simp
  repeat (refine wpH_pure (by intro _ _ h; cases h) (by rfl) (by rfl) (fun K hK => ?_); go_simp; refine hK _ ?_; clear hK K)
  refine wpH_hid (OwnB wX.heap.size tl) rfl (by rfl) (fun u x x' hg h => own_but h hg (fun k hk => by have : k = w.heap.size + 1 + 1 := hk; have := HSX.out; omega)) (fun xs => by rfl) (fun xs w' hg hf => ?_) ?_
  · clear hf
    have h := HCl.out w' hg
    have hs := hg.size
    have HS := Lib.hid hs
    clear hs
    go_simp
    refine h.mono ?_
    rintro e w1 ⟨u, rfl, hn⟩
    exact ⟨u, rfl, own_base hn.1 HS.out, hn.2⟩
  try go_simp
  refine wpH_hid (BuiltF wX.heap.size (fun v' => .agg #[.int .i64 z0, .int .i64 z1, .int .u64 n2, .int .u64 n10, .int .u64 n18, .int .u64 n26, .int .u64 n34, .int .u64 n42, v']) tl) rfl (by rfl) (fun u x x' hg ⟨v', h1, h2⟩ => ⟨v', h1, own_but h2 hg (fun k hk => by have : k = w.heap.size + 1 + 1 := hk; have := HSX.out; omega)⟩) (fun xs => by rfl) (fun xs w' hg hf => ?_) ?_
  · have h1 := hf _ (List.Mem.head _) (by rfl); dsimp only at h1
    have H1 := Lib.hid h1
    clear hf h1
    simp only [fill]
    generalize xs 36 = y36 at *
    obtain ⟨ao6, cp6, rfl, _, _⟩ := (ints_of_owns H1.out).shape
    go_simp
    exact ⟨⟨_, rfl, H1.out⟩, Below.refl _ _⟩
  try go_simp
  refine wpH_hid (NewFr wX.heap.size) rfl (by rfl) (fun u x x' hg ⟨B, h1, h2, h3⟩ => ⟨B, h1, (hg.block B (lt_of_block h2) (fun h => by have : B = w.heap.size + 1 + 1 := h; have := HSX.out; omega)).trans h2, h3⟩) (fun xs => by rfl) (fun xs w' hg hf => ?_) ?_
  · clear hf
    have hs := hg.size
    have hn := heap_alloc_new w' (.cells #[.int .i64 0, .int .i64 0, .int .u64 0, .int .u64 0, .int .u64 0, .int .u64 0, .int .u64 0, .int .u64 0, .slice none 0 0] 28)
    have HN := Lib.hid hn
    have HS := Lib.hid hs
    clear hn hs hg
    go_simp
    exact ⟨⟨_, rfl, HN.out, HS.out⟩, (Below.refl _ _).alloc (Nat.le_refl _) _⟩
  refine wpH_nil ?_
  intro xs w2 hg hc hx2
  have hp6 := hx2 _ _ (List.Mem.head _)
  have hp37 := hx2 _ _ (List.Mem.tail _ (List.Mem.head _))
  try dsimp only at hp6 hp37
  obtain ⟨B, hB, hB2, hB3⟩ := hp6
  obtain ⟨vb, hvb, hob⟩ := hp37
  clear hx2 hc
  have hz2 := (hg.block _ (lt_of_block hZ.out) (fun h => by have : w.heap.size + 1 = w.heap.size + 1 + 1 := h; omega)).trans hZ.out
  have ht2 := (hg.block _ (lt_of_block hB1.out) hM1.out).trans hB1.out
  have hsx := HSX.out
  have hg2 : Grow w w2 := ⟨hg.os.trans HGX.out.os, hg.tape.trans HGX.out.tape, hg.output.trans HGX.out.output, Nat.le_trans HGX.out.size hg.size, fun k hk => (hg.block k (Nat.lt_of_lt_of_le hk HGX.out.size) (fun h => by have : k = w.heap.size + 1 + 1 := h; omega)).trans (HGX.out.block k hk)⟩
  obtain ⟨q1, q2⟩ := blkFz hB2
  obtain ⟨⟨q3, q4, q5, q6, q7⟩, q8, q9, q10, q11⟩ := And.intro q1 q2
  have HG2 := Lib.hid hg2
  have HB2 := Lib.hid hB2
  have HZ2 := Lib.hid hz2
  have HT2 := Lib.hid ht2
  have HOB := Lib.hid hob
  have HB3 := Lib.hid hB3
  have HBne : Hid (w.heap.size + 1 ≠ B ∧ w.heap.size ≠ B ∧ b ≠ B) := ⟨by omega, by omega, by omega⟩
  obtain ⟨ao7, cp7, rfl, _, _⟩ := (ints_of_owns hob).shape
  simp only at hvb
  simp only [fill]
  generalize hx36 : xs 36 = y36 at *
  generalize hx6 : xs 6 = y6 at *
  generalize hx37 : xs 37 = y37 at *
  subst hB
  subst hvb
  clear hg hB2 hz2 ht2 hsx hg2 hob hB3 hx6 hx37 hx36
  obtain ⟨⟨p0, p1, p2, p3, p4⟩, p5, p6, p7, p8⟩ := blkF HB2.out
  go_simp
  go_wp2_with fail
  generalize hw4 : (((((((((w2.setCell ⟨B, 0, none⟩ (.int .i64 z0)).setCell ⟨B, 1, none⟩ (.int .i64 z1)).setCell ⟨B, 2, none⟩ (.int .u64 n2)).setCell ⟨B, 3, none⟩ (.int .u64 n10)).setCell ⟨B, 4, none⟩ (.int .u64 n18)).setCell ⟨B, 5, none⟩ (.int .u64 n26)).setCell ⟨B, 6, none⟩ (.int .u64 n34)).setCell ⟨B, 7, none⟩ (.int .u64 n42)).setCell ⟨B, 8, none⟩ (.slice ao7 tl.length cp7)) = w4
  have HB4 : Hid (w4.heap[B]? = some (.cells #[.int .i64 z0, .int .i64 z1, .int .u64 n2, .int .u64 n10, .int .u64 n18, .int .u64 n26, .int .u64 n34, .int .u64 n42, .slice ao7 tl.length cp7] 28 (0, 0))) := by rw [← hw4]; exact put9 HB2.out _ _ _ _ _ _ _ _ _
  have HZ4 : Hid (w4.heap[w.heap.size + 1]? = some (.cells #[.int .i64 0, .int .i64 0, .int .u64 0, .int .u64 0, .int .u64 0, .int .u64 0, .int .u64 0, .int .u64 0, .slice none 0 0] 28 (0, 0))) := by rw [← hw4]; exact (far9 HBne.out.1 _ _ _ _ _ _ _ _ _).trans HZ2.out
  have HT4 : Hid (w4.heap[w.heap.size]? = some (.cells #[.slice (some ⟨b, off, none⟩) m cap] 26 (0, 0))) := by rw [← hw4]; exact (far9 HBne.out.2.1 _ _ _ _ _ _ _ _ _).trans HT2.out
  have HG4 : Hid (Grow w w4) := by rw [← hw4]; exact grow9 HG2.out (by have := HB3.out; have := HGX.out.size; omega) _ _ _ _ _ _ _ _ _
  have HO4 : Hid (w4.ownsRow wX.heap.size 5 1 (.slice ao7 tl.length cp7) tl.length (tl.map (Value.int .u8))) := by rw [← hw4]; exact own_set HOB.out HB2.out (by decide) (fun k hk => far9 hk _ _ _ _ _ _ _ _ _)
  have HC4 : Hid (∀ i, i < m → w4.cell? ⟨b, off + i, none⟩ = some (.int .u8 (zs.getD i 0))) := fun i hi => (HG4.out.cell (block_lt (HVw.out.2.cells i (by rw [HLen.out]; exact hi)))).trans (HVw.out.2.cells i (by rw [HLen.out]; exact hi))
  have hok4 : FrOk w4 (ofF zs (.slice ao7 tl.length cp7)) := of_ok HVw.out.1 (by rw [HTL.out]; exact ints_of_owns HO4.out)
  have HVal4 : Hid ((ofF zs (.slice ao7 tl.length cp7)).val = .agg #[.int .i64 z0, .int .i64 z1, .int .u64 n2, .int .u64 n10, .int .u64 n18, .int .u64 n26, .int .u64 n34, .int .u64 n42, .slice ao7 tl.length cp7]) := by show _ = _; rw [HOF.out]; rfl
  have HMay : Hid (∀ x, Grow w4 x → Calls Try.prog 10 #[.agg #[.int .i64 z0, .int .i64 z1, .int .u64 n2, .int .u64 n10, .int .u64 n18, .int .u64 n26, .int .u64 n34, .int .u64 n42, .slice ao7 tl.length cp7]] x fun e w' => e = .returned (.bool (mayF (ofF zs (.slice ao7 tl.length cp7)))) ∧ Grow x w') := fun x hx => by
    have := may_any _ x (hok4.mono hx)
    rwa [HVal4.out] at this
  have HFOk := Lib.hid hok4
  have HZC : Hid (zeroCells = #[.int .i64 0, .int .i64 0, .int .u64 0, .int .u64 0, .int .u64 0, .int .u64 0, .int .u64 0, .int .u64 0, .slice none 0 0]) := rfl
  have hle2 : w.heap.size + 1 ≠ w.heap.size := by omega
  clear hw4 p0 p1 p2 p3 p4 p5 p6 p7 p8 q1 q2 q3 q4 q5 q6 q7 q8 q9 q10 q11 hok4
  cases hmb : mayF (ofF zs (.slice ao7 tl.length cp7))
  · have HMB := Lib.hid hmb
    have HNo : Hid (¬ okF zs) := fun h => by
      have h2 : mayF (ofF zs (.slice ao7 tl.length cp7)) = true := h.2.1
      rw [HMB.out] at h2; cases h2
    clear hmb
    refine wp_region_grow 10 [] NoBlock (fun _ => True) (by kernel_rfl) (by kernel_rfl) (by rfl) (fun _ _ _ _ => trivial) trivial ?_
    simp only [List.take_succ_cons, List.take_zero, List.drop_succ_cons, List.drop_zero]
    refine wpH_det (.agg #[.int .i64 z0, .int .i64 z1, .int .u64 n2, .int .u64 n10, .int .u64 n18, .int .u64 n26, .int .u64 n34, .int .u64 n42, .slice ao7 tl.length cp7]) (by rfl) (fun xs => by rfl) (fun xs w' hg hf => ?_) ?_
    · clear hf
      obtain ⟨⟨r0, r1, r2, r3, r4⟩, r5, r6, r7, r8⟩ := blkF ((hg.below.block _ (lt_of_block HB4.out)).trans HB4.out)
      clear hg
      go_simp
      exact Below.refl _ _
    try go_simp
    refine wpH_det (.bool false) (by rfl) (fun xs => by rfl) (fun xs w' hg hf => ?_) ?_
    · clear hf
      have h := HMay.out w' hg.below
      rw [HMB.out] at h
      clear hg
      go_simp
      refine h.mono ?_
      rintro e w1 ⟨rfl, hg1⟩
      exact ⟨_, rfl, rfl, hg1⟩
    try go_simp
    repeat (refine wpH_pure (by intro _ _ h; cases h) (by rfl) (by rfl) (fun K hK => ?_); go_simp; refine hK _ ?_; clear hK K)
    refine wpH_nil ?_
    intro xs w5 hg hc hx2
    have HG5 := Lib.hid (HG4.out.trans hg.below)
    have hz5 := (hg.below.block _ (lt_of_block HZ4.out)).trans HZ4.out
    have hf5 := (hg.below.block _ (lt_of_block HB4.out)).trans HB4.out
    have HO5 := Lib.hid (own_grow HO4.out hg.below)
    have HZ5 := Lib.hid hz5
    clear hc hx2 hg
    obtain ⟨⟨s0, s1, s2, s3, s4⟩, s5, s6, s7, s8⟩ := blkF hz5
    obtain ⟨⟨f0, f1, f2, f3, f4⟩, f5, f6, f7, f8⟩ := blkFz hz5
    obtain ⟨⟨r0, r1, r2, r3, r4⟩, r5, r6, r7, r8⟩ := blkF hf5
    clear hz5 hf5
    simp only [fill]
    go_simp
    go_wp2_with fail
    refine bodyPost_ret (v := .tuple #[.agg zeroCells, .int .i64 4]) (by rw [HZC.out]; simp [results, Try.results14, go_sem, s0, s1, s2, s3, s4, s5, s6, s7, s8]) rfl (Or.inr ⟨HNo.out, rfl, ?_⟩)
    exact grow9 HG5.out (Nat.le_succ _) _ _ _ _ _ _ _ _ _
  · have HMB := Lib.hid hmb
    have hle := may_len hmb
    clear hmb
    have HFb : Hid (∀ x, Grow w4 x → Calls Try.prog 28 #[.agg #[.int .i64 z0, .int .i64 z1, .int .u64 n2, .int .u64 n10, .int .u64 n18, .int .u64 n26, .int .u64 n34, .int .u64 n42, .slice ao7 tl.length cp7]] x fun e w' => ∃ u, e = .returned u ∧ NewBytes x (frB (ofF zs (.slice ao7 tl.length cp7))) u w') := fun x hx => by
      have := fbytes_any _ x (HFOk.out.mono hx) hle
      rwa [HVal4.out] at this
    have HFL : Hid ((frB (ofF zs (.slice ao7 tl.length cp7))).length = m) := by
      show _ = _
      rw [frB_length]
      show 54 + (zs.drop 54).length = m
      rw [List.length_drop, HLen.out]; (try omega)
    have HIff : Hid (okF zs ↔ frB (ofF zs (.slice ao7 tl.length cp7)) = zs) := ⟨fun h => h.2.2, fun h => ⟨by rw [HLen.out]; exact h54, HMB.out, h⟩⟩
    have hle' := hle
    clear hle
    obtain ⟨fb, hfb⟩ : ∃ l, frB (ofF zs (.slice ao7 tl.length cp7)) = l := ⟨_, rfl⟩
    rw [hfb] at HFb HFL HIff
    clear hfb hle'
    cases hq : decide (fb = zs)
    · have HQ := Lib.hid hq
      have HNo : Hid (¬ okF zs) := fun h => absurd (HIff.out.1 h) (of_decide_eq_false HQ.out)
      clear hq
      refine wp_region_grow 10 [] NoBlock (fun _ => True) (by kernel_rfl) (by kernel_rfl) (by rfl) (fun _ _ _ _ => trivial) trivial ?_
      simp only [List.take_succ_cons, List.take_zero, List.drop_succ_cons, List.drop_zero]
      refine wpH_det (.agg #[.int .i64 z0, .int .i64 z1, .int .u64 n2, .int .u64 n10, .int .u64 n18, .int .u64 n26, .int .u64 n34, .int .u64 n42, .slice ao7 tl.length cp7]) (by rfl) (fun xs => by rfl) (fun xs w' hg hf => ?_) ?_
      · clear hf
        obtain ⟨⟨r0, r1, r2, r3, r4⟩, r5, r6, r7, r8⟩ := blkF ((hg.below.block _ (lt_of_block HB4.out)).trans HB4.out)
        clear hg
        go_simp
        exact Below.refl _ _
      try go_simp
      refine wpH_det (.bool true) (by rfl) (fun xs => by rfl) (fun xs w' hg hf => ?_) ?_
      · clear hf
        have h := HMay.out w' hg.below
        rw [HMB.out] at h
        clear hg
        go_simp
        refine h.mono ?_
        rintro e w1 ⟨rfl, hg1⟩
        exact ⟨_, rfl, rfl, hg1⟩
      try go_simp
      repeat (refine wpH_pure (by intro _ _ h; cases h) (by rfl) (by rfl) (fun K hK => ?_); go_simp; refine hK _ ?_; clear hK K)
      refine wpH_det (.agg #[.int .i64 z0, .int .i64 z1, .int .u64 n2, .int .u64 n10, .int .u64 n18, .int .u64 n26, .int .u64 n34, .int .u64 n42, .slice ao7 tl.length cp7]) (by rfl) (fun xs => by rfl) (fun xs w' hg hf => ?_) ?_
      · clear hf
        obtain ⟨⟨r0, r1, r2, r3, r4⟩, r5, r6, r7, r8⟩ := blkF ((hg.below.block _ (lt_of_block HB4.out)).trans HB4.out)
        clear hg
        go_simp
        exact Below.refl _ _
      try go_simp
      refine wpH_hid (OwnB w4.heap.size fb) rfl (by rfl) (fun u x x' hg h => own_grow h hg.below) (fun xs => by rfl) (fun xs w' hg hf => ?_) ?_
      · clear hf
        have h := HFb.out w' hg.below
        have hs := Lib.hid hg.below.size
        clear hg
        go_simp
        refine h.mono ?_
        rintro e w1 ⟨u, rfl, hn⟩
        exact ⟨u, rfl, own_base hn.1 hs.out, hn.2⟩
      try go_simp
      refine wpH_det (.slice (some ⟨b, off, none⟩) m cap) (by rfl) (fun xs => by rfl) (fun xs w' hg hf => ?_) ?_
      · clear hf
        have hx := hg.below.cell (block_lt (cell_of_one HT4.out))
        have hy := hx.trans (cell_of_one HT4.out)
        clear hx hg
        go_simp
        exact Below.refl _ _
      try go_simp
      refine wpH_det (.bool false) (by rfl) (fun xs => by rfl) (fun xs w' hg hf => ?_) ?_
      · have h1 := hf _ (List.Mem.head _) (by rfl)
        try dsimp only at h1
        clear hf
        have hi := ints_of_owns h1
        simp only [fill]
        generalize xs 43 = y43 at *
        obtain ⟨b9, o9, c9, rfl, _, _⟩ := hi.solid (fun e => by have := HFL.out; rw [e] at this; (first | (simp at this; done) | (simp at this; omega)))
        rw [HFL.out] at hi
        have heq := bytes_equal (w := w') (b := b9) (off := o9) (c := c9) (b' := b) (off' := off) (c' := cap) (n := m) HFL.out HLen.out (by omega) (fun i h => hi.cells i (by rw [HFL.out]; exact h)) (fun i h => (hg.below.cell (block_lt (HC4.out i h))).trans (HC4.out i h))
        rw [HQ.out] at heq
        have HEQ := Lib.hid heq
        have HFLx := HFL.out
        clear hi h1 hg heq
        rw [HFLx]
        clear HFLx
        go_simp
        refine HEQ.out.mono ?_
        rintro e w1 ⟨rfl, q, rfl⟩
        exact ⟨_, rfl, rfl, grow_dn (Grow.refl _) q⟩
      try go_simp
      repeat (refine wpH_pure (by intro _ _ h; cases h) (by rfl) (by rfl) (fun K hK => ?_); go_simp; refine hK _ ?_; clear hK K)
      refine wpH_nil ?_
      intro xs w5 hg hc hx2
      have HG5 := Lib.hid (HG4.out.trans hg.below)
      have hz5 := (hg.below.block _ (lt_of_block HZ4.out)).trans HZ4.out
      have hf5 := (hg.below.block _ (lt_of_block HB4.out)).trans HB4.out
      have HO5 := Lib.hid (own_grow HO4.out hg.below)
      have HZ5 := Lib.hid hz5
      clear hc hx2 hg
      obtain ⟨⟨s0, s1, s2, s3, s4⟩, s5, s6, s7, s8⟩ := blkF hz5
      obtain ⟨⟨f0, f1, f2, f3, f4⟩, f5, f6, f7, f8⟩ := blkFz hz5
      obtain ⟨⟨r0, r1, r2, r3, r4⟩, r5, r6, r7, r8⟩ := blkF hf5
      clear hz5 hf5
      simp only [fill]
      generalize xs 43 = y43
      go_simp
      go_wp2_with fail
      refine bodyPost_ret (v := .tuple #[.agg zeroCells, .int .i64 4]) (by rw [HZC.out]; simp [results, Try.results14, go_sem, s0, s1, s2, s3, s4, s5, s6, s7, s8]) rfl (Or.inr ⟨HNo.out, rfl, ?_⟩)
      exact grow9 HG5.out (Nat.le_succ _) _ _ _ _ _ _ _ _ _
    · have HQ := Lib.hid hq
      have HYes : Hid (okF zs) := HIff.out.2 (of_decide_eq_true HQ.out)
      clear hq
      refine wp_region_grow 10 [] NoBlock (fun _ => True) (by kernel_rfl) (by kernel_rfl) (by rfl) (fun _ _ _ _ => trivial) trivial ?_
      simp only [List.take_succ_cons, List.take_zero, List.drop_succ_cons, List.drop_zero]
      refine wpH_det (.agg #[.int .i64 z0, .int .i64 z1, .int .u64 n2, .int .u64 n10, .int .u64 n18, .int .u64 n26, .int .u64 n34, .int .u64 n42, .slice ao7 tl.length cp7]) (by rfl) (fun xs => by rfl) (fun xs w' hg hf => ?_) ?_
      · clear hf
        obtain ⟨⟨r0, r1, r2, r3, r4⟩, r5, r6, r7, r8⟩ := blkF ((hg.below.block _ (lt_of_block HB4.out)).trans HB4.out)
        clear hg
        go_simp
        exact Below.refl _ _
      try go_simp
      refine wpH_det (.bool true) (by rfl) (fun xs => by rfl) (fun xs w' hg hf => ?_) ?_
      · clear hf
        have h := HMay.out w' hg.below
        rw [HMB.out] at h
        clear hg
        go_simp
        refine h.mono ?_
        rintro e w1 ⟨rfl, hg1⟩
        exact ⟨_, rfl, rfl, hg1⟩
      try go_simp
      repeat (refine wpH_pure (by intro _ _ h; cases h) (by rfl) (by rfl) (fun K hK => ?_); go_simp; refine hK _ ?_; clear hK K)
      refine wpH_det (.agg #[.int .i64 z0, .int .i64 z1, .int .u64 n2, .int .u64 n10, .int .u64 n18, .int .u64 n26, .int .u64 n34, .int .u64 n42, .slice ao7 tl.length cp7]) (by rfl) (fun xs => by rfl) (fun xs w' hg hf => ?_) ?_
      · clear hf
        obtain ⟨⟨r0, r1, r2, r3, r4⟩, r5, r6, r7, r8⟩ := blkF ((hg.below.block _ (lt_of_block HB4.out)).trans HB4.out)
        clear hg
        go_simp
        exact Below.refl _ _
      try go_simp
      refine wpH_hid (OwnB w4.heap.size fb) rfl (by rfl) (fun u x x' hg h => own_grow h hg.below) (fun xs => by rfl) (fun xs w' hg hf => ?_) ?_
      · clear hf
        have h := HFb.out w' hg.below
        have hs := Lib.hid hg.below.size
        clear hg
        go_simp
        refine h.mono ?_
        rintro e w1 ⟨u, rfl, hn⟩
        exact ⟨u, rfl, own_base hn.1 hs.out, hn.2⟩
      try go_simp
      refine wpH_det (.slice (some ⟨b, off, none⟩) m cap) (by rfl) (fun xs => by rfl) (fun xs w' hg hf => ?_) ?_
      · clear hf
        have hx := hg.below.cell (block_lt (cell_of_one HT4.out))
        have hy := hx.trans (cell_of_one HT4.out)
        clear hx hg
        go_simp
        exact Below.refl _ _
      try go_simp
      refine wpH_det (.bool true) (by rfl) (fun xs => by rfl) (fun xs w' hg hf => ?_) ?_
      · have h1 := hf _ (List.Mem.head _) (by rfl)
        try dsimp only at h1
        clear hf
        have hi := ints_of_owns h1
        simp only [fill]
        generalize xs 43 = y43 at *
        obtain ⟨b9, o9, c9, rfl, _, _⟩ := hi.solid (fun e => by have := HFL.out; rw [e] at this; (first | (simp at this; done) | (simp at this; omega)))
        rw [HFL.out] at hi
        have heq := bytes_equal (w := w') (b := b9) (off := o9) (c := c9) (b' := b) (off' := off) (c' := cap) (n := m) HFL.out HLen.out (by omega) (fun i h => hi.cells i (by rw [HFL.out]; exact h)) (fun i h => (hg.below.cell (block_lt (HC4.out i h))).trans (HC4.out i h))
        rw [HQ.out] at heq
        have HEQ := Lib.hid heq
        have HFLx := HFL.out
        clear hi h1 hg heq
        rw [HFLx]
        clear HFLx
        go_simp
        refine HEQ.out.mono ?_
        rintro e w1 ⟨rfl, q, rfl⟩
        exact ⟨_, rfl, rfl, grow_dn (Grow.refl _) q⟩
      try go_simp
      repeat (refine wpH_pure (by intro _ _ h; cases h) (by rfl) (by rfl) (fun K hK => ?_); go_simp; refine hK _ ?_; clear hK K)
      refine wpH_nil ?_
      intro xs w5 hg hc hx2
      have HG5 := Lib.hid (HG4.out.trans hg.below)
      have hz5 := (hg.below.block _ (lt_of_block HZ4.out)).trans HZ4.out
      have hf5 := (hg.below.block _ (lt_of_block HB4.out)).trans HB4.out
      have HO5 := Lib.hid (own_grow HO4.out hg.below)
      have HZ5 := Lib.hid hz5
      clear hc hx2 hg
      obtain ⟨⟨s0, s1, s2, s3, s4⟩, s5, s6, s7, s8⟩ := blkF hz5
      obtain ⟨⟨f0, f1, f2, f3, f4⟩, f5, f6, f7, f8⟩ := blkFz hz5
      obtain ⟨⟨r0, r1, r2, r3, r4⟩, r5, r6, r7, r8⟩ := blkF hf5
      clear hz5 hf5
      simp only [fill]
      generalize xs 43 = y43
      go_simp
      go_wp2_with fail
      have hval : (ofF zs (.slice ao7 tl.length cp7)).val = .agg #[.int .i64 z0, .int .i64 z1, .int .u64 n2, .int .u64 n10, .int .u64 n18, .int .u64 n26, .int .u64 n34, .int .u64 n42, .slice ao7 tl.length cp7] := by rw [HOF.out]; rfl
      have HVal := Lib.hid hval
      clear hval
      refine bodyPost_ret (v := .tuple #[(ofF zs (.slice ao7 tl.length cp7)).val, .int .i64 0]) (by rw [HVal.out]; simp [results, Try.results14, go_sem, s0, s1, s2, s3, s4, s5, s6, s7, s8]) rfl (Or.inl ⟨HYes.out, _, rfl, ?_⟩)
      rw [HTL.out]
      refine ⟨own_base (own_set HO5.out HZ5.out (by decide) (fun k hk => far9 hk _ _ _ _ _ _ _ _ _)) (by have := HGX.out.size; omega), grow9 HG5.out (Nat.le_succ _) _ _ _ _ _ _ _ _ _⟩

set_option maxRecDepth 100000 in
set_option maxHeartbeats 8000000 in
theorem of_54 {b off cap m : Nat} {zs : List Int} {w : World} (hv : BytesV w (.slice (some ⟨b, off, none⟩) m cap) zs) (h54 : 54 ≤ m) (hm2 : m ≤ 6000) (hne : cap = 54) : Calls Try.prog 14 #[.slice (some ⟨b, off, none⟩) m cap] w (SomeOf zs w) := by
  have hl := addr_off hv
  obtain ⟨_, _, e, hlc, hcm⟩ := hv.shape
  injection e with e1 e2 e3
  subst e3
  clear e1 e2
  rw [hl] at hlc
  subst hne
  have hm54 : m = 54 := by omega
  subst hm54
  obtain ⟨tl, htl⟩ : ∃ l, zs.drop 54 = l := ⟨_, rfl⟩
  have HTL := Lib.hid htl
  have hvc := hv.2.cells
  have HVw := Lib.hid hv
  have HLen := Lib.hid hl
  obtain ⟨wX, hwX⟩ : ∃ x, ((w.alloc (.cells #[.slice (some ⟨b, off, none⟩) 54 54] 26)).alloc (.cells #[.int .i64 0, .int .i64 0, .int .u64 0, .int .u64 0, .int .u64 0, .int .u64 0, .int .u64 0, .int .u64 0, .slice none 0 0] 28)).alloc (.cells #[.int .i64 2] 3) = x := ⟨_, rfl⟩
  have HX := Lib.hid hwX
  have HGX : Hid (Grow w wX) := by rw [← hwX]; exact (((Grow.refl w).alloc _).alloc _).alloc _
  have HSX : Hid (wX.heap.size = w.heap.size + 1 + 1 + 1) := by show _ = _; rw [← hwX]; simp
  have hB1 : Hid (wX.heap[w.heap.size]? = some (.cells #[.slice (some ⟨b, off, none⟩) 54 54] 26 (0, 0))) := by
    rw [← hwX, Below.heap_alloc _ _ _ (by first | (simp; done) | (simp; omega)), Below.heap_alloc _ _ _ (by simp)]
    exact heap_alloc_new w _
  have hZ : Hid (wX.heap[w.heap.size + 1]? = some (.cells #[.int .i64 0, .int .i64 0, .int .u64 0, .int .u64 0, .int .u64 0, .int .u64 0, .int .u64 0, .int .u64 0, .slice none 0 0] 28 (0, 0))) := by
    rw [← hwX, Below.heap_alloc _ _ _ (by first | (simp; done) | (simp; omega))]
    have e := heap_alloc_new (w.alloc (.cells #[.slice (some ⟨b, off, none⟩) 54 54] 26)) (.cells #[.int .i64 0, .int .i64 0, .int .u64 0, .int .u64 0, .int .u64 0, .int .u64 0, .int .u64 0, .int .u64 0, .slice none 0 0] 28)
    rwa [World.size_alloc] at e
  have hA : Hid (AtIs (w.heap.size + 1 + 1) 2 wX) := by
    rw [← hwX]
    have e := heap_alloc_new ((w.alloc (.cells #[.slice (some ⟨b, off, none⟩) 54 54] 26)).alloc (.cells #[.int .i64 0, .int .i64 0, .int .u64 0, .int .u64 0, .int .u64 0, .int .u64 0, .int .u64 0, .int .u64 0, .slice none 0 0] 28)) (.cells #[.int .i64 2] 3)
    rw [World.size_alloc, World.size_alloc] at e
    exact e
  have hbl : b < w.heap.size := block_lt (hvc 0 (by omega))
  have hM1 : Hid (¬ One (w.heap.size + 1 + 1) w.heap.size) := fun h => by have : w.heap.size = w.heap.size + 1 + 1 := h; omega
  have hMb : Hid (¬ One (w.heap.size + 1 + 1) b) := fun h => by have : b = w.heap.size + 1 + 1 := h; omega
  have hcX : Hid (∀ i, i < 54 → wX.cell? ⟨b, off + i, none⟩ = some (.int .u8 (zs.getD i 0))) := fun i hi => (HGX.out.cell (block_lt (hvc i (by omega)))).trans (hvc i (by omega))
  have HGet : Hid (∀ (at' : Nat) (x : World), GrowBut (One (w.heap.size + 1 + 1)) wX x → AtIs (w.heap.size + 1 + 1) at' x → at' + 8 ≤ 54 → at' ≤ 100 → Calls Try.prog 34 #[.pointer (some ⟨w.heap.size, 0, none⟩), .pointer (some ⟨w.heap.size + 1 + 1, 0, none⟩)] x fun e w' => e = .returned (.int .u64 (num8 zs at')) ∧ w' = x.setCell ⟨w.heap.size + 1 + 1, 0, none⟩ (.int .i64 ((at' + 8 : Nat) : Int))) := fun at' x hx ha h1 h2 =>
    get_closure ((hx.block _ (lt_of_block hB1.out) hM1.out).trans hB1.out) ha hv.1 hl (fun i hi => hx.cell (hcX.out i hi) hMb.out) (by omega) hcm h1 h2
  obtain ⟨z0, hz0'⟩ : ∃ x, zs.getD 0 0 = x := ⟨_, rfl⟩
  obtain ⟨z1, hz1'⟩ : ∃ x, zs.getD 1 0 = x := ⟨_, rfl⟩
  have hz0 : Hid (wX.cell? ⟨b, off, none⟩ = some (.int .u8 z0)) := by
    have := hcX.out 0 (by omega)
    rw [hz0'] at this
    exact this
  have hz1 : Hid (wX.cell? ⟨b, off + 1, none⟩ = some (.int .u8 z1)) := by
    have := hcX.out 1 (by omega)
    rw [hz1'] at this
    exact this
  have hzb0 := hv.1.getD 0
  have hzb1 := hv.1.getD 1
  rw [hz0'] at hzb0
  rw [hz1'] at hzb1
  have hw0 : IntKind.i64.wrap z0 = z0 := IntWalk.i64_in _ (by omega)
  have hw1 : IntKind.i64.wrap z1 = z1 := IntWalk.i64_in _ (by omega)
  obtain ⟨n2, hn2⟩ : ∃ x, num8 zs 2 = x := ⟨_, rfl⟩
  have Hn2 := Lib.hid hn2
  obtain ⟨n10, hn10⟩ : ∃ x, num8 zs 10 = x := ⟨_, rfl⟩
  have Hn10 := Lib.hid hn10
  obtain ⟨n18, hn18⟩ : ∃ x, num8 zs 18 = x := ⟨_, rfl⟩
  have Hn18 := Lib.hid hn18
  obtain ⟨n26, hn26⟩ : ∃ x, num8 zs 26 = x := ⟨_, rfl⟩
  have Hn26 := Lib.hid hn26
  obtain ⟨n34, hn34⟩ : ∃ x, num8 zs 34 = x := ⟨_, rfl⟩
  have Hn34 := Lib.hid hn34
  obtain ⟨n42, hn42⟩ : ∃ x, num8 zs 42 = x := ⟨_, rfl⟩
  have Hn42 := Lib.hid hn42
  have HOF : Hid (∀ v, ofF zs v = ⟨z0, z1, n2, n10, n18, n26, n34, n42, v, tl⟩) := fun v => by rw [← htl, ← hz0', ← hz1', ← hn2, ← hn10, ← hn18, ← hn26, ← hn34, ← hn42]; rfl
  have HCl : Hid (∀ x, GrowBut (One (w.heap.size + 1 + 1)) wX x → Calls Try.prog 36 #[.slice (some ⟨b, off, none⟩) 0 0] x fun e w' => ∃ u, e = .returned u ∧ NewBytes x tl u w') := fun x hx => by
    rw [← htl]
    have hbx : BytesV x (.slice (some ⟨b, off, none⟩) 54 54) zs := ⟨hv.1, by
      rcases hv.2 with ⟨e, _⟩ | ⟨b', off', cap', e, e1, e2, e3⟩
      · rw [e] at hl; (first | (simp at hl; done) | (simp at hl; omega))
      · injection e with q1 q2 q3
        injection q1 with q1
        injection q1 with q4 q5
        subst q3; subst q4; subst q5
        exact Or.inr ⟨b, off, _, by rw [hl], e1, e2, fun i hi => hx.cell (hcX.out i (by omega)) hMb.out⟩⟩
    have hd : zs.drop 54 = [] := List.drop_eq_nil_iff.2 (by omega)
    rw [hd]
    exact clone_any (zs := []) ⟨Bytes.nil, Or.inl ⟨rfl, _, 0, rfl, Nat.zero_le _, fun hh => by cases hh⟩⟩ (by omega)
  have j1 : 0 < 54 := by omega
  have j2 : 1 < 54 := by omega
  have i1 : (0 : Int) < (54 : Int) := by omega
  have i2 : (1 : Int) < (54 : Int) := by omega
  have i3 : (54 : Int) ≤ (54 : Int) := by omega
  have i4 : (54 : Int) ≤ (54 : Int) := by omega
  unfold maxLen at hcm
  clear hv hvc hwX hz0' hz1' hn2 hn10 hn18 hn26 hn34 hn42 hl htl
  go_enter Try.func14, Try.ntmps14
  go_wp2_with fail
  rw [HX.out]
  clear HX
  refine wp_region_grow 27 [9, 11, 14, 16, 19, 21] (One (w.heap.size + 1 + 1)) (AtIs (w.heap.size + 1 + 1) 2) (by kernel_rfl) (by kernel_rfl) (by rfl) (fun _ _ hb h => (hb.block _ (lt_of_block h)).trans h) hA.out ?_
  simp only [List.take_succ_cons, List.take_zero, List.drop_succ_cons, List.drop_zero]
  refine wpH_det (.slice (some ⟨b, off, none⟩) 54 54) (by rfl) (fun xs => by rfl) (fun xs w' hg hf => ?_) ?_
  · clear hf
    have hx := hg.cell (cell_of_one hB1.out) hM1.out
    go_simp
    exact Below.refl _ _
  try go_simp
  repeat (refine wpH_pure (by intro _ _ h; cases h) (by rfl) (by rfl) (fun K hK => ?_); go_simp; refine hK _ ?_; clear hK K)
  refine wpH_det (.int .u8 z0) (by rfl) (fun xs => by rfl) (fun xs w' hg hf => ?_) ?_
  · clear hf
    have hx := hg.cell hz0.out hMb.out
    go_simp
    exact Below.refl _ _
  try go_simp
  repeat (refine wpH_pure (by intro _ _ h; cases h) (by rfl) (by rfl) (fun K hK => ?_); go_simp; refine hK _ ?_; clear hK K)
  refine wpH_det (.slice (some ⟨b, off, none⟩) 54 54) (by rfl) (fun xs => by rfl) (fun xs w' hg hf => ?_) ?_
  · clear hf
    have hx := hg.cell (cell_of_one hB1.out) hM1.out
    go_simp
    exact Below.refl _ _
  try go_simp
  repeat (refine wpH_pure (by intro _ _ h; cases h) (by rfl) (by rfl) (fun K hK => ?_); go_simp; refine hK _ ?_; clear hK K)
  refine wpH_det (.int .u8 z1) (by rfl) (fun xs => by rfl) (fun xs w' hg hf => ?_) ?_
  · clear hf
    have hx := hg.cell hz1.out hMb.out
    go_simp
    exact Below.refl _ _
  try go_simp
  repeat (refine wpH_pure (by intro _ _ h; cases h) (by rfl) (by rfl) (fun K hK => ?_); go_simp; refine hK _ ?_; clear hK K)
  refine wpH_cdet (.int .u64 n2) (AtIs (w.heap.size + 1 + 1) 10) (by rfl) (fun _ _ hb h => (hb.block _ (lt_of_block h)).trans h) (fun xs => by rfl) (fun xs w' hg hc hf => ?_) ?_
  · clear hf
    have h := HGet.out 2 w' hg hc (by omega) (by omega)
    rw [Hn2.out] at h
    go_simp
    refine h.mono ?_
    rintro e w1 ⟨rfl, rfl⟩
    exact ⟨_, rfl, rfl, (GrowBut.refl (One (w.heap.size + 1 + 1)) _).setCell (a := ⟨w.heap.size + 1 + 1, 0, none⟩) (show One (w.heap.size + 1 + 1) (w.heap.size + 1 + 1) from rfl) _, heap_setCell_same _ _ 0 _ _ _ hc⟩
  try go_simp
  repeat (refine wpH_pure (by intro _ _ h; cases h) (by rfl) (by rfl) (fun K hK => ?_); go_simp; refine hK _ ?_; clear hK K)
  refine wpH_cdet (.int .u64 n10) (AtIs (w.heap.size + 1 + 1) 18) (by rfl) (fun _ _ hb h => (hb.block _ (lt_of_block h)).trans h) (fun xs => by rfl) (fun xs w' hg hc hf => ?_) ?_
  · clear hf
    have h := HGet.out 10 w' hg hc (by omega) (by omega)
    rw [Hn10.out] at h
    go_simp
    refine h.mono ?_
    rintro e w1 ⟨rfl, rfl⟩
    exact ⟨_, rfl, rfl, (GrowBut.refl (One (w.heap.size + 1 + 1)) _).setCell (a := ⟨w.heap.size + 1 + 1, 0, none⟩) (show One (w.heap.size + 1 + 1) (w.heap.size + 1 + 1) from rfl) _, heap_setCell_same _ _ 0 _ _ _ hc⟩
  try go_simp
  repeat (refine wpH_pure (by intro _ _ h; cases h) (by rfl) (by rfl) (fun K hK => ?_); go_simp; refine hK _ ?_; clear hK K)
  refine wpH_cdet (.int .u64 n18) (AtIs (w.heap.size + 1 + 1) 26) (by rfl) (fun _ _ hb h => (hb.block _ (lt_of_block h)).trans h) (fun xs => by rfl) (fun xs w' hg hc hf => ?_) ?_
  · clear hf
    have h := HGet.out 18 w' hg hc (by omega) (by omega)
    rw [Hn18.out] at h
    go_simp
    refine h.mono ?_
    rintro e w1 ⟨rfl, rfl⟩
    exact ⟨_, rfl, rfl, (GrowBut.refl (One (w.heap.size + 1 + 1)) _).setCell (a := ⟨w.heap.size + 1 + 1, 0, none⟩) (show One (w.heap.size + 1 + 1) (w.heap.size + 1 + 1) from rfl) _, heap_setCell_same _ _ 0 _ _ _ hc⟩
  try go_simp
  repeat (refine wpH_pure (by intro _ _ h; cases h) (by rfl) (by rfl) (fun K hK => ?_); go_simp; refine hK _ ?_; clear hK K)
  refine wpH_cdet (.int .u64 n26) (AtIs (w.heap.size + 1 + 1) 34) (by rfl) (fun _ _ hb h => (hb.block _ (lt_of_block h)).trans h) (fun xs => by rfl) (fun xs w' hg hc hf => ?_) ?_
  · clear hf
    have h := HGet.out 26 w' hg hc (by omega) (by omega)
    rw [Hn26.out] at h
    go_simp
    refine h.mono ?_
    rintro e w1 ⟨rfl, rfl⟩
    exact ⟨_, rfl, rfl, (GrowBut.refl (One (w.heap.size + 1 + 1)) _).setCell (a := ⟨w.heap.size + 1 + 1, 0, none⟩) (show One (w.heap.size + 1 + 1) (w.heap.size + 1 + 1) from rfl) _, heap_setCell_same _ _ 0 _ _ _ hc⟩
  try go_simp
  repeat (refine wpH_pure (by intro _ _ h; cases h) (by rfl) (by rfl) (fun K hK => ?_); go_simp; refine hK _ ?_; clear hK K)
  refine wpH_cdet (.int .u64 n34) (AtIs (w.heap.size + 1 + 1) 42) (by rfl) (fun _ _ hb h => (hb.block _ (lt_of_block h)).trans h) (fun xs => by rfl) (fun xs w' hg hc hf => ?_) ?_
  · clear hf
    have h := HGet.out 34 w' hg hc (by omega) (by omega)
    rw [Hn34.out] at h
    go_simp
    refine h.mono ?_
    rintro e w1 ⟨rfl, rfl⟩
    exact ⟨_, rfl, rfl, (GrowBut.refl (One (w.heap.size + 1 + 1)) _).setCell (a := ⟨w.heap.size + 1 + 1, 0, none⟩) (show One (w.heap.size + 1 + 1) (w.heap.size + 1 + 1) from rfl) _, heap_setCell_same _ _ 0 _ _ _ hc⟩
  try go_simp
  repeat (refine wpH_pure (by intro _ _ h; cases h) (by rfl) (by rfl) (fun K hK => ?_); go_simp; refine hK _ ?_; clear hK K)
  refine wpH_cdet (.int .u64 n42) (AtIs (w.heap.size + 1 + 1) 50) (by rfl) (fun _ _ hb h => (hb.block _ (lt_of_block h)).trans h) (fun xs => by rfl) (fun xs w' hg hc hf => ?_) ?_
  · clear hf
    have h := HGet.out 42 w' hg hc (by omega) (by omega)
    rw [Hn42.out] at h
    go_simp
    refine h.mono ?_
    rintro e w1 ⟨rfl, rfl⟩
    exact ⟨_, rfl, rfl, (GrowBut.refl (One (w.heap.size + 1 + 1)) _).setCell (a := ⟨w.heap.size + 1 + 1, 0, none⟩) (show One (w.heap.size + 1 + 1) (w.heap.size + 1 + 1) from rfl) _, heap_setCell_same _ _ 0 _ _ _ hc⟩
  try go_simp
  repeat (refine wpH_pure (by intro _ _ h; cases h) (by rfl) (by rfl) (fun K hK => ?_); go_simp; refine hK _ ?_; clear hK K)
  refine wpH_det (.slice (some ⟨b, off, none⟩) 54 54) (by rfl) (fun xs => by rfl) (fun xs w' hg hf => ?_) ?_
  · clear hf
    have hx := hg.cell (cell_of_one hB1.out) hM1.out
    go_simp
    exact Below.refl _ _
  try go_simp
  repeat (refine wpH_pure (by intro _ _ h; cases h) (by rfl) (by rfl) (fun K hK => ?_); go_simp; refine hK _ ?_; clear hK K)
  refine wpH_hid (OwnB wX.heap.size tl) rfl (by rfl) (fun u x x' hg h => own_but h hg (fun k hk => by have : k = w.heap.size + 1 + 1 := hk; have := HSX.out; omega)) (fun xs => by rfl) (fun xs w' hg hf => ?_) ?_
  · clear hf
    have h := HCl.out w' hg
    have hs := hg.size
    have HS := Lib.hid hs
    clear hs
    go_simp
    refine h.mono ?_
    rintro e w1 ⟨u, rfl, hn⟩
    exact ⟨u, rfl, own_base hn.1 HS.out, hn.2⟩
  try go_simp
  refine wpH_hid (BuiltF wX.heap.size (fun v' => .agg #[.int .i64 z0, .int .i64 z1, .int .u64 n2, .int .u64 n10, .int .u64 n18, .int .u64 n26, .int .u64 n34, .int .u64 n42, v']) tl) rfl (by rfl) (fun u x x' hg ⟨v', h1, h2⟩ => ⟨v', h1, own_but h2 hg (fun k hk => by have : k = w.heap.size + 1 + 1 := hk; have := HSX.out; omega)⟩) (fun xs => by rfl) (fun xs w' hg hf => ?_) ?_
  · have h1 := hf _ (List.Mem.head _) (by rfl); dsimp only at h1
    have H1 := Lib.hid h1
    clear hf h1
    simp only [fill]
    generalize xs 36 = y36 at *
    obtain ⟨ao6, cp6, rfl, _, _⟩ := (ints_of_owns H1.out).shape
    go_simp
    exact ⟨⟨_, rfl, H1.out⟩, Below.refl _ _⟩
  try go_simp
  refine wpH_hid (NewFr wX.heap.size) rfl (by rfl) (fun u x x' hg ⟨B, h1, h2, h3⟩ => ⟨B, h1, (hg.block B (lt_of_block h2) (fun h => by have : B = w.heap.size + 1 + 1 := h; have := HSX.out; omega)).trans h2, h3⟩) (fun xs => by rfl) (fun xs w' hg hf => ?_) ?_
  · clear hf
    have hs := hg.size
    have hn := heap_alloc_new w' (.cells #[.int .i64 0, .int .i64 0, .int .u64 0, .int .u64 0, .int .u64 0, .int .u64 0, .int .u64 0, .int .u64 0, .slice none 0 0] 28)
    have HN := Lib.hid hn
    have HS := Lib.hid hs
    clear hn hs hg
    go_simp
    exact ⟨⟨_, rfl, HN.out, HS.out⟩, (Below.refl _ _).alloc (Nat.le_refl _) _⟩
  refine wpH_nil ?_
  intro xs w2 hg hc hx2
  have hp6 := hx2 _ _ (List.Mem.head _)
  have hp37 := hx2 _ _ (List.Mem.tail _ (List.Mem.head _))
  try dsimp only at hp6 hp37
  obtain ⟨B, hB, hB2, hB3⟩ := hp6
  obtain ⟨vb, hvb, hob⟩ := hp37
  clear hx2 hc
  have hz2 := (hg.block _ (lt_of_block hZ.out) (fun h => by have : w.heap.size + 1 = w.heap.size + 1 + 1 := h; omega)).trans hZ.out
  have ht2 := (hg.block _ (lt_of_block hB1.out) hM1.out).trans hB1.out
  have hsx := HSX.out
  have hg2 : Grow w w2 := ⟨hg.os.trans HGX.out.os, hg.tape.trans HGX.out.tape, hg.output.trans HGX.out.output, Nat.le_trans HGX.out.size hg.size, fun k hk => (hg.block k (Nat.lt_of_lt_of_le hk HGX.out.size) (fun h => by have : k = w.heap.size + 1 + 1 := h; omega)).trans (HGX.out.block k hk)⟩
  obtain ⟨q1, q2⟩ := blkFz hB2
  obtain ⟨⟨q3, q4, q5, q6, q7⟩, q8, q9, q10, q11⟩ := And.intro q1 q2
  have HG2 := Lib.hid hg2
  have HB2 := Lib.hid hB2
  have HZ2 := Lib.hid hz2
  have HT2 := Lib.hid ht2
  have HOB := Lib.hid hob
  have HB3 := Lib.hid hB3
  have HBne : Hid (w.heap.size + 1 ≠ B ∧ w.heap.size ≠ B ∧ b ≠ B) := ⟨by omega, by omega, by omega⟩
  obtain ⟨ao7, cp7, rfl, _, _⟩ := (ints_of_owns hob).shape
  simp only at hvb
  simp only [fill]
  generalize hx36 : xs 36 = y36 at *
  generalize hx6 : xs 6 = y6 at *
  generalize hx37 : xs 37 = y37 at *
  subst hB
  subst hvb
  clear hg hB2 hz2 ht2 hsx hg2 hob hB3 hx6 hx37 hx36
  obtain ⟨⟨p0, p1, p2, p3, p4⟩, p5, p6, p7, p8⟩ := blkF HB2.out
  go_simp
  go_wp2_with fail
  generalize hw4 : (((((((((w2.setCell ⟨B, 0, none⟩ (.int .i64 z0)).setCell ⟨B, 1, none⟩ (.int .i64 z1)).setCell ⟨B, 2, none⟩ (.int .u64 n2)).setCell ⟨B, 3, none⟩ (.int .u64 n10)).setCell ⟨B, 4, none⟩ (.int .u64 n18)).setCell ⟨B, 5, none⟩ (.int .u64 n26)).setCell ⟨B, 6, none⟩ (.int .u64 n34)).setCell ⟨B, 7, none⟩ (.int .u64 n42)).setCell ⟨B, 8, none⟩ (.slice ao7 tl.length cp7)) = w4
  have HB4 : Hid (w4.heap[B]? = some (.cells #[.int .i64 z0, .int .i64 z1, .int .u64 n2, .int .u64 n10, .int .u64 n18, .int .u64 n26, .int .u64 n34, .int .u64 n42, .slice ao7 tl.length cp7] 28 (0, 0))) := by rw [← hw4]; exact put9 HB2.out _ _ _ _ _ _ _ _ _
  have HZ4 : Hid (w4.heap[w.heap.size + 1]? = some (.cells #[.int .i64 0, .int .i64 0, .int .u64 0, .int .u64 0, .int .u64 0, .int .u64 0, .int .u64 0, .int .u64 0, .slice none 0 0] 28 (0, 0))) := by rw [← hw4]; exact (far9 HBne.out.1 _ _ _ _ _ _ _ _ _).trans HZ2.out
  have HT4 : Hid (w4.heap[w.heap.size]? = some (.cells #[.slice (some ⟨b, off, none⟩) 54 54] 26 (0, 0))) := by rw [← hw4]; exact (far9 HBne.out.2.1 _ _ _ _ _ _ _ _ _).trans HT2.out
  have HG4 : Hid (Grow w w4) := by rw [← hw4]; exact grow9 HG2.out (by have := HB3.out; have := HGX.out.size; omega) _ _ _ _ _ _ _ _ _
  have HO4 : Hid (w4.ownsRow wX.heap.size 5 1 (.slice ao7 tl.length cp7) tl.length (tl.map (Value.int .u8))) := by rw [← hw4]; exact own_set HOB.out HB2.out (by decide) (fun k hk => far9 hk _ _ _ _ _ _ _ _ _)
  have HC4 : Hid (∀ i, i < 54 → w4.cell? ⟨b, off + i, none⟩ = some (.int .u8 (zs.getD i 0))) := fun i hi => (HG4.out.cell (block_lt (HVw.out.2.cells i (by rw [HLen.out]; exact hi)))).trans (HVw.out.2.cells i (by rw [HLen.out]; exact hi))
  have hok4 : FrOk w4 (ofF zs (.slice ao7 tl.length cp7)) := of_ok HVw.out.1 (by rw [HTL.out]; exact ints_of_owns HO4.out)
  have HVal4 : Hid ((ofF zs (.slice ao7 tl.length cp7)).val = .agg #[.int .i64 z0, .int .i64 z1, .int .u64 n2, .int .u64 n10, .int .u64 n18, .int .u64 n26, .int .u64 n34, .int .u64 n42, .slice ao7 tl.length cp7]) := by show _ = _; rw [HOF.out]; rfl
  have HMay : Hid (∀ x, Grow w4 x → Calls Try.prog 10 #[.agg #[.int .i64 z0, .int .i64 z1, .int .u64 n2, .int .u64 n10, .int .u64 n18, .int .u64 n26, .int .u64 n34, .int .u64 n42, .slice ao7 tl.length cp7]] x fun e w' => e = .returned (.bool (mayF (ofF zs (.slice ao7 tl.length cp7)))) ∧ Grow x w') := fun x hx => by
    have := may_any _ x (hok4.mono hx)
    rwa [HVal4.out] at this
  have HFOk := Lib.hid hok4
  have HZC : Hid (zeroCells = #[.int .i64 0, .int .i64 0, .int .u64 0, .int .u64 0, .int .u64 0, .int .u64 0, .int .u64 0, .int .u64 0, .slice none 0 0]) := rfl
  have hle2 : w.heap.size + 1 ≠ w.heap.size := by omega
  clear hw4 p0 p1 p2 p3 p4 p5 p6 p7 p8 q1 q2 q3 q4 q5 q6 q7 q8 q9 q10 q11 hok4
  cases hmb : mayF (ofF zs (.slice ao7 tl.length cp7))
  · have HMB := Lib.hid hmb
    have HNo : Hid (¬ okF zs) := fun h => by
      have h2 : mayF (ofF zs (.slice ao7 tl.length cp7)) = true := h.2.1
      rw [HMB.out] at h2; cases h2
    clear hmb
    refine wp_region_grow 10 [] NoBlock (fun _ => True) (by kernel_rfl) (by kernel_rfl) (by rfl) (fun _ _ _ _ => trivial) trivial ?_
    simp only [List.take_succ_cons, List.take_zero, List.drop_succ_cons, List.drop_zero]
    refine wpH_det (.agg #[.int .i64 z0, .int .i64 z1, .int .u64 n2, .int .u64 n10, .int .u64 n18, .int .u64 n26, .int .u64 n34, .int .u64 n42, .slice ao7 tl.length cp7]) (by rfl) (fun xs => by rfl) (fun xs w' hg hf => ?_) ?_
    · clear hf
      obtain ⟨⟨r0, r1, r2, r3, r4⟩, r5, r6, r7, r8⟩ := blkF ((hg.below.block _ (lt_of_block HB4.out)).trans HB4.out)
      clear hg
      go_simp
      exact Below.refl _ _
    try go_simp
    refine wpH_det (.bool false) (by rfl) (fun xs => by rfl) (fun xs w' hg hf => ?_) ?_
    · clear hf
      have h := HMay.out w' hg.below
      rw [HMB.out] at h
      clear hg
      go_simp
      refine h.mono ?_
      rintro e w1 ⟨rfl, hg1⟩
      exact ⟨_, rfl, rfl, hg1⟩
    try go_simp
    repeat (refine wpH_pure (by intro _ _ h; cases h) (by rfl) (by rfl) (fun K hK => ?_); go_simp; refine hK _ ?_; clear hK K)
    refine wpH_nil ?_
    intro xs w5 hg hc hx2
    have HG5 := Lib.hid (HG4.out.trans hg.below)
    have hz5 := (hg.below.block _ (lt_of_block HZ4.out)).trans HZ4.out
    have hf5 := (hg.below.block _ (lt_of_block HB4.out)).trans HB4.out
    have HO5 := Lib.hid (own_grow HO4.out hg.below)
    have HZ5 := Lib.hid hz5
    clear hc hx2 hg
    obtain ⟨⟨s0, s1, s2, s3, s4⟩, s5, s6, s7, s8⟩ := blkF hz5
    obtain ⟨⟨f0, f1, f2, f3, f4⟩, f5, f6, f7, f8⟩ := blkFz hz5
    obtain ⟨⟨r0, r1, r2, r3, r4⟩, r5, r6, r7, r8⟩ := blkF hf5
    clear hz5 hf5
    simp only [fill]
    go_simp
    go_wp2_with fail
    refine bodyPost_ret (v := .tuple #[.agg zeroCells, .int .i64 4]) (by rw [HZC.out]; simp [results, Try.results14, go_sem, s0, s1, s2, s3, s4, s5, s6, s7, s8]) rfl (Or.inr ⟨HNo.out, rfl, ?_⟩)
    exact grow9 HG5.out (Nat.le_succ _) _ _ _ _ _ _ _ _ _
  · have HMB := Lib.hid hmb
    have hle := may_len hmb
    clear hmb
    have HFb : Hid (∀ x, Grow w4 x → Calls Try.prog 28 #[.agg #[.int .i64 z0, .int .i64 z1, .int .u64 n2, .int .u64 n10, .int .u64 n18, .int .u64 n26, .int .u64 n34, .int .u64 n42, .slice ao7 tl.length cp7]] x fun e w' => ∃ u, e = .returned u ∧ NewBytes x (frB (ofF zs (.slice ao7 tl.length cp7))) u w') := fun x hx => by
      have := fbytes_any _ x (HFOk.out.mono hx) hle
      rwa [HVal4.out] at this
    have HFL : Hid ((frB (ofF zs (.slice ao7 tl.length cp7))).length = 54) := by
      show _ = _
      rw [frB_length]
      show 54 + (zs.drop 54).length = 54
      rw [List.length_drop, HLen.out]; (try omega)
    have HIff : Hid (okF zs ↔ frB (ofF zs (.slice ao7 tl.length cp7)) = zs) := ⟨fun h => h.2.2, fun h => ⟨by rw [HLen.out]; exact h54, HMB.out, h⟩⟩
    have hle' := hle
    clear hle
    obtain ⟨fb, hfb⟩ : ∃ l, frB (ofF zs (.slice ao7 tl.length cp7)) = l := ⟨_, rfl⟩
    rw [hfb] at HFb HFL HIff
    clear hfb hle'
    cases hq : decide (fb = zs)
    · have HQ := Lib.hid hq
      have HNo : Hid (¬ okF zs) := fun h => absurd (HIff.out.1 h) (of_decide_eq_false HQ.out)
      clear hq
      refine wp_region_grow 10 [] NoBlock (fun _ => True) (by kernel_rfl) (by kernel_rfl) (by rfl) (fun _ _ _ _ => trivial) trivial ?_
      simp only [List.take_succ_cons, List.take_zero, List.drop_succ_cons, List.drop_zero]
      refine wpH_det (.agg #[.int .i64 z0, .int .i64 z1, .int .u64 n2, .int .u64 n10, .int .u64 n18, .int .u64 n26, .int .u64 n34, .int .u64 n42, .slice ao7 tl.length cp7]) (by rfl) (fun xs => by rfl) (fun xs w' hg hf => ?_) ?_
      · clear hf
        obtain ⟨⟨r0, r1, r2, r3, r4⟩, r5, r6, r7, r8⟩ := blkF ((hg.below.block _ (lt_of_block HB4.out)).trans HB4.out)
        clear hg
        go_simp
        exact Below.refl _ _
      try go_simp
      refine wpH_det (.bool true) (by rfl) (fun xs => by rfl) (fun xs w' hg hf => ?_) ?_
      · clear hf
        have h := HMay.out w' hg.below
        rw [HMB.out] at h
        clear hg
        go_simp
        refine h.mono ?_
        rintro e w1 ⟨rfl, hg1⟩
        exact ⟨_, rfl, rfl, hg1⟩
      try go_simp
      repeat (refine wpH_pure (by intro _ _ h; cases h) (by rfl) (by rfl) (fun K hK => ?_); go_simp; refine hK _ ?_; clear hK K)
      refine wpH_det (.agg #[.int .i64 z0, .int .i64 z1, .int .u64 n2, .int .u64 n10, .int .u64 n18, .int .u64 n26, .int .u64 n34, .int .u64 n42, .slice ao7 tl.length cp7]) (by rfl) (fun xs => by rfl) (fun xs w' hg hf => ?_) ?_
      · clear hf
        obtain ⟨⟨r0, r1, r2, r3, r4⟩, r5, r6, r7, r8⟩ := blkF ((hg.below.block _ (lt_of_block HB4.out)).trans HB4.out)
        clear hg
        go_simp
        exact Below.refl _ _
      try go_simp
      refine wpH_hid (OwnB w4.heap.size fb) rfl (by rfl) (fun u x x' hg h => own_grow h hg.below) (fun xs => by rfl) (fun xs w' hg hf => ?_) ?_
      · clear hf
        have h := HFb.out w' hg.below
        have hs := Lib.hid hg.below.size
        clear hg
        go_simp
        refine h.mono ?_
        rintro e w1 ⟨u, rfl, hn⟩
        exact ⟨u, rfl, own_base hn.1 hs.out, hn.2⟩
      try go_simp
      refine wpH_det (.slice (some ⟨b, off, none⟩) 54 54) (by rfl) (fun xs => by rfl) (fun xs w' hg hf => ?_) ?_
      · clear hf
        have hx := hg.below.cell (block_lt (cell_of_one HT4.out))
        have hy := hx.trans (cell_of_one HT4.out)
        clear hx hg
        go_simp
        exact Below.refl _ _
      try go_simp
      refine wpH_det (.bool false) (by rfl) (fun xs => by rfl) (fun xs w' hg hf => ?_) ?_
      · have h1 := hf _ (List.Mem.head _) (by rfl)
        try dsimp only at h1
        clear hf
        have hi := ints_of_owns h1
        simp only [fill]
        generalize xs 43 = y43 at *
        obtain ⟨b9, o9, c9, rfl, _, _⟩ := hi.solid (fun e => by have := HFL.out; rw [e] at this; (first | (simp at this; done) | (simp at this; omega)))
        rw [HFL.out] at hi
        have heq := bytes_equal (w := w') (b := b9) (off := o9) (c := c9) (b' := b) (off' := off) (c' := 54) (n := 54) HFL.out HLen.out (by omega) (fun i h => hi.cells i (by rw [HFL.out]; exact h)) (fun i h => (hg.below.cell (block_lt (HC4.out i h))).trans (HC4.out i h))
        rw [HQ.out] at heq
        have HEQ := Lib.hid heq
        have HFLx := HFL.out
        clear hi h1 hg heq
        rw [HFLx]
        clear HFLx
        go_simp
        refine HEQ.out.mono ?_
        rintro e w1 ⟨rfl, q, rfl⟩
        exact ⟨_, rfl, rfl, grow_dn (Grow.refl _) q⟩
      try go_simp
      repeat (refine wpH_pure (by intro _ _ h; cases h) (by rfl) (by rfl) (fun K hK => ?_); go_simp; refine hK _ ?_; clear hK K)
      refine wpH_nil ?_
      intro xs w5 hg hc hx2
      have HG5 := Lib.hid (HG4.out.trans hg.below)
      have hz5 := (hg.below.block _ (lt_of_block HZ4.out)).trans HZ4.out
      have hf5 := (hg.below.block _ (lt_of_block HB4.out)).trans HB4.out
      have HO5 := Lib.hid (own_grow HO4.out hg.below)
      have HZ5 := Lib.hid hz5
      clear hc hx2 hg
      obtain ⟨⟨s0, s1, s2, s3, s4⟩, s5, s6, s7, s8⟩ := blkF hz5
      obtain ⟨⟨f0, f1, f2, f3, f4⟩, f5, f6, f7, f8⟩ := blkFz hz5
      obtain ⟨⟨r0, r1, r2, r3, r4⟩, r5, r6, r7, r8⟩ := blkF hf5
      clear hz5 hf5
      simp only [fill]
      generalize xs 43 = y43
      go_simp
      go_wp2_with fail
      refine bodyPost_ret (v := .tuple #[.agg zeroCells, .int .i64 4]) (by rw [HZC.out]; simp [results, Try.results14, go_sem, s0, s1, s2, s3, s4, s5, s6, s7, s8]) rfl (Or.inr ⟨HNo.out, rfl, ?_⟩)
      exact grow9 HG5.out (Nat.le_succ _) _ _ _ _ _ _ _ _ _
    · have HQ := Lib.hid hq
      have HYes : Hid (okF zs) := HIff.out.2 (of_decide_eq_true HQ.out)
      clear hq
      refine wp_region_grow 10 [] NoBlock (fun _ => True) (by kernel_rfl) (by kernel_rfl) (by rfl) (fun _ _ _ _ => trivial) trivial ?_
      simp only [List.take_succ_cons, List.take_zero, List.drop_succ_cons, List.drop_zero]
      refine wpH_det (.agg #[.int .i64 z0, .int .i64 z1, .int .u64 n2, .int .u64 n10, .int .u64 n18, .int .u64 n26, .int .u64 n34, .int .u64 n42, .slice ao7 tl.length cp7]) (by rfl) (fun xs => by rfl) (fun xs w' hg hf => ?_) ?_
      · clear hf
        obtain ⟨⟨r0, r1, r2, r3, r4⟩, r5, r6, r7, r8⟩ := blkF ((hg.below.block _ (lt_of_block HB4.out)).trans HB4.out)
        clear hg
        go_simp
        exact Below.refl _ _
      try go_simp
      refine wpH_det (.bool true) (by rfl) (fun xs => by rfl) (fun xs w' hg hf => ?_) ?_
      · clear hf
        have h := HMay.out w' hg.below
        rw [HMB.out] at h
        clear hg
        go_simp
        refine h.mono ?_
        rintro e w1 ⟨rfl, hg1⟩
        exact ⟨_, rfl, rfl, hg1⟩
      try go_simp
      repeat (refine wpH_pure (by intro _ _ h; cases h) (by rfl) (by rfl) (fun K hK => ?_); go_simp; refine hK _ ?_; clear hK K)
      refine wpH_det (.agg #[.int .i64 z0, .int .i64 z1, .int .u64 n2, .int .u64 n10, .int .u64 n18, .int .u64 n26, .int .u64 n34, .int .u64 n42, .slice ao7 tl.length cp7]) (by rfl) (fun xs => by rfl) (fun xs w' hg hf => ?_) ?_
      · clear hf
        obtain ⟨⟨r0, r1, r2, r3, r4⟩, r5, r6, r7, r8⟩ := blkF ((hg.below.block _ (lt_of_block HB4.out)).trans HB4.out)
        clear hg
        go_simp
        exact Below.refl _ _
      try go_simp
      refine wpH_hid (OwnB w4.heap.size fb) rfl (by rfl) (fun u x x' hg h => own_grow h hg.below) (fun xs => by rfl) (fun xs w' hg hf => ?_) ?_
      · clear hf
        have h := HFb.out w' hg.below
        have hs := Lib.hid hg.below.size
        clear hg
        go_simp
        refine h.mono ?_
        rintro e w1 ⟨u, rfl, hn⟩
        exact ⟨u, rfl, own_base hn.1 hs.out, hn.2⟩
      try go_simp
      refine wpH_det (.slice (some ⟨b, off, none⟩) 54 54) (by rfl) (fun xs => by rfl) (fun xs w' hg hf => ?_) ?_
      · clear hf
        have hx := hg.below.cell (block_lt (cell_of_one HT4.out))
        have hy := hx.trans (cell_of_one HT4.out)
        clear hx hg
        go_simp
        exact Below.refl _ _
      try go_simp
      refine wpH_det (.bool true) (by rfl) (fun xs => by rfl) (fun xs w' hg hf => ?_) ?_
      · have h1 := hf _ (List.Mem.head _) (by rfl)
        try dsimp only at h1
        clear hf
        have hi := ints_of_owns h1
        simp only [fill]
        generalize xs 43 = y43 at *
        obtain ⟨b9, o9, c9, rfl, _, _⟩ := hi.solid (fun e => by have := HFL.out; rw [e] at this; (first | (simp at this; done) | (simp at this; omega)))
        rw [HFL.out] at hi
        have heq := bytes_equal (w := w') (b := b9) (off := o9) (c := c9) (b' := b) (off' := off) (c' := 54) (n := 54) HFL.out HLen.out (by omega) (fun i h => hi.cells i (by rw [HFL.out]; exact h)) (fun i h => (hg.below.cell (block_lt (HC4.out i h))).trans (HC4.out i h))
        rw [HQ.out] at heq
        have HEQ := Lib.hid heq
        have HFLx := HFL.out
        clear hi h1 hg heq
        rw [HFLx]
        clear HFLx
        go_simp
        refine HEQ.out.mono ?_
        rintro e w1 ⟨rfl, q, rfl⟩
        exact ⟨_, rfl, rfl, grow_dn (Grow.refl _) q⟩
      try go_simp
      repeat (refine wpH_pure (by intro _ _ h; cases h) (by rfl) (by rfl) (fun K hK => ?_); go_simp; refine hK _ ?_; clear hK K)
      refine wpH_nil ?_
      intro xs w5 hg hc hx2
      have HG5 := Lib.hid (HG4.out.trans hg.below)
      have hz5 := (hg.below.block _ (lt_of_block HZ4.out)).trans HZ4.out
      have hf5 := (hg.below.block _ (lt_of_block HB4.out)).trans HB4.out
      have HO5 := Lib.hid (own_grow HO4.out hg.below)
      have HZ5 := Lib.hid hz5
      clear hc hx2 hg
      obtain ⟨⟨s0, s1, s2, s3, s4⟩, s5, s6, s7, s8⟩ := blkF hz5
      obtain ⟨⟨f0, f1, f2, f3, f4⟩, f5, f6, f7, f8⟩ := blkFz hz5
      obtain ⟨⟨r0, r1, r2, r3, r4⟩, r5, r6, r7, r8⟩ := blkF hf5
      clear hz5 hf5
      simp only [fill]
      generalize xs 43 = y43
      go_simp
      go_wp2_with fail
      have hval : (ofF zs (.slice ao7 tl.length cp7)).val = .agg #[.int .i64 z0, .int .i64 z1, .int .u64 n2, .int .u64 n10, .int .u64 n18, .int .u64 n26, .int .u64 n34, .int .u64 n42, .slice ao7 tl.length cp7] := by rw [HOF.out]; rfl
      have HVal := Lib.hid hval
      clear hval
      refine bodyPost_ret (v := .tuple #[(ofF zs (.slice ao7 tl.length cp7)).val, .int .i64 0]) (by rw [HVal.out]; simp [results, Try.results14, go_sem, s0, s1, s2, s3, s4, s5, s6, s7, s8]) rfl (Or.inl ⟨HYes.out, _, rfl, ?_⟩)
      rw [HTL.out]
      refine ⟨own_base (own_set HO5.out HZ5.out (by decide) (fun k hk => far9 hk _ _ _ _ _ _ _ _ _)) (by have := HGX.out.size; omega), grow9 HG5.out (Nat.le_succ _) _ _ _ _ _ _ _ _ _⟩

theorem of_any (v : Value) (zs : List Int) (w : World) (hv : BytesV w v zs) (hz : zs.length ≤ 6000) : Calls Try.prog 14 #[v] w (SomeOf zs w) := by
  by_cases h : zs.length < 54
  · exact of_short v zs w hv h
  · obtain ⟨b, off, cap, rfl, h1, h2⟩ := hv.2.solid (fun e => h (by rw [e]; decide))
    by_cases hc : cap = 54
    · exact of_54 hv (by omega) hz hc
    · exact of_long hv (by omega) hz hc
end Go.Proofs.Ytiphhjipgjpepaa
