/- Which frames may be, their bytes, and which bytes are which frame, is what the chapter says, in new memory. For any frame with at most 5000 bytes, any at most 5000 bytes. -/
import Derived.Test.YtiphhjipgjpepaaRows
import Derived.Test.YtiphhjipgjpepaaFrOpen
import Derived.Test.YtiphhjipgjpepaaFrSame2
import Derived.Test.YtiphhjipgjpepaaFrROf
import Derived.WalkKit
import Derived.ProofKit
import Derived.OpenShut
import Derived.ShutString
import Derived.ChangeOld
import Derived.Below
set_option linter.unusedVariables false
namespace Go.Proofs.Ytiphhjipgjpepaa.frameBytes
open Go.ChangeShapes Go.WideShapes Go.ChangeAt Go.RowKit
open Go.ChangeMaps (open_string shut_string)
set_option linter.unusedSimpArgs false
theorem own : ownKnob Try.prog.godebug = none := by kernel_rfl
theorem laidOut : laidOutB Try.prog = true := by kernel_rfl


/-- A call whose answer is known, wherever memory has grown to. -/
def Ask (fn : Nat) (args : Array Value) (v : Value) (w : World) : Prop := ∀ y, Grow w y → Calls Try.prog fn args y fun e w' => e = .returned v ∧ Grow y w'
/-- A call that answers a new slice of bytes. -/
def AskB (fn : Nat) (args : Array Value) (f : Value → Value) (zs : List Int) (w : World) : Prop := ∀ y, Grow w y → Calls Try.prog fn args y fun e w' => ∃ u, e = .returned (f u) ∧ NewBytes y zs u w'
def AskV (fn : Nat) (args : Array Value) (f : Value → Value) (zs : List Int) (w : World) : Prop := ∀ y, Grow w y → Calls Try.prog fn args y fun e w' => ∃ u, e = .returned (f u) ∧ BytesV w' u zs ∧ Grow y w'
def AskS (v : Value) (s : ByteArray) (w : World) : Prop := ∀ y, Grow w y → (convert 26 9 v).run Try.prog y = .ok (.string s) y
theorem ask_str {v : Value} {zs : List Int} {w : World} (h : BytesV w v zs) : AskS v (strOfNums zs) w := fun y hy => str_of (h.mono hy)
theorem ask_known (w : World) : Ask 8 #[] (.bool true) w := fun y hy => known_any y
def zeroF : Fr := ⟨0, 0, 0, 0, 0, 0, 0, 0, .slice none 0 0, []⟩
theorem zero_ok (w : World) : FrOk w zeroF := ⟨⟨by decide, by decide⟩, ⟨by decide, by decide⟩, ⟨by decide, by decide⟩, ⟨by decide, by decide⟩, ⟨by decide, by decide⟩, ⟨by decide, by decide⟩, ⟨by decide, by decide⟩, ⟨by decide, by decide⟩, ⟨Bytes.nil, Or.inl ⟨rfl, _, _, rfl, Nat.zero_le _, fun _ => rfl⟩⟩⟩
theorem zero_same (w : World) : Ask 16 #[.agg #[.int .i64 0, .int .i64 0, .int .u64 0, .int .u64 0, .int .u64 0, .int .u64 0, .int .u64 0, .int .u64 0, .slice none 0 0], .agg #[.int .i64 0, .int .i64 0, .int .u64 0, .int .u64 0, .int .u64 0, .int .u64 0, .int .u64 0, .int .u64 0, .slice none 0 0]] (.bool true) w := fun y hy => by
  have := rsame_any zeroF zeroF y (zero_ok y) (zero_ok y)
  rw [sameF_refl] at this
  exact this

theorem lt_owned {w : World} {base : Nat} {e : TypeId} {size : Nat} {v : Value} {n : Nat} {xs : List Value} (h : w.ownsRow base e size v n xs) : ∀ g, v.ownBlock = some g → base ≤ g ∧ g < w.heap.size := h.lt

set_option maxRecDepth 100000 in
set_option maxHeartbeats 1000000 in
theorem long1 (f : Fr) (v : Value) (bz : List Int) (w : World) (hok : FrOk w f) (hv : BytesV w v bz) (hl : 5000 < f.zs.length) : Calls Try.prog 3 #[f.val, v] w fun e w' => e = .returned (.bool true) ∧ Below w.heap.size w w' := by
  obtain ⟨kd, nd, mb, mt, tb, tt, sq, ak, fv, zs⟩ := f
  obtain ⟨ao, cap, hfv, h1, h2⟩ := hok.body.shape
  dsimp only at *
  subst hfv
  simp only [Fr.val, Fr.cells, frCells] at *
  unfold maxLen at h2
  obtain ⟨bo, bc, rfl, h3, h4⟩ := hv.shape
  unfold maxLen at h4
  clear hok hv
  generalize zs.length = m at *
  generalize bz.length = bm at *
  have HW : Hid (Grow w (w.alloc (.cells #[.int .i64 kd, .int .i64 nd, .int .u64 mb, .int .u64 mt, .int .u64 tb, .int .u64 tt, .int .u64 sq, .int .u64 ak, .slice ao m cap] 28))) := (Grow.refl w).alloc _
  go_enter Try.func3, Try.ntmps3
  go_wp2_with fail
  refine (known_any _).mono ?_
  rintro e w1 ⟨rfl, hg⟩
  have HG := Lib.hid (HW.out.trans hg)
  clear hg
  go_wp2_with fail
  go_ret
  exact ⟨rfl, HG.out⟩

set_option maxRecDepth 100000 in
set_option maxHeartbeats 1000000 in
theorem long2 (f : Fr) (v : Value) (bz : List Int) (w : World) (hok : FrOk w f) (hv : BytesV w v bz) (hl : f.zs.length ≤ 5000) (hl2 : 5000 < bz.length) : Calls Try.prog 3 #[f.val, v] w fun e w' => e = .returned (.bool true) ∧ Below w.heap.size w w' := by
  obtain ⟨kd, nd, mb, mt, tb, tt, sq, ak, fv, zs⟩ := f
  obtain ⟨ao, cap, hfv, h1, h2⟩ := hok.body.shape
  dsimp only at *
  subst hfv
  simp only [Fr.val, Fr.cells, frCells] at *
  unfold maxLen at h2
  obtain ⟨bo, bc, rfl, h3, h4⟩ := hv.shape
  unfold maxLen at h4
  clear hok hv
  generalize zs.length = m at *
  generalize bz.length = bm at *
  have HW : Hid (Grow w (w.alloc (.cells #[.int .i64 kd, .int .i64 nd, .int .u64 mb, .int .u64 mt, .int .u64 tb, .int .u64 tt, .int .u64 sq, .int .u64 ak, .slice ao m cap] 28))) := (Grow.refl w).alloc _
  go_enter Try.func3, Try.ntmps3
  go_wp2_with fail
  refine (known_any _).mono ?_
  rintro e w1 ⟨rfl, hg⟩
  have HG := Lib.hid (HW.out.trans hg)
  clear hg
  go_wp2_with fail
  go_ret
  exact ⟨rfl, HG.out⟩

set_option maxRecDepth 100000 in
set_option maxHeartbeats 4000000 in
theorem main_yy (f : Fr) (v : Value) (bz : List Int) (w : World) (hok : FrOk w f) (hv : BytesV w v bz) (hl1 : f.zs.length ≤ 5000) (hl2 : bz.length ≤ 5000) (hm : mayF f = true) (hq : okF bz) : Calls Try.prog 3 #[f.val, v] w fun e w' => e = .returned (.bool true) ∧ Below w.heap.size w w' := by
  have H10 : Hid (Ask 10 #[f.val] (.bool true) w) := fun y hy => by rw [← hm]; exact may_any f y (hok.mono hy)
  have H11 : Hid (Ask 11 #[f.val] (.bool true) w) := fun y hy => by rw [← hm]; exact rmay_any f y (hok.mono hy)
  have HK := Lib.hid (ask_known w)
  have HC := Lib.hid (ask_str hv)
  have HV := Lib.hid hv
  have HFBy := Lib.hid (frB_bytes f hok.body.1)
  have H9 : Hid (AskB 9 #[f.val] (fun u => .tuple #[u, .int .i64 0]) (frB f) w) := fun y hy => by
    refine (fBytes_any f y (hok.mono hy) hl1).mono ?_
    rintro e w' (⟨_, u, rfl, h⟩ | ⟨h, _⟩)
    · exact ⟨u, rfl, h⟩
    · rw [hm] at h; cases h
  have H12 : Hid (AskB 12 #[f.val] (fun u => u) (frB f) w) := fun y hy => rfbytes_any f y (hok.mono hy) hl1
  generalize frB f = fb at *
  obtain ⟨z0, hz0⟩ : ∃ x, bz.getD 0 0 = x := ⟨_, rfl⟩
  obtain ⟨z1, hz1⟩ : ∃ x, bz.getD 1 0 = x := ⟨_, rfl⟩
  obtain ⟨n2, hn2⟩ : ∃ x, num8 bz 2 = x := ⟨_, rfl⟩
  obtain ⟨n10, hn10⟩ : ∃ x, num8 bz 10 = x := ⟨_, rfl⟩
  obtain ⟨n18, hn18⟩ : ∃ x, num8 bz 18 = x := ⟨_, rfl⟩
  obtain ⟨n26, hn26⟩ : ∃ x, num8 bz 26 = x := ⟨_, rfl⟩
  obtain ⟨n34, hn34⟩ : ∃ x, num8 bz 34 = x := ⟨_, rfl⟩
  obtain ⟨n42, hn42⟩ : ∃ x, num8 bz 42 = x := ⟨_, rfl⟩
  obtain ⟨tl, htl⟩ : ∃ l, bz.drop 54 = l := ⟨_, rfl⟩
  have hof : ∀ u, ofF bz u = ⟨z0, z1, n2, n10, n18, n26, n34, n42, u, tl⟩ := fun u => by rw [← htl, ← hz0, ← hz1, ← hn2, ← hn10, ← hn18, ← hn26, ← hn34, ← hn42]; rfl
  have hfo : ∀ u y, BytesV y u tl → FrOk y ⟨z0, z1, n2, n10, n18, n26, n34, n42, u, tl⟩ := fun u y h => by rw [← hof]; exact of_ok hv.1 (by rw [htl]; exact h.2)
  have HTB : Hid (Bytes tl) := by rw [← htl]; exact hv.1.drop 54
  have H14 : Hid (AskB 14 #[v] (fun u => .tuple #[.agg #[.int .i64 z0, .int .i64 z1, .int .u64 n2, .int .u64 n10, .int .u64 n18, .int .u64 n26, .int .u64 n34, .int .u64 n42, u], .int .i64 0]) tl w) := fun y hy => by
    refine (of_any v bz y (hv.mono hy) (by omega)).mono ?_
    rintro e w' (⟨_, u, rfl, h⟩ | ⟨h, _⟩)
    · rw [htl] at h; exact ⟨u, by rw [hof u]; rfl, h⟩
    · exact absurd hq h
  have H15 : Hid (AskV 15 #[v] (fun u => .tuple #[.agg #[.int .i64 z0, .int .i64 z1, .int .u64 n2, .int .u64 n10, .int .u64 n18, .int .u64 n26, .int .u64 n34, .int .u64 n42, u], .bool true]) tl w) := fun y hy => by
    refine (rfof_any v bz y (hv.mono hy) hl2).mono ?_
    rintro e w' (⟨_, u, rfl, h⟩ | ⟨h, _⟩)
    · rw [htl] at h; exact ⟨u, by rw [hof u]; rfl, h⟩
    · exact absurd hq h
  have H16 : Hid (∀ u u' y, BytesV y u tl → BytesV y u' tl → Calls Try.prog 16 #[.agg #[.int .i64 z0, .int .i64 z1, .int .u64 n2, .int .u64 n10, .int .u64 n18, .int .u64 n26, .int .u64 n34, .int .u64 n42, u], .agg #[.int .i64 z0, .int .i64 z1, .int .u64 n2, .int .u64 n10, .int .u64 n18, .int .u64 n26, .int .u64 n34, .int .u64 n42, u']] y fun e w' => e = .returned (.bool true) ∧ Grow y w') := fun u u' y h h' => by
    have := rsame_any _ _ y (hfo u y h) (hfo u' y h')
    rwa [show sameF ⟨z0, z1, n2, n10, n18, n26, n34, n42, u, tl⟩ ⟨z0, z1, n2, n10, n18, n26, n34, n42, u', tl⟩ = true from decide_eq_true ⟨rfl, rfl, rfl, rfl, rfl, rfl, rfl, rfl, rfl⟩] at this
  clear hof hfo hz0 hz1 hn2 hn10 hn18 hn26 hn34 hn42 htl
  generalize strOfNums bz = sz at *
  clear hm hq
  obtain ⟨kd, nd, mb, mt, tb, tt, sq, ak, fv, zs⟩ := f
  obtain ⟨ao, cap, hfv, h1, h2⟩ := hok.body.shape
  dsimp only at *
  subst hfv
  simp only [Fr.val, Fr.cells, frCells] at *
  unfold maxLen at h2
  obtain ⟨bo, bc, rfl, h3, h4⟩ := hv.shape
  unfold maxLen at h4
  clear hok hv
  generalize zs.length = m at *
  generalize bz.length = bm at *
  have HW : Hid (Grow w (w.alloc (.cells #[.int .i64 kd, .int .i64 nd, .int .u64 mb, .int .u64 mt, .int .u64 tb, .int .u64 tt, .int .u64 sq, .int .u64 ak, .slice ao m cap] 28))) := (Grow.refl w).alloc _
  unfold Ask AskB AskV at *
  unfold AskS at HC
  have HF : Hid (∀ x, Grow (w.alloc (.cells #[.int .i64 kd, .int .i64 nd, .int .u64 mb, .int .u64 mt, .int .u64 tb, .int .u64 tt, .int .u64 sq, .int .u64 ak, .slice ao m cap] 28)) x → x.heap[w.heap.size]? = some (.cells #[.int .i64 kd, .int .i64 nd, .int .u64 mb, .int .u64 mt, .int .u64 tb, .int .u64 tt, .int .u64 sq, .int .u64 ak, .slice ao m cap] 28 (0, 0))) := fun x hx => (hx.block _ (lt_of_block (heap_alloc_new w _))).trans (heap_alloc_new w _)
  go_enter Try.func3, Try.ntmps3
  go_wp2_with fail
  refine (H9.out _ HW.out).mono ?_
  rintro e w1 ⟨u5, rfl, hn⟩
  have HB1 := Lib.hid hn.2
  have HU5 := Lib.hid (newb_bytes hn HFBy.out)
  obtain ⟨a5, c5, rfl, h5, h6⟩ := HU5.out.shape
  clear hn
  go_wp2_with fail
  refine wp_region_grow 5 [] NoBlock (fun _ => True) (by kernel_rfl) (by kernel_rfl) (by rfl) (fun _ _ _ _ => trivial) trivial ?_
  simp only [List.take_succ_cons, List.take_zero, List.drop_succ_cons, List.drop_zero]
  refine wpH_det' (.agg #[.int .i64 kd, .int .i64 nd, .int .u64 mb, .int .u64 mt, .int .u64 tb, .int .u64 tt, .int .u64 sq, .int .u64 ak, .slice ao m cap]) (by intro _ _ h; cases h) (by rfl) (by rfl) (by rfl) (fun w' hg => ?_) ?_
  · obtain ⟨⟨y0, y1, y2, y3, y4⟩, y5, y6, y7, y8⟩ := blkF (HF.out _ (Grow.trans HB1.out hg.below))
    clear hg
    go_simp
    exact Below.refl _ _
  try go_simp
  refine wpH_det' (.bool true) (by intro _ _ h; cases h) (by rfl) (by rfl) (by rfl) (fun w' hg => ?_) ?_
  · have h := H10.out _ (HW.out.trans (Grow.trans HB1.out hg.below))
    clear hg
    go_simp
    with_reducible refine h.mono ?_
    rintro e w1 ⟨rfl, h⟩
    exact ⟨_, rfl, rfl, h⟩
  try go_simp
  refine wpH_det' (.agg #[.int .i64 kd, .int .i64 nd, .int .u64 mb, .int .u64 mt, .int .u64 tb, .int .u64 tt, .int .u64 sq, .int .u64 ak, .slice ao m cap]) (by intro _ _ h; cases h) (by rfl) (by rfl) (by rfl) (fun w' hg => ?_) ?_
  · obtain ⟨⟨y0, y1, y2, y3, y4⟩, y5, y6, y7, y8⟩ := blkF (HF.out _ (Grow.trans HB1.out hg.below))
    clear hg
    go_simp
    exact Below.refl _ _
  try go_simp
  refine wpH_det' (.bool true) (by intro _ _ h; cases h) (by rfl) (by rfl) (by rfl) (fun w' hg => ?_) ?_
  · have h := H11.out _ (HW.out.trans (Grow.trans HB1.out hg.below))
    clear hg
    go_simp
    with_reducible refine h.mono ?_
    rintro e w1 ⟨rfl, h⟩
    exact ⟨_, rfl, rfl, h⟩
  try go_simp
  repeat (refine wpH_pure (by intro _ _ h; cases h) (by rfl) (by rfl) (fun K hK => ?_); go_simp; refine hK _ ?_; clear hK K)
  refine wpH_nil ?_
  intro xs w2 hg hx1 hx2
  clear hx1 hx2
  have hgg : Grow w1 w2 := hg.below
  have HB2 := Lib.hid (HB1.out.trans hgg)
  have HU5b := Lib.hid (HU5.out.mono hgg)
  clear hg hgg
  simp only [fill]
  go_simp
  obtain ⟨⟨y0, y1, y2, y3, y4⟩, y5, y6, y7, y8⟩ := blkF (HF.out _ HB2.out)
  go_wp2_with fail
  refine (H11.out _ (HW.out.trans HB2.out)).mono ?_
  rintro e w3 ⟨rfl, hg⟩
  have HB3 := Lib.hid (HB2.out.trans hg)
  have HU5c := Lib.hid (HU5b.out.mono hg)
  clear hg y0 y1 y2 y3 y4 y5 y6 y7 y8
  go_wp2_with fail
  refine wp_region_grow 11 [] NoBlock (fun _ => True) (by kernel_rfl) (by kernel_rfl) (by rfl) (fun _ _ _ _ => trivial) trivial ?_
  simp only [List.take_succ_cons, List.take_zero, List.drop_succ_cons, List.drop_zero]
  repeat (refine wpH_pure (by intro _ _ h; cases h) (by rfl) (by rfl) (fun K hK => ?_); go_simp; refine hK _ ?_; clear hK K)
  refine wpH_det' (.string (strOfNums fb)) (by intro _ _ h; cases h) (by rfl) (by rfl) (by rfl) (fun w' hg => ?_) ?_
  · have hc := str_of (HU5c.out.mono hg.below)
    clear hg
    generalize strOfNums fb = s1 at *
    go_simp
    exact Below.refl _ _
  try go_simp
  refine wpH_det' (.agg #[.int .i64 kd, .int .i64 nd, .int .u64 mb, .int .u64 mt, .int .u64 tb, .int .u64 tt, .int .u64 sq, .int .u64 ak, .slice ao m cap]) (by intro _ _ h; cases h) (by rfl) (by rfl) (by rfl) (fun w' hg => ?_) ?_
  · obtain ⟨⟨y0, y1, y2, y3, y4⟩, y5, y6, y7, y8⟩ := blkF (HF.out _ (Grow.trans HB3.out hg.below))
    clear hg
    go_simp
    exact Below.refl _ _
  try go_simp
  refine wpH_hid' (fun u x => BytesV x u fb) (by intro _ _ h; cases h) rfl (by rfl) (bytes_stay _) (by rfl) (by rfl) (fun w' hg => ?_) ?_
  · have h := H12.out _ (HW.out.trans (Grow.trans HB3.out hg.below))
    clear hg
    go_simp
    with_reducible refine h.mono ?_
    rintro e x ⟨u, rfl, h⟩
    exact ⟨_, rfl, newb_bytes h HFBy.out, h.2⟩
  try go_simp
  refine wpH_det (.string (strOfNums fb)) (by rfl) (fun xs => by rfl) (fun xs w' hg hf => ?_) ?_
  · have h1 := hf _ (List.Mem.head _) (by rfl)
    try dsimp only at h1
    clear hf
    have hc := str_of (w := w') (v := xs 38) (zs := fb) h1
    clear hg h1
    simp only [fill]
    generalize xs 38 = y38 at *
    generalize strOfNums fb = s1 at *
    go_simp
    exact Below.refl _ _
  try go_simp
  generalize strOfNums fb = sf at *
  repeat (refine wpH_pure (by intro _ _ h; cases h) (by rfl) (by rfl) (fun K hK => ?_); go_simp; refine hK _ ?_; clear hK K)
  refine wpH_det' (.int .i64 0) (by intro _ _ h; cases h) (by rfl) (by rfl) (by rfl) (fun w' hg => ?_) ?_
  · have h := num_any 0 w'
    clear hg
    go_simp
    with_reducible refine h.mono ?_
    rintro e w1 ⟨rfl, rfl⟩
    exact ⟨_, rfl, rfl, Below.refl _ _⟩
  try go_simp
  repeat (refine wpH_pure (by intro _ _ h; cases h) (by rfl) (by rfl) (fun K hK => ?_); go_simp; refine hK _ ?_; clear hK K)
  refine wpH_nil ?_
  intro xs w4 hg hx1 hx2
  clear hx1 hx2
  have HB4 := Lib.hid (HB3.out.trans (show Grow w3 w4 from hg.below))
  clear hg
  simp only [fill]
  generalize xs 38 = y38
  go_simp
  have hstr := HC.out _ (HW.out.trans HB4.out)
  go_wp2_with fail
  refine (H14.out _ (HW.out.trans HB4.out)).mono ?_
  rintro e w5 ⟨u8, rfl, hn⟩
  have HG5 := Lib.hid ((HW.out.trans HB4.out).trans hn.2)
  have HO5 : Hid (OwnB w.heap.size tl u8 w5) := own_base hn.1 (HW.out.trans HB4.out).size
  have HL5 := Lib.hid (lt_owned hn.1)
  obtain ⟨a8, c8, rfl, h7, h8⟩ := (ints_of_owns HO5.out).shape
  clear hn hstr
  go_wp2_with fail
  refine (H15.out _ (HG5.out.alloc _)).mono ?_
  rintro e w6 ⟨u10, rfl, hv6, hg6⟩
  obtain ⟨a10, c10, rfl, h9, h10⟩ := hv6.shape
  have HG6 := Lib.hid ((HG5.out.alloc _).trans hg6)
  have HN6 := Lib.hid ((hg6.block _ (lt_of_block (heap_alloc_new w5 (.cells #[.int .i64 z0, .int .i64 z1, .int .u64 n2, .int .u64 n10, .int .u64 n18, .int .u64 n26, .int .u64 n34, .int .u64 n42, .slice a8 tl.length c8] 28)))).trans (heap_alloc_new w5 (.cells #[.int .i64 z0, .int .i64 z1, .int .u64 n2, .int .u64 n10, .int .u64 n18, .int .u64 n26, .int .u64 n34, .int .u64 n42, .slice a8 tl.length c8] 28)))
  have HO6 := Lib.hid (show OwnB _ _ _ _ from own_grow (own_grow HO5.out ((Grow.refl w5).alloc (.cells #[.int .i64 z0, .int .i64 z1, .int .u64 n2, .int .u64 n10, .int .u64 n18, .int .u64 n26, .int .u64 n34, .int .u64 n42, .slice a8 tl.length c8] 28))) hg6)
  have HV6 := Lib.hid hv6
  clear hv6 hg6
  have HV7 := Lib.hid (HV6.out.mono ((Grow.refl w6).alloc (.cells #[.int .i64 z0, .int .i64 z1, .int .u64 n2, .int .u64 n10, .int .u64 n18, .int .u64 n26, .int .u64 n34, .int .u64 n42, .slice a10 tl.length c10] 28)))
  have HO7 := Lib.hid (show OwnB _ _ _ _ from own_grow HO6.out ((Grow.refl w6).alloc (.cells #[.int .i64 z0, .int .i64 z1, .int .u64 n2, .int .u64 n10, .int .u64 n18, .int .u64 n26, .int .u64 n34, .int .u64 n42, .slice a10 tl.length c10] 28)))
  have HG7 := Lib.hid (HG6.out.alloc (.cells #[.int .i64 z0, .int .i64 z1, .int .u64 n2, .int .u64 n10, .int .u64 n18, .int .u64 n26, .int .u64 n34, .int .u64 n42, .slice a10 tl.length c10] 28))
  have HN7 := Lib.hid ((((Grow.refl w6).alloc (.cells #[.int .i64 z0, .int .i64 z1, .int .u64 n2, .int .u64 n10, .int .u64 n18, .int .u64 n26, .int .u64 n34, .int .u64 n42, .slice a10 tl.length c10] 28)).block _ (lt_of_block HN6.out)).trans HN6.out)
  have HM7 := Lib.hid (heap_alloc_new w6 (.cells #[.int .i64 z0, .int .i64 z1, .int .u64 n2, .int .u64 n10, .int .u64 n18, .int .u64 n26, .int .u64 n34, .int .u64 n42, .slice a10 tl.length c10] 28))
  obtain ⟨⟨y0, y1, y2, y3, y4⟩, y5, y6, y7, y8⟩ := blkF HN7.out
  obtain ⟨⟨x0, x1, x2, x3, x4⟩, x5, x6, x7, x8⟩ := blkF HM7.out
  go_wp2_with fail
  refine (H16.out _ _ _ ⟨HTB.out, ints_of_owns HO7.out⟩ HV7.out).mono ?_
  rintro e w8 ⟨rfl, hg8⟩
  have HG8 := Lib.hid (HG7.out.trans hg8)
  have hn8 := (hg8.block _ (lt_of_block HN7.out)).trans HN7.out
  have HN8 := Lib.hid hn8
  have HO8 := Lib.hid (show OwnB _ _ _ _ from own_grow HO7.out hg8)
  clear hg8 y0 y1 y2 y3 y4 y5 y6 y7 y8 x0 x1 x2 x3 x4 x5 x6 x7 x8
  obtain ⟨⟨y0, y1, y2, y3, y4⟩, y5, y6, y7, y8⟩ := blkF hn8
  clear hn8
  obtain ⟨P8, hP8⟩ : ∃ P : Nat, w5.heap.size = P := ⟨_, rfl⟩
  rw [hP8] at HL5 HN8 y0 y1 y2 y3 y4 y5 y6 y7 y8
  rw [hP8]
  go_wp2_with fail
  refine (num_any _ _).mono ?_
  rintro e w9 ⟨rfl, rfl⟩
  by_cases hn0 : tl.length = 0
  · rw [hn0] at y8 ⊢
    have hstr := HC.out _ HG8.out
    go_wp2_with fail
    refine wp_loop_rounds 1 ?_
    rw [rounds_succ]
    go_wp2_with fail
    refine (HK.out _ HG8.out).mono ?_
    rintro e w9 ⟨rfl, hg9⟩
    have HG9 := Lib.hid (HG8.out.trans hg9)
    clear hg9
    go_wp2_with fail
    go_ret
    exact ⟨rfl, HG9.out⟩
  · obtain ⟨g, cp, cur, hvr, hbg, _⟩ := own_row HO8.out (by omega)
    injection hvr with hvr1 _ hvr2
    subst hvr1; subst hvr2
    have hgP : g < P8 := (HL5.out g rfl).2
    have HBG := Lib.hid hbg
    have HR8 : Hid (∃ xs, w8.ownsRow w.heap.size 5 1 (.slice (some ⟨g, 0, none⟩) tl.length c8) tl.length xs) := ⟨_, HO8.out⟩
    have HPG : Hid (P8 ≠ g) := by show _ ≠ _; omega
    unfold maxLen at h8
    clear y0 y1 y2 y3 y4 y5 y6 y7 y8 hbg hn0 HO8 HO7 HO6 HO5 H14 H15 H16
    generalize tl.length = n at *
    go_wp2_with fail
    go_loopw [12] (fun i wr => ∃ k : Nat, k ≤ n ∧ i = .int .i64 k ∧ Hid (∃ xs, wr.ownsRow w.heap.size 5 1 (.slice (some ⟨g, 0, none⟩) n c8) n xs) ∧ Hid (wr.heap[P8]? = some (.cells #[.int .i64 z0, .int .i64 z1, .int .u64 n2, .int .u64 n10, .int .u64 n18, .int .u64 n26, .int .u64 n34, .int .u64 n42, .slice (some ⟨g, 0, none⟩) n c8] 28 (0, 0))) ∧ Hid (Grow w wr)) (fun i _ => n - (intOf i).toNat)
    case atStart => exact ⟨0, Nat.zero_le _, rfl, HR8.out, HN8.out, HG8.out⟩
    case round =>
      obtain ⟨k, hk, rfl, HR, HN, HG⟩ := hrel
      obtain ⟨⟨y0, y1, y2, y3, y4⟩, y5, y6, y7, y8⟩ := blkF HN.out
      clear y0 y1 y2 y3 y4 y5 y6 y7
      by_cases hlt : k < n
      · have hk1 : (k : Int) < (n : Int) := by omega
        obtain ⟨xs, hown⟩ := HR.out
        have hfz := hown.frozenAt k
        have hce := hown.cellAt k (by omega)
        obtain ⟨x, hx⟩ : ∃ x, xs[k]? = some x := ⟨_, List.getElem?_eq_getElem (by have := hown.1; omega)⟩
        rw [hx] at hce
        have hst := (hown.stored k (.int .u8 9)).1
        have HNx : Hid ((wr.setCell ⟨g, k, none⟩ (.int .u8 9)).heap[P8]? = some (.cells #[.int .i64 z0, .int .i64 z1, .int .u64 n2, .int .u64 n10, .int .u64 n18, .int .u64 n26, .int .u64 n34, .int .u64 n42, .slice (some ⟨g, 0, none⟩) n c8] 28 (0, 0))) := (Below.heap_setCell _ _ _ _ (show P8 ≠ g from HPG.out)).trans HN.out
        have HGx : Hid (Grow w (wr.setCell ⟨g, k, none⟩ (.int .u8 9))) := Below.setCell (p := ⟨g, k, none⟩) HG.out HBG.out _
        have HRx : Hid (∃ xs, (wr.setCell ⟨g, k, none⟩ (.int .u8 9)).ownsRow w.heap.size 5 1 (.slice (some ⟨g, 0, none⟩) n c8) n xs) := ⟨_, hst⟩
        clear hown hst hx
        go_wp2_with fail
        go_roundw
        case rel => exact ⟨k + 1, by omega, by go_num, HRx.out, HNx.out, HGx.out⟩
        case measure => simp [intOf]; omega
      · have hkn : k = n := by omega
        subst hkn
        have hstr := HC.out _ HG.out
        go_wp2_with fail
        refine (HK.out _ HG.out).mono ?_
        rintro e w9 ⟨rfl, hg9⟩
        have HG9 := Lib.hid (HG.out.trans hg9)
        clear hg9
        go_wp2_with fail
        go_ret
        exact ⟨rfl, HG9.out⟩

set_option maxRecDepth 100000 in
set_option maxHeartbeats 4000000 in
theorem main_yn (f : Fr) (v : Value) (bz : List Int) (w : World) (hok : FrOk w f) (hv : BytesV w v bz) (hl1 : f.zs.length ≤ 5000) (hl2 : bz.length ≤ 5000) (hm : mayF f = true) (hq : ¬ okF bz) : Calls Try.prog 3 #[f.val, v] w fun e w' => e = .returned (.bool true) ∧ Below w.heap.size w w' := by
  have H10 : Hid (Ask 10 #[f.val] (.bool true) w) := fun y hy => by rw [← hm]; exact may_any f y (hok.mono hy)
  have H11 : Hid (Ask 11 #[f.val] (.bool true) w) := fun y hy => by rw [← hm]; exact rmay_any f y (hok.mono hy)
  have HK := Lib.hid (ask_known w)
  have HC := Lib.hid (ask_str hv)
  have HV := Lib.hid hv
  have HFBy := Lib.hid (frB_bytes f hok.body.1)
  have H9 : Hid (AskB 9 #[f.val] (fun u => .tuple #[u, .int .i64 0]) (frB f) w) := fun y hy => by
    refine (fBytes_any f y (hok.mono hy) hl1).mono ?_
    rintro e w' (⟨_, u, rfl, h⟩ | ⟨h, _⟩)
    · exact ⟨u, rfl, h⟩
    · rw [hm] at h; cases h
  have H12 : Hid (AskB 12 #[f.val] (fun u => u) (frB f) w) := fun y hy => rfbytes_any f y (hok.mono hy) hl1
  generalize frB f = fb at *
  have H14 : Hid (Ask 14 #[v] (.tuple #[.agg #[.int .i64 0, .int .i64 0, .int .u64 0, .int .u64 0, .int .u64 0, .int .u64 0, .int .u64 0, .int .u64 0, .slice none 0 0], .int .i64 4]) w) := fun y hy => by
    refine (of_any v bz y (hv.mono hy) (by omega)).mono ?_
    rintro e w' (⟨h, _⟩ | ⟨_, rfl, h⟩)
    · exact absurd h hq
    · exact ⟨rfl, h⟩
  have H15 : Hid (Ask 15 #[v] (.tuple #[.agg #[.int .i64 0, .int .i64 0, .int .u64 0, .int .u64 0, .int .u64 0, .int .u64 0, .int .u64 0, .int .u64 0, .slice none 0 0], .bool false]) w) := fun y hy => by
    refine (rfof_any v bz y (hv.mono hy) hl2).mono ?_
    rintro e w' (⟨h, _⟩ | ⟨_, rfl, h⟩)
    · exact absurd h hq
    · exact ⟨rfl, h⟩
  have H16 := Lib.hid (zero_same w)
  generalize strOfNums bz = sz at *
  clear hm hq
  obtain ⟨kd, nd, mb, mt, tb, tt, sq, ak, fv, zs⟩ := f
  obtain ⟨ao, cap, hfv, h1, h2⟩ := hok.body.shape
  dsimp only at *
  subst hfv
  simp only [Fr.val, Fr.cells, frCells] at *
  unfold maxLen at h2
  obtain ⟨bo, bc, rfl, h3, h4⟩ := hv.shape
  unfold maxLen at h4
  clear hok hv
  generalize zs.length = m at *
  generalize bz.length = bm at *
  have HW : Hid (Grow w (w.alloc (.cells #[.int .i64 kd, .int .i64 nd, .int .u64 mb, .int .u64 mt, .int .u64 tb, .int .u64 tt, .int .u64 sq, .int .u64 ak, .slice ao m cap] 28))) := (Grow.refl w).alloc _
  unfold Ask AskB at *
  unfold AskS at HC
  have HF : Hid (∀ x, Grow (w.alloc (.cells #[.int .i64 kd, .int .i64 nd, .int .u64 mb, .int .u64 mt, .int .u64 tb, .int .u64 tt, .int .u64 sq, .int .u64 ak, .slice ao m cap] 28)) x → x.heap[w.heap.size]? = some (.cells #[.int .i64 kd, .int .i64 nd, .int .u64 mb, .int .u64 mt, .int .u64 tb, .int .u64 tt, .int .u64 sq, .int .u64 ak, .slice ao m cap] 28 (0, 0))) := fun x hx => (hx.block _ (lt_of_block (heap_alloc_new w _))).trans (heap_alloc_new w _)
  go_enter Try.func3, Try.ntmps3
  go_wp2_with fail
  refine (H9.out _ HW.out).mono ?_
  rintro e w1 ⟨u5, rfl, hn⟩
  have HB1 := Lib.hid hn.2
  have HU5 := Lib.hid (newb_bytes hn HFBy.out)
  obtain ⟨a5, c5, rfl, h5, h6⟩ := HU5.out.shape
  clear hn
  go_wp2_with fail
  refine wp_region_grow 5 [] NoBlock (fun _ => True) (by kernel_rfl) (by kernel_rfl) (by rfl) (fun _ _ _ _ => trivial) trivial ?_
  simp only [List.take_succ_cons, List.take_zero, List.drop_succ_cons, List.drop_zero]
  refine wpH_det' (.agg #[.int .i64 kd, .int .i64 nd, .int .u64 mb, .int .u64 mt, .int .u64 tb, .int .u64 tt, .int .u64 sq, .int .u64 ak, .slice ao m cap]) (by intro _ _ h; cases h) (by rfl) (by rfl) (by rfl) (fun w' hg => ?_) ?_
  · obtain ⟨⟨y0, y1, y2, y3, y4⟩, y5, y6, y7, y8⟩ := blkF (HF.out _ (Grow.trans HB1.out hg.below))
    clear hg
    go_simp
    exact Below.refl _ _
  try go_simp
  refine wpH_det' (.bool true) (by intro _ _ h; cases h) (by rfl) (by rfl) (by rfl) (fun w' hg => ?_) ?_
  · have h := H10.out _ (HW.out.trans (Grow.trans HB1.out hg.below))
    clear hg
    go_simp
    with_reducible refine h.mono ?_
    rintro e w1 ⟨rfl, h⟩
    exact ⟨_, rfl, rfl, h⟩
  try go_simp
  refine wpH_det' (.agg #[.int .i64 kd, .int .i64 nd, .int .u64 mb, .int .u64 mt, .int .u64 tb, .int .u64 tt, .int .u64 sq, .int .u64 ak, .slice ao m cap]) (by intro _ _ h; cases h) (by rfl) (by rfl) (by rfl) (fun w' hg => ?_) ?_
  · obtain ⟨⟨y0, y1, y2, y3, y4⟩, y5, y6, y7, y8⟩ := blkF (HF.out _ (Grow.trans HB1.out hg.below))
    clear hg
    go_simp
    exact Below.refl _ _
  try go_simp
  refine wpH_det' (.bool true) (by intro _ _ h; cases h) (by rfl) (by rfl) (by rfl) (fun w' hg => ?_) ?_
  · have h := H11.out _ (HW.out.trans (Grow.trans HB1.out hg.below))
    clear hg
    go_simp
    with_reducible refine h.mono ?_
    rintro e w1 ⟨rfl, h⟩
    exact ⟨_, rfl, rfl, h⟩
  try go_simp
  repeat (refine wpH_pure (by intro _ _ h; cases h) (by rfl) (by rfl) (fun K hK => ?_); go_simp; refine hK _ ?_; clear hK K)
  refine wpH_nil ?_
  intro xs w2 hg hx1 hx2
  clear hx1 hx2
  have hgg : Grow w1 w2 := hg.below
  have HB2 := Lib.hid (HB1.out.trans hgg)
  have HU5b := Lib.hid (HU5.out.mono hgg)
  clear hg hgg
  simp only [fill]
  go_simp
  obtain ⟨⟨y0, y1, y2, y3, y4⟩, y5, y6, y7, y8⟩ := blkF (HF.out _ HB2.out)
  go_wp2_with fail
  refine (H11.out _ (HW.out.trans HB2.out)).mono ?_
  rintro e w3 ⟨rfl, hg⟩
  have HB3 := Lib.hid (HB2.out.trans hg)
  have HU5c := Lib.hid (HU5b.out.mono hg)
  clear hg y0 y1 y2 y3 y4 y5 y6 y7 y8
  go_wp2_with fail
  refine wp_region_grow 11 [] NoBlock (fun _ => True) (by kernel_rfl) (by kernel_rfl) (by rfl) (fun _ _ _ _ => trivial) trivial ?_
  simp only [List.take_succ_cons, List.take_zero, List.drop_succ_cons, List.drop_zero]
  repeat (refine wpH_pure (by intro _ _ h; cases h) (by rfl) (by rfl) (fun K hK => ?_); go_simp; refine hK _ ?_; clear hK K)
  refine wpH_det' (.string (strOfNums fb)) (by intro _ _ h; cases h) (by rfl) (by rfl) (by rfl) (fun w' hg => ?_) ?_
  · have hc := str_of (HU5c.out.mono hg.below)
    clear hg
    generalize strOfNums fb = s1 at *
    go_simp
    exact Below.refl _ _
  try go_simp
  refine wpH_det' (.agg #[.int .i64 kd, .int .i64 nd, .int .u64 mb, .int .u64 mt, .int .u64 tb, .int .u64 tt, .int .u64 sq, .int .u64 ak, .slice ao m cap]) (by intro _ _ h; cases h) (by rfl) (by rfl) (by rfl) (fun w' hg => ?_) ?_
  · obtain ⟨⟨y0, y1, y2, y3, y4⟩, y5, y6, y7, y8⟩ := blkF (HF.out _ (Grow.trans HB3.out hg.below))
    clear hg
    go_simp
    exact Below.refl _ _
  try go_simp
  refine wpH_hid' (fun u x => BytesV x u fb) (by intro _ _ h; cases h) rfl (by rfl) (bytes_stay _) (by rfl) (by rfl) (fun w' hg => ?_) ?_
  · have h := H12.out _ (HW.out.trans (Grow.trans HB3.out hg.below))
    clear hg
    go_simp
    with_reducible refine h.mono ?_
    rintro e x ⟨u, rfl, h⟩
    exact ⟨_, rfl, newb_bytes h HFBy.out, h.2⟩
  try go_simp
  refine wpH_det (.string (strOfNums fb)) (by rfl) (fun xs => by rfl) (fun xs w' hg hf => ?_) ?_
  · have h1 := hf _ (List.Mem.head _) (by rfl)
    try dsimp only at h1
    clear hf
    have hc := str_of (w := w') (v := xs 38) (zs := fb) h1
    clear hg h1
    simp only [fill]
    generalize xs 38 = y38 at *
    generalize strOfNums fb = s1 at *
    go_simp
    exact Below.refl _ _
  try go_simp
  generalize strOfNums fb = sf at *
  repeat (refine wpH_pure (by intro _ _ h; cases h) (by rfl) (by rfl) (fun K hK => ?_); go_simp; refine hK _ ?_; clear hK K)
  refine wpH_det' (.int .i64 0) (by intro _ _ h; cases h) (by rfl) (by rfl) (by rfl) (fun w' hg => ?_) ?_
  · have h := num_any 0 w'
    clear hg
    go_simp
    with_reducible refine h.mono ?_
    rintro e w1 ⟨rfl, rfl⟩
    exact ⟨_, rfl, rfl, Below.refl _ _⟩
  try go_simp
  repeat (refine wpH_pure (by intro _ _ h; cases h) (by rfl) (by rfl) (fun K hK => ?_); go_simp; refine hK _ ?_; clear hK K)
  refine wpH_nil ?_
  intro xs w4 hg hx1 hx2
  clear hx1 hx2
  have HB4 := Lib.hid (HB3.out.trans (show Grow w3 w4 from hg.below))
  clear hg
  simp only [fill]
  generalize xs 38 = y38
  go_simp
  have hstr := HC.out _ (HW.out.trans HB4.out)
  go_wp2_with fail
  refine (H14.out _ (HW.out.trans HB4.out)).mono ?_
  rintro e w5 ⟨rfl, hg5⟩
  have HG5 := Lib.hid ((HW.out.trans HB4.out).trans hg5)
  clear hg5 hstr
  go_wp2_with fail
  refine (H15.out _ (HG5.out.alloc _)).mono ?_
  rintro e w6 ⟨rfl, hg6⟩
  have HG6 := Lib.hid ((HG5.out.alloc _).trans hg6)
  have HN6 := Lib.hid ((hg6.block _ (lt_of_block (heap_alloc_new w5 (.cells #[.int .i64 0, .int .i64 0, .int .u64 0, .int .u64 0, .int .u64 0, .int .u64 0, .int .u64 0, .int .u64 0, .slice none 0 0] 28)))).trans (heap_alloc_new w5 (.cells #[.int .i64 0, .int .i64 0, .int .u64 0, .int .u64 0, .int .u64 0, .int .u64 0, .int .u64 0, .int .u64 0, .slice none 0 0] 28)))
  clear hg6
  have HG7 := Lib.hid (HG6.out.alloc (.cells #[.int .i64 0, .int .i64 0, .int .u64 0, .int .u64 0, .int .u64 0, .int .u64 0, .int .u64 0, .int .u64 0, .slice none 0 0] 28))
  have HN7 := Lib.hid ((((Grow.refl w6).alloc (.cells #[.int .i64 0, .int .i64 0, .int .u64 0, .int .u64 0, .int .u64 0, .int .u64 0, .int .u64 0, .int .u64 0, .slice none 0 0] 28)).block _ (lt_of_block HN6.out)).trans HN6.out)
  have HM7 := Lib.hid (heap_alloc_new w6 (.cells #[.int .i64 0, .int .i64 0, .int .u64 0, .int .u64 0, .int .u64 0, .int .u64 0, .int .u64 0, .int .u64 0, .slice none 0 0] 28))
  obtain ⟨⟨y0, y1, y2, y3, y4⟩, y5, y6, y7, y8⟩ := blkF HN7.out
  obtain ⟨⟨x0, x1, x2, x3, x4⟩, x5, x6, x7, x8⟩ := blkF HM7.out
  go_wp2_with fail
  refine (H16.out _ HG7.out).mono ?_
  rintro e w8 ⟨rfl, hg8⟩
  have HG8 := Lib.hid (HG7.out.trans hg8)
  have hn8 := (hg8.block _ (lt_of_block HN7.out)).trans HN7.out
  have hstr := HC.out _ HG8.out
  clear hg8 y0 y1 y2 y3 y4 y5 y6 y7 y8 x0 x1 x2 x3 x4 x5 x6 x7 x8
  obtain ⟨⟨y0, y1, y2, y3, y4⟩, y5, y6, y7, y8⟩ := blkF hn8
  clear hn8
  go_wp2_with fail
  refine (num_any _ _).mono ?_
  rintro e w9 ⟨rfl, rfl⟩
  go_wp2_with fail
  refine (num_any _ _).mono ?_
  rintro e w9 ⟨rfl, rfl⟩
  go_wp2_with fail
  refine wp_loop_rounds 1 ?_
  rw [rounds_succ]
  go_wp2_with fail
  refine (HK.out _ HG8.out).mono ?_
  rintro e w9 ⟨rfl, hg9⟩
  have HG9 := Lib.hid (HG8.out.trans hg9)
  clear hg9
  go_wp2_with fail
  go_ret
  exact ⟨rfl, HG9.out⟩

set_option maxRecDepth 100000 in
set_option maxHeartbeats 4000000 in
theorem main_ny (f : Fr) (v : Value) (bz : List Int) (w : World) (hok : FrOk w f) (hv : BytesV w v bz) (hl1 : f.zs.length ≤ 5000) (hl2 : bz.length ≤ 5000) (hm : mayF f = false) (hq : okF bz) : Calls Try.prog 3 #[f.val, v] w fun e w' => e = .returned (.bool true) ∧ Below w.heap.size w w' := by
  have H10 : Hid (Ask 10 #[f.val] (.bool false) w) := fun y hy => by rw [← hm]; exact may_any f y (hok.mono hy)
  have H11 : Hid (Ask 11 #[f.val] (.bool false) w) := fun y hy => by rw [← hm]; exact rmay_any f y (hok.mono hy)
  have HK := Lib.hid (ask_known w)
  have HC := Lib.hid (ask_str hv)
  have HV := Lib.hid hv
  have H9 : Hid (Ask 9 #[f.val] (.tuple #[.slice none 0 0, .int .i64 2]) w) := fun y hy => by
    refine (fBytes_any f y (hok.mono hy) hl1).mono ?_
    rintro e w' (⟨h, _⟩ | ⟨_, rfl, h⟩)
    · rw [hm] at h; cases h
    · exact ⟨rfl, h⟩
  obtain ⟨z0, hz0⟩ : ∃ x, bz.getD 0 0 = x := ⟨_, rfl⟩
  obtain ⟨z1, hz1⟩ : ∃ x, bz.getD 1 0 = x := ⟨_, rfl⟩
  obtain ⟨n2, hn2⟩ : ∃ x, num8 bz 2 = x := ⟨_, rfl⟩
  obtain ⟨n10, hn10⟩ : ∃ x, num8 bz 10 = x := ⟨_, rfl⟩
  obtain ⟨n18, hn18⟩ : ∃ x, num8 bz 18 = x := ⟨_, rfl⟩
  obtain ⟨n26, hn26⟩ : ∃ x, num8 bz 26 = x := ⟨_, rfl⟩
  obtain ⟨n34, hn34⟩ : ∃ x, num8 bz 34 = x := ⟨_, rfl⟩
  obtain ⟨n42, hn42⟩ : ∃ x, num8 bz 42 = x := ⟨_, rfl⟩
  obtain ⟨tl, htl⟩ : ∃ l, bz.drop 54 = l := ⟨_, rfl⟩
  have hof : ∀ u, ofF bz u = ⟨z0, z1, n2, n10, n18, n26, n34, n42, u, tl⟩ := fun u => by rw [← htl, ← hz0, ← hz1, ← hn2, ← hn10, ← hn18, ← hn26, ← hn34, ← hn42]; rfl
  have hfo : ∀ u y, BytesV y u tl → FrOk y ⟨z0, z1, n2, n10, n18, n26, n34, n42, u, tl⟩ := fun u y h => by rw [← hof]; exact of_ok hv.1 (by rw [htl]; exact h.2)
  have HTB : Hid (Bytes tl) := by rw [← htl]; exact hv.1.drop 54
  have H14 : Hid (AskB 14 #[v] (fun u => .tuple #[.agg #[.int .i64 z0, .int .i64 z1, .int .u64 n2, .int .u64 n10, .int .u64 n18, .int .u64 n26, .int .u64 n34, .int .u64 n42, u], .int .i64 0]) tl w) := fun y hy => by
    refine (of_any v bz y (hv.mono hy) (by omega)).mono ?_
    rintro e w' (⟨_, u, rfl, h⟩ | ⟨h, _⟩)
    · rw [htl] at h; exact ⟨u, by rw [hof u]; rfl, h⟩
    · exact absurd hq h
  have H15 : Hid (AskV 15 #[v] (fun u => .tuple #[.agg #[.int .i64 z0, .int .i64 z1, .int .u64 n2, .int .u64 n10, .int .u64 n18, .int .u64 n26, .int .u64 n34, .int .u64 n42, u], .bool true]) tl w) := fun y hy => by
    refine (rfof_any v bz y (hv.mono hy) hl2).mono ?_
    rintro e w' (⟨_, u, rfl, h⟩ | ⟨h, _⟩)
    · rw [htl] at h; exact ⟨u, by rw [hof u]; rfl, h⟩
    · exact absurd hq h
  have H16 : Hid (∀ u u' y, BytesV y u tl → BytesV y u' tl → Calls Try.prog 16 #[.agg #[.int .i64 z0, .int .i64 z1, .int .u64 n2, .int .u64 n10, .int .u64 n18, .int .u64 n26, .int .u64 n34, .int .u64 n42, u], .agg #[.int .i64 z0, .int .i64 z1, .int .u64 n2, .int .u64 n10, .int .u64 n18, .int .u64 n26, .int .u64 n34, .int .u64 n42, u']] y fun e w' => e = .returned (.bool true) ∧ Grow y w') := fun u u' y h h' => by
    have := rsame_any _ _ y (hfo u y h) (hfo u' y h')
    rwa [show sameF ⟨z0, z1, n2, n10, n18, n26, n34, n42, u, tl⟩ ⟨z0, z1, n2, n10, n18, n26, n34, n42, u', tl⟩ = true from decide_eq_true ⟨rfl, rfl, rfl, rfl, rfl, rfl, rfl, rfl, rfl⟩] at this
  clear hof hfo hz0 hz1 hn2 hn10 hn18 hn26 hn34 hn42 htl
  generalize strOfNums bz = sz at *
  clear hm hq
  obtain ⟨kd, nd, mb, mt, tb, tt, sq, ak, fv, zs⟩ := f
  obtain ⟨ao, cap, hfv, h1, h2⟩ := hok.body.shape
  dsimp only at *
  subst hfv
  simp only [Fr.val, Fr.cells, frCells] at *
  unfold maxLen at h2
  obtain ⟨bo, bc, rfl, h3, h4⟩ := hv.shape
  unfold maxLen at h4
  clear hok hv
  generalize zs.length = m at *
  generalize bz.length = bm at *
  have HW : Hid (Grow w (w.alloc (.cells #[.int .i64 kd, .int .i64 nd, .int .u64 mb, .int .u64 mt, .int .u64 tb, .int .u64 tt, .int .u64 sq, .int .u64 ak, .slice ao m cap] 28))) := (Grow.refl w).alloc _
  unfold Ask AskB AskV at *
  unfold AskS at HC
  have HF : Hid (∀ x, Grow (w.alloc (.cells #[.int .i64 kd, .int .i64 nd, .int .u64 mb, .int .u64 mt, .int .u64 tb, .int .u64 tt, .int .u64 sq, .int .u64 ak, .slice ao m cap] 28)) x → x.heap[w.heap.size]? = some (.cells #[.int .i64 kd, .int .i64 nd, .int .u64 mb, .int .u64 mt, .int .u64 tb, .int .u64 tt, .int .u64 sq, .int .u64 ak, .slice ao m cap] 28 (0, 0))) := fun x hx => (hx.block _ (lt_of_block (heap_alloc_new w _))).trans (heap_alloc_new w _)
  go_enter Try.func3, Try.ntmps3
  go_wp2_with fail
  refine (H9.out _ HW.out).mono ?_
  rintro e w1 ⟨rfl, hg⟩
  have HB1 := Lib.hid hg
  clear hg
  go_wp2_with fail
  refine wp_region_grow 5 [] NoBlock (fun _ => True) (by kernel_rfl) (by kernel_rfl) (by rfl) (fun _ _ _ _ => trivial) trivial ?_
  simp only [List.take_succ_cons, List.take_zero, List.drop_succ_cons, List.drop_zero]
  refine wpH_det' (.agg #[.int .i64 kd, .int .i64 nd, .int .u64 mb, .int .u64 mt, .int .u64 tb, .int .u64 tt, .int .u64 sq, .int .u64 ak, .slice ao m cap]) (by intro _ _ h; cases h) (by rfl) (by rfl) (by rfl) (fun w' hg => ?_) ?_
  · obtain ⟨⟨y0, y1, y2, y3, y4⟩, y5, y6, y7, y8⟩ := blkF (HF.out _ (Grow.trans HB1.out hg.below))
    clear hg
    go_simp
    exact Below.refl _ _
  try go_simp
  refine wpH_det' (.bool false) (by intro _ _ h; cases h) (by rfl) (by rfl) (by rfl) (fun w' hg => ?_) ?_
  · have h := H10.out _ (HW.out.trans (Grow.trans HB1.out hg.below))
    clear hg
    go_simp
    with_reducible refine h.mono ?_
    rintro e w1 ⟨rfl, h⟩
    exact ⟨_, rfl, rfl, h⟩
  try go_simp
  refine wpH_det' (.agg #[.int .i64 kd, .int .i64 nd, .int .u64 mb, .int .u64 mt, .int .u64 tb, .int .u64 tt, .int .u64 sq, .int .u64 ak, .slice ao m cap]) (by intro _ _ h; cases h) (by rfl) (by rfl) (by rfl) (fun w' hg => ?_) ?_
  · obtain ⟨⟨y0, y1, y2, y3, y4⟩, y5, y6, y7, y8⟩ := blkF (HF.out _ (Grow.trans HB1.out hg.below))
    clear hg
    go_simp
    exact Below.refl _ _
  try go_simp
  refine wpH_det' (.bool false) (by intro _ _ h; cases h) (by rfl) (by rfl) (by rfl) (fun w' hg => ?_) ?_
  · have h := H11.out _ (HW.out.trans (Grow.trans HB1.out hg.below))
    clear hg
    go_simp
    with_reducible refine h.mono ?_
    rintro e w1 ⟨rfl, h⟩
    exact ⟨_, rfl, rfl, h⟩
  try go_simp
  repeat (refine wpH_pure (by intro _ _ h; cases h) (by rfl) (by rfl) (fun K hK => ?_); go_simp; refine hK _ ?_; clear hK K)
  refine wpH_nil ?_
  intro xs w2 hg hx1 hx2
  clear hx1 hx2
  have hgg : Grow w1 w2 := hg.below
  have HB2 := Lib.hid (HB1.out.trans hgg)
  clear hg hgg
  simp only [fill]
  go_simp
  obtain ⟨⟨y0, y1, y2, y3, y4⟩, y5, y6, y7, y8⟩ := blkF (HF.out _ HB2.out)
  go_wp2_with fail
  refine (H11.out _ (HW.out.trans HB2.out)).mono ?_
  rintro e w3 ⟨rfl, hg⟩
  have HB3 := Lib.hid (HB2.out.trans hg)
  clear hg y0 y1 y2 y3 y4 y5 y6 y7 y8
  go_wp2_with fail
  refine (num_any _ _).mono ?_
  rintro e w4 ⟨rfl, hww⟩
  have HB4 : Hid (Grow (w.alloc (.cells #[.int .i64 kd, .int .i64 nd, .int .u64 mb, .int .u64 mt, .int .u64 tb, .int .u64 tt, .int .u64 sq, .int .u64 ak, .slice ao m cap] 28)) w4) := by rw [← hww]; exact HB3.out
  clear hww
  have hstr := HC.out _ (HW.out.trans HB4.out)
  go_wp2_with fail
  refine (H14.out _ (HW.out.trans HB4.out)).mono ?_
  rintro e w5 ⟨u8, rfl, hn⟩
  have HG5 := Lib.hid ((HW.out.trans HB4.out).trans hn.2)
  have HO5 : Hid (OwnB w.heap.size tl u8 w5) := own_base hn.1 (HW.out.trans HB4.out).size
  have HL5 := Lib.hid (lt_owned hn.1)
  obtain ⟨a8, c8, rfl, h7, h8⟩ := (ints_of_owns HO5.out).shape
  clear hn hstr
  go_wp2_with fail
  refine (H15.out _ (HG5.out.alloc _)).mono ?_
  rintro e w6 ⟨u10, rfl, hv6, hg6⟩
  obtain ⟨a10, c10, rfl, h9, h10⟩ := hv6.shape
  have HG6 := Lib.hid ((HG5.out.alloc _).trans hg6)
  have HN6 := Lib.hid ((hg6.block _ (lt_of_block (heap_alloc_new w5 (.cells #[.int .i64 z0, .int .i64 z1, .int .u64 n2, .int .u64 n10, .int .u64 n18, .int .u64 n26, .int .u64 n34, .int .u64 n42, .slice a8 tl.length c8] 28)))).trans (heap_alloc_new w5 (.cells #[.int .i64 z0, .int .i64 z1, .int .u64 n2, .int .u64 n10, .int .u64 n18, .int .u64 n26, .int .u64 n34, .int .u64 n42, .slice a8 tl.length c8] 28)))
  have HO6 := Lib.hid (show OwnB _ _ _ _ from own_grow (own_grow HO5.out ((Grow.refl w5).alloc (.cells #[.int .i64 z0, .int .i64 z1, .int .u64 n2, .int .u64 n10, .int .u64 n18, .int .u64 n26, .int .u64 n34, .int .u64 n42, .slice a8 tl.length c8] 28))) hg6)
  have HV6 := Lib.hid hv6
  clear hv6 hg6
  have HV7 := Lib.hid (HV6.out.mono ((Grow.refl w6).alloc (.cells #[.int .i64 z0, .int .i64 z1, .int .u64 n2, .int .u64 n10, .int .u64 n18, .int .u64 n26, .int .u64 n34, .int .u64 n42, .slice a10 tl.length c10] 28)))
  have HO7 := Lib.hid (show OwnB _ _ _ _ from own_grow HO6.out ((Grow.refl w6).alloc (.cells #[.int .i64 z0, .int .i64 z1, .int .u64 n2, .int .u64 n10, .int .u64 n18, .int .u64 n26, .int .u64 n34, .int .u64 n42, .slice a10 tl.length c10] 28)))
  have HG7 := Lib.hid (HG6.out.alloc (.cells #[.int .i64 z0, .int .i64 z1, .int .u64 n2, .int .u64 n10, .int .u64 n18, .int .u64 n26, .int .u64 n34, .int .u64 n42, .slice a10 tl.length c10] 28))
  have HN7 := Lib.hid ((((Grow.refl w6).alloc (.cells #[.int .i64 z0, .int .i64 z1, .int .u64 n2, .int .u64 n10, .int .u64 n18, .int .u64 n26, .int .u64 n34, .int .u64 n42, .slice a10 tl.length c10] 28)).block _ (lt_of_block HN6.out)).trans HN6.out)
  have HM7 := Lib.hid (heap_alloc_new w6 (.cells #[.int .i64 z0, .int .i64 z1, .int .u64 n2, .int .u64 n10, .int .u64 n18, .int .u64 n26, .int .u64 n34, .int .u64 n42, .slice a10 tl.length c10] 28))
  obtain ⟨⟨y0, y1, y2, y3, y4⟩, y5, y6, y7, y8⟩ := blkF HN7.out
  obtain ⟨⟨x0, x1, x2, x3, x4⟩, x5, x6, x7, x8⟩ := blkF HM7.out
  go_wp2_with fail
  refine (H16.out _ _ _ ⟨HTB.out, ints_of_owns HO7.out⟩ HV7.out).mono ?_
  rintro e w8 ⟨rfl, hg8⟩
  have HG8 := Lib.hid (HG7.out.trans hg8)
  have hn8 := (hg8.block _ (lt_of_block HN7.out)).trans HN7.out
  have HN8 := Lib.hid hn8
  have HO8 := Lib.hid (show OwnB _ _ _ _ from own_grow HO7.out hg8)
  clear hg8 y0 y1 y2 y3 y4 y5 y6 y7 y8 x0 x1 x2 x3 x4 x5 x6 x7 x8
  obtain ⟨⟨y0, y1, y2, y3, y4⟩, y5, y6, y7, y8⟩ := blkF hn8
  clear hn8
  obtain ⟨P8, hP8⟩ : ∃ P : Nat, w5.heap.size = P := ⟨_, rfl⟩
  rw [hP8] at HL5 HN8 y0 y1 y2 y3 y4 y5 y6 y7 y8
  rw [hP8]
  go_wp2_with fail
  refine (num_any _ _).mono ?_
  rintro e w9 ⟨rfl, rfl⟩
  by_cases hn0 : tl.length = 0
  · rw [hn0] at y8 ⊢
    have hstr := HC.out _ HG8.out
    go_wp2_with fail
    refine wp_loop_rounds 1 ?_
    rw [rounds_succ]
    go_wp2_with fail
    refine (HK.out _ HG8.out).mono ?_
    rintro e w9 ⟨rfl, hg9⟩
    have HG9 := Lib.hid (HG8.out.trans hg9)
    clear hg9
    go_wp2_with fail
    go_ret
    exact ⟨rfl, HG9.out⟩
  · obtain ⟨g, cp, cur, hvr, hbg, _⟩ := own_row HO8.out (by omega)
    injection hvr with hvr1 _ hvr2
    subst hvr1; subst hvr2
    have hgP : g < P8 := (HL5.out g rfl).2
    have HBG := Lib.hid hbg
    have HR8 : Hid (∃ xs, w8.ownsRow w.heap.size 5 1 (.slice (some ⟨g, 0, none⟩) tl.length c8) tl.length xs) := ⟨_, HO8.out⟩
    have HPG : Hid (P8 ≠ g) := by show _ ≠ _; omega
    unfold maxLen at h8
    clear y0 y1 y2 y3 y4 y5 y6 y7 y8 hbg hn0 HO8 HO7 HO6 HO5 H14 H15 H16
    generalize tl.length = n at *
    go_wp2_with fail
    go_loopw [12] (fun i wr => ∃ k : Nat, k ≤ n ∧ i = .int .i64 k ∧ Hid (∃ xs, wr.ownsRow w.heap.size 5 1 (.slice (some ⟨g, 0, none⟩) n c8) n xs) ∧ Hid (wr.heap[P8]? = some (.cells #[.int .i64 z0, .int .i64 z1, .int .u64 n2, .int .u64 n10, .int .u64 n18, .int .u64 n26, .int .u64 n34, .int .u64 n42, .slice (some ⟨g, 0, none⟩) n c8] 28 (0, 0))) ∧ Hid (Grow w wr)) (fun i _ => n - (intOf i).toNat)
    case atStart => exact ⟨0, Nat.zero_le _, rfl, HR8.out, HN8.out, HG8.out⟩
    case round =>
      obtain ⟨k, hk, rfl, HR, HN, HG⟩ := hrel
      obtain ⟨⟨y0, y1, y2, y3, y4⟩, y5, y6, y7, y8⟩ := blkF HN.out
      clear y0 y1 y2 y3 y4 y5 y6 y7
      by_cases hlt : k < n
      · have hk1 : (k : Int) < (n : Int) := by omega
        obtain ⟨xs, hown⟩ := HR.out
        have hfz := hown.frozenAt k
        have hce := hown.cellAt k (by omega)
        obtain ⟨x, hx⟩ : ∃ x, xs[k]? = some x := ⟨_, List.getElem?_eq_getElem (by have := hown.1; omega)⟩
        rw [hx] at hce
        have hst := (hown.stored k (.int .u8 9)).1
        have HNx : Hid ((wr.setCell ⟨g, k, none⟩ (.int .u8 9)).heap[P8]? = some (.cells #[.int .i64 z0, .int .i64 z1, .int .u64 n2, .int .u64 n10, .int .u64 n18, .int .u64 n26, .int .u64 n34, .int .u64 n42, .slice (some ⟨g, 0, none⟩) n c8] 28 (0, 0))) := (Below.heap_setCell _ _ _ _ (show P8 ≠ g from HPG.out)).trans HN.out
        have HGx : Hid (Grow w (wr.setCell ⟨g, k, none⟩ (.int .u8 9))) := Below.setCell (p := ⟨g, k, none⟩) HG.out HBG.out _
        have HRx : Hid (∃ xs, (wr.setCell ⟨g, k, none⟩ (.int .u8 9)).ownsRow w.heap.size 5 1 (.slice (some ⟨g, 0, none⟩) n c8) n xs) := ⟨_, hst⟩
        clear hown hst hx
        go_wp2_with fail
        go_roundw
        case rel => exact ⟨k + 1, by omega, by go_num, HRx.out, HNx.out, HGx.out⟩
        case measure => simp [intOf]; omega
      · have hkn : k = n := by omega
        subst hkn
        have hstr := HC.out _ HG.out
        go_wp2_with fail
        refine (HK.out _ HG.out).mono ?_
        rintro e w9 ⟨rfl, hg9⟩
        have HG9 := Lib.hid (HG.out.trans hg9)
        clear hg9
        go_wp2_with fail
        go_ret
        exact ⟨rfl, HG9.out⟩

set_option maxRecDepth 100000 in
set_option maxHeartbeats 4000000 in
theorem main_nn (f : Fr) (v : Value) (bz : List Int) (w : World) (hok : FrOk w f) (hv : BytesV w v bz) (hl1 : f.zs.length ≤ 5000) (hl2 : bz.length ≤ 5000) (hm : mayF f = false) (hq : ¬ okF bz) : Calls Try.prog 3 #[f.val, v] w fun e w' => e = .returned (.bool true) ∧ Below w.heap.size w w' := by
  have H10 : Hid (Ask 10 #[f.val] (.bool false) w) := fun y hy => by rw [← hm]; exact may_any f y (hok.mono hy)
  have H11 : Hid (Ask 11 #[f.val] (.bool false) w) := fun y hy => by rw [← hm]; exact rmay_any f y (hok.mono hy)
  have HK := Lib.hid (ask_known w)
  have HC := Lib.hid (ask_str hv)
  have HV := Lib.hid hv
  have H9 : Hid (Ask 9 #[f.val] (.tuple #[.slice none 0 0, .int .i64 2]) w) := fun y hy => by
    refine (fBytes_any f y (hok.mono hy) hl1).mono ?_
    rintro e w' (⟨h, _⟩ | ⟨_, rfl, h⟩)
    · rw [hm] at h; cases h
    · exact ⟨rfl, h⟩
  have H14 : Hid (Ask 14 #[v] (.tuple #[.agg #[.int .i64 0, .int .i64 0, .int .u64 0, .int .u64 0, .int .u64 0, .int .u64 0, .int .u64 0, .int .u64 0, .slice none 0 0], .int .i64 4]) w) := fun y hy => by
    refine (of_any v bz y (hv.mono hy) (by omega)).mono ?_
    rintro e w' (⟨h, _⟩ | ⟨_, rfl, h⟩)
    · exact absurd h hq
    · exact ⟨rfl, h⟩
  have H15 : Hid (Ask 15 #[v] (.tuple #[.agg #[.int .i64 0, .int .i64 0, .int .u64 0, .int .u64 0, .int .u64 0, .int .u64 0, .int .u64 0, .int .u64 0, .slice none 0 0], .bool false]) w) := fun y hy => by
    refine (rfof_any v bz y (hv.mono hy) hl2).mono ?_
    rintro e w' (⟨h, _⟩ | ⟨_, rfl, h⟩)
    · exact absurd h hq
    · exact ⟨rfl, h⟩
  have H16 := Lib.hid (zero_same w)
  generalize strOfNums bz = sz at *
  clear hm hq
  obtain ⟨kd, nd, mb, mt, tb, tt, sq, ak, fv, zs⟩ := f
  obtain ⟨ao, cap, hfv, h1, h2⟩ := hok.body.shape
  dsimp only at *
  subst hfv
  simp only [Fr.val, Fr.cells, frCells] at *
  unfold maxLen at h2
  obtain ⟨bo, bc, rfl, h3, h4⟩ := hv.shape
  unfold maxLen at h4
  clear hok hv
  generalize zs.length = m at *
  generalize bz.length = bm at *
  have HW : Hid (Grow w (w.alloc (.cells #[.int .i64 kd, .int .i64 nd, .int .u64 mb, .int .u64 mt, .int .u64 tb, .int .u64 tt, .int .u64 sq, .int .u64 ak, .slice ao m cap] 28))) := (Grow.refl w).alloc _
  unfold Ask at *
  unfold AskS at HC
  have HF : Hid (∀ x, Grow (w.alloc (.cells #[.int .i64 kd, .int .i64 nd, .int .u64 mb, .int .u64 mt, .int .u64 tb, .int .u64 tt, .int .u64 sq, .int .u64 ak, .slice ao m cap] 28)) x → x.heap[w.heap.size]? = some (.cells #[.int .i64 kd, .int .i64 nd, .int .u64 mb, .int .u64 mt, .int .u64 tb, .int .u64 tt, .int .u64 sq, .int .u64 ak, .slice ao m cap] 28 (0, 0))) := fun x hx => (hx.block _ (lt_of_block (heap_alloc_new w _))).trans (heap_alloc_new w _)
  go_enter Try.func3, Try.ntmps3
  go_wp2_with fail
  refine (H9.out _ HW.out).mono ?_
  rintro e w1 ⟨rfl, hg⟩
  have HB1 := Lib.hid hg
  clear hg
  go_wp2_with fail
  refine wp_region_grow 5 [] NoBlock (fun _ => True) (by kernel_rfl) (by kernel_rfl) (by rfl) (fun _ _ _ _ => trivial) trivial ?_
  simp only [List.take_succ_cons, List.take_zero, List.drop_succ_cons, List.drop_zero]
  refine wpH_det' (.agg #[.int .i64 kd, .int .i64 nd, .int .u64 mb, .int .u64 mt, .int .u64 tb, .int .u64 tt, .int .u64 sq, .int .u64 ak, .slice ao m cap]) (by intro _ _ h; cases h) (by rfl) (by rfl) (by rfl) (fun w' hg => ?_) ?_
  · obtain ⟨⟨y0, y1, y2, y3, y4⟩, y5, y6, y7, y8⟩ := blkF (HF.out _ (Grow.trans HB1.out hg.below))
    clear hg
    go_simp
    exact Below.refl _ _
  try go_simp
  refine wpH_det' (.bool false) (by intro _ _ h; cases h) (by rfl) (by rfl) (by rfl) (fun w' hg => ?_) ?_
  · have h := H10.out _ (HW.out.trans (Grow.trans HB1.out hg.below))
    clear hg
    go_simp
    with_reducible refine h.mono ?_
    rintro e w1 ⟨rfl, h⟩
    exact ⟨_, rfl, rfl, h⟩
  try go_simp
  refine wpH_det' (.agg #[.int .i64 kd, .int .i64 nd, .int .u64 mb, .int .u64 mt, .int .u64 tb, .int .u64 tt, .int .u64 sq, .int .u64 ak, .slice ao m cap]) (by intro _ _ h; cases h) (by rfl) (by rfl) (by rfl) (fun w' hg => ?_) ?_
  · obtain ⟨⟨y0, y1, y2, y3, y4⟩, y5, y6, y7, y8⟩ := blkF (HF.out _ (Grow.trans HB1.out hg.below))
    clear hg
    go_simp
    exact Below.refl _ _
  try go_simp
  refine wpH_det' (.bool false) (by intro _ _ h; cases h) (by rfl) (by rfl) (by rfl) (fun w' hg => ?_) ?_
  · have h := H11.out _ (HW.out.trans (Grow.trans HB1.out hg.below))
    clear hg
    go_simp
    with_reducible refine h.mono ?_
    rintro e w1 ⟨rfl, h⟩
    exact ⟨_, rfl, rfl, h⟩
  try go_simp
  repeat (refine wpH_pure (by intro _ _ h; cases h) (by rfl) (by rfl) (fun K hK => ?_); go_simp; refine hK _ ?_; clear hK K)
  refine wpH_nil ?_
  intro xs w2 hg hx1 hx2
  clear hx1 hx2
  have hgg : Grow w1 w2 := hg.below
  have HB2 := Lib.hid (HB1.out.trans hgg)
  clear hg hgg
  simp only [fill]
  go_simp
  obtain ⟨⟨y0, y1, y2, y3, y4⟩, y5, y6, y7, y8⟩ := blkF (HF.out _ HB2.out)
  go_wp2_with fail
  refine (H11.out _ (HW.out.trans HB2.out)).mono ?_
  rintro e w3 ⟨rfl, hg⟩
  have HB3 := Lib.hid (HB2.out.trans hg)
  clear hg y0 y1 y2 y3 y4 y5 y6 y7 y8
  go_wp2_with fail
  refine (num_any _ _).mono ?_
  rintro e w4 ⟨rfl, hww⟩
  have HB4 : Hid (Grow (w.alloc (.cells #[.int .i64 kd, .int .i64 nd, .int .u64 mb, .int .u64 mt, .int .u64 tb, .int .u64 tt, .int .u64 sq, .int .u64 ak, .slice ao m cap] 28)) w4) := by rw [← hww]; exact HB3.out
  clear hww
  have hstr := HC.out _ (HW.out.trans HB4.out)
  go_wp2_with fail
  refine (H14.out _ (HW.out.trans HB4.out)).mono ?_
  rintro e w5 ⟨rfl, hg5⟩
  have HG5 := Lib.hid ((HW.out.trans HB4.out).trans hg5)
  clear hg5 hstr
  go_wp2_with fail
  refine (H15.out _ (HG5.out.alloc _)).mono ?_
  rintro e w6 ⟨rfl, hg6⟩
  have HG6 := Lib.hid ((HG5.out.alloc _).trans hg6)
  have HN6 := Lib.hid ((hg6.block _ (lt_of_block (heap_alloc_new w5 (.cells #[.int .i64 0, .int .i64 0, .int .u64 0, .int .u64 0, .int .u64 0, .int .u64 0, .int .u64 0, .int .u64 0, .slice none 0 0] 28)))).trans (heap_alloc_new w5 (.cells #[.int .i64 0, .int .i64 0, .int .u64 0, .int .u64 0, .int .u64 0, .int .u64 0, .int .u64 0, .int .u64 0, .slice none 0 0] 28)))
  clear hg6
  have HG7 := Lib.hid (HG6.out.alloc (.cells #[.int .i64 0, .int .i64 0, .int .u64 0, .int .u64 0, .int .u64 0, .int .u64 0, .int .u64 0, .int .u64 0, .slice none 0 0] 28))
  have HN7 := Lib.hid ((((Grow.refl w6).alloc (.cells #[.int .i64 0, .int .i64 0, .int .u64 0, .int .u64 0, .int .u64 0, .int .u64 0, .int .u64 0, .int .u64 0, .slice none 0 0] 28)).block _ (lt_of_block HN6.out)).trans HN6.out)
  have HM7 := Lib.hid (heap_alloc_new w6 (.cells #[.int .i64 0, .int .i64 0, .int .u64 0, .int .u64 0, .int .u64 0, .int .u64 0, .int .u64 0, .int .u64 0, .slice none 0 0] 28))
  obtain ⟨⟨y0, y1, y2, y3, y4⟩, y5, y6, y7, y8⟩ := blkF HN7.out
  obtain ⟨⟨x0, x1, x2, x3, x4⟩, x5, x6, x7, x8⟩ := blkF HM7.out
  go_wp2_with fail
  refine (H16.out _ HG7.out).mono ?_
  rintro e w8 ⟨rfl, hg8⟩
  have HG8 := Lib.hid (HG7.out.trans hg8)
  have hn8 := (hg8.block _ (lt_of_block HN7.out)).trans HN7.out
  have hstr := HC.out _ HG8.out
  clear hg8 y0 y1 y2 y3 y4 y5 y6 y7 y8 x0 x1 x2 x3 x4 x5 x6 x7 x8
  obtain ⟨⟨y0, y1, y2, y3, y4⟩, y5, y6, y7, y8⟩ := blkF hn8
  clear hn8
  go_wp2_with fail
  refine (num_any _ _).mono ?_
  rintro e w9 ⟨rfl, rfl⟩
  go_wp2_with fail
  refine (num_any _ _).mono ?_
  rintro e w9 ⟨rfl, rfl⟩
  go_wp2_with fail
  refine wp_loop_rounds 1 ?_
  rw [rounds_succ]
  go_wp2_with fail
  refine (HK.out _ HG8.out).mono ?_
  rintro e w9 ⟨rfl, hg9⟩
  have HG9 := Lib.hid (HG8.out.trans hg9)
  clear hg9
  go_wp2_with fail
  go_ret
  exact ⟨rfl, HG9.out⟩

theorem walk (f : Fr) (v : Value) (bz : List Int) (w : World) (hok : FrOk w f) (hv : BytesV w v bz) : Calls Try.prog 3 #[f.val, v] w fun e w' => e = .returned (.bool true) ∧ Below w.heap.size w w' := by
  by_cases hl : f.zs.length ≤ 5000
  · by_cases hl2 : bz.length ≤ 5000
    · cases hm : mayF f
      · by_cases hq : okF bz
        · exact main_ny f v bz w hok hv hl hl2 hm hq
        · exact main_nn f v bz w hok hv hl hl2 hm hq
      · by_cases hq : okF bz
        · exact main_yy f v bz w hok hv hl hl2 hm hq
        · exact main_yn f v bz w hok hv hl hl2 hm hq
    · exact long2 f v bz w hok hv hl (by omega)
  · exact long1 f v bz w hok hv (by omega)


set_option maxRecDepth 100000 in
theorem lifted (os : Os) (started : os.Started) (H : Type) (enc : TypeId × Value → H) :
    ReturnsInHanded {} Try.checked os 3 .any (Rows.frameBytesSpec.pre6 enc Try.prog Try.f3 Rows.frameBytesRow.domain false) (Rows.frameBytesSpec.post enc Try.prog Try.f3 false true false false) := by
  refine returnsInHanded_of_change (C := Try.checked) own started (by kernel_rfl) Try.func3
    (ChangeSpec.witness6 (enc := enc) (C := Try.checked) false ⟨#[], #[.agg #[.int .i64 0, .int .i64 0, .int .u64 0, .int .u64 0, .int .u64 0, .int .u64 0, .int .u64 0, .int .u64 0, .slice none 0 0], .slice none 0 0], []⟩ 8 (by kernel_rfl) (by kernel_rfl) (by kernel_rfl) (by kernel_rfl)) ?_
  intro W base args ds gs before hval0 hW hcnd _
  have hval : ∀ (j : Nat) t v, Try.f3.params[j]? = some t → args[j]? = some v → Value.okWide Try.prog W .any base t v := hval0
  have hW' := hW
  obtain ⟨p, q, hA0, hV, rfl, hfz, hnd⟩ := hW
  have hA : DataW.TrodAll enc Try.prog W 0 (fun _ => true) true Try.f3.params.toList args.toList ds p := hA0
  rw [Try.params3] at hA hval
  obtain ⟨v0, vs0, d0, ds0, p0, q0, hargs, rfl, rfl, h0, r0⟩ := trodAll_cons hA
  obtain ⟨v1, vs1, d1, ds1, p1, q1, rfl, rfl, rfl, h1, r1⟩ := trodAll_cons r0
  obtain ⟨rfl, rfl, rfl⟩ := trodAll_nil r1
  obtain rfl : args = #[v0, v1] := by cases args; simp_all
  obtain ⟨rfl, rfl⟩ := trodVars_none hV
  have k0 := h0
  have lt0 : ∀ x ∈ p0, x.block < W.heap.size := by obtain ⟨m, hm⟩ := k0; exact DataW.trod_lt m _ _ _ hm
  have k1 := h1
  have lt1 : ∀ x ∈ p1, x.block < W.heap.size := by obtain ⟨m, hm⟩ := k1; exact DataW.trod_lt m _ _ _ hm
  obtain ⟨f0, rfl, w0⟩ := open_frame (hval 0 28 v0 rfl rfl) h0
  obtain ⟨z1, w1⟩ : ∃ zs, BytesV W v1 zs := open_bytes Try.underlying26 Try.underlying5 (by kernel_rfl) (hval 1 26 v1 rfl rfl) h1
  clear hA0 hval0
  refine (walk f0 v1 z1 W w0 w1).mono fun e W' ⟨he, bel⟩ => ?_
  subst he
  exact ⟨_, rfl, _, _, _, [], _, [], hW', trodAll_mk1 (shut_bool Try.underlying4 _), (trodAll_cons_mk (Below.trod laidOut (by kernel_rfl) (of_decide_eq_true (by kernel_rfl)) k0 bel lt0) (trodAll_cons_mk (Below.trod laidOut (by kernel_rfl) (of_decide_eq_true (by kernel_rfl)) k1 bel lt1) trodAll_mk0)), rfl, bel.frame _, fun h => by cases h⟩

theorem over : Rows.frameBytesRow.holds Try.pinned (OpenSpec.ofChange Rows.frameBytesSpec) :=
  OpenClaim.holds_of_wide 3 Try.f3 rfl rfl rfl rfl rfl rfl rfl ⟨rfl, rfl, rfl, rfl, rfl⟩ rfl rfl rfl rfl rfl (by kernel_rfl) Try.func3 (by kernel_rfl)
    (of_decide_eq_true (by kernel_rfl)) (by unfold Func.isWrapper; first | (rw [if_pos (by decide +kernel)]; kernel_rfl) | (rw [if_neg (by decide +kernel)]; exact ⟨rfl, rfl⟩))
    (fun os started H enc _ => lifted os started H enc)

/-- The statement. -/
theorem proved : Rows.FrameBytesSaid := over
end Go.Proofs.Ytiphhjipgjpepaa.frameBytes
