/- A frame is of one session at most, told by its tags; a hello is of none; one that goes the other way has them turned. For any frame with at most 5000 bytes, any four tags. -/
import Derived.Test.YtiphhjipgjpepaaRows
import Derived.Test.YtiphhjipgjpepaaFrOpen
import Derived.Test.YtiphhjipgjpepaaFrSame
import Derived.Test.YtiphhjipgjpepaaFrSesLaw
import Derived.WalkKit
import Derived.ProofKit
import Derived.OpenShut
import Derived.ShutString
import Derived.ChangeOld
import Derived.Below
set_option linter.unusedVariables false
namespace Go.Proofs.Ytiphhjipgjpepaa.frameSessions
open Go.ChangeShapes Go.WideShapes Go.ChangeAt Go.RowKit
open Go.ChangeMaps (open_string shut_string)
set_option linter.unusedSimpArgs false
theorem own : ownKnob Try.prog.godebug = none := by kernel_rfl
theorem laidOut : laidOutB Try.prog = true := by kernel_rfl


theorem five {w x : World} (o1 o2 o3 o4 o5 : Obj) (h : Grow (((((w.alloc o1).alloc o2).alloc o3).alloc o4).alloc o5) x) :
    (x.heap[w.heap.size]? = some o1 ∧ x.heap[w.heap.size + 1]? = some o2 ∧ x.heap[w.heap.size + 1 + 1]? = some o3 ∧ x.heap[w.heap.size + 1 + 1 + 1]? = some o4) ∧ x.heap[w.heap.size + 1 + 1 + 1 + 1]? = some o5 := by
  refine ⟨four o1 o2 o3 o4 (((Grow.refl _).alloc o5).trans h), ?_⟩
  have e := heap_alloc_new ((((w.alloc o1).alloc o2).alloc o3).alloc o4) o5
  have k := (h.block _ (lt_of_block e)).trans e
  simp only [World.size_alloc] at k
  exact k

def PreS (f : Fr) (a b c d : Int) (s : Bool) (w : World) : Prop := ∀ y, Grow w y → Calls Try.prog 17 #[f.val, .agg #[.int .u64 a, .int .u64 b], .agg #[.int .u64 c, .int .u64 d]] y fun e w' => e = .returned (.bool s) ∧ Grow y w'


theorem put4 {w : World} {B : Nat} {T : TypeId} {y0 y1 y2 y3 y4 y5 y6 y7 y8 : Value} (h : w.heap[B]? = some (.cells #[y0, y1, y2, y3, y4, y5, y6, y7, y8] T (0, 0))) (x2 x3 x4 x5 : Value) : ((((w.setCell ⟨B, 2, none⟩ x2).setCell ⟨B, 3, none⟩ x3).setCell ⟨B, 4, none⟩ x4).setCell ⟨B, 5, none⟩ x5).heap[B]? = some (.cells #[y0, y1, x2, x3, x4, x5, y6, y7, y8] T (0, 0)) := by
  have h2 : (w.setCell ⟨B, 2, none⟩ x2).heap[B]? = some (.cells #[y0, y1, x2, y3, y4, y5, y6, y7, y8] T (0, 0)) := heap_setCell_same _ B 2 _ _ x2 h
  have h3 : ((w.setCell ⟨B, 2, none⟩ x2).setCell ⟨B, 3, none⟩ x3).heap[B]? = some (.cells #[y0, y1, x2, x3, y4, y5, y6, y7, y8] T (0, 0)) := heap_setCell_same _ B 3 _ _ x3 h2
  have h4 : (((w.setCell ⟨B, 2, none⟩ x2).setCell ⟨B, 3, none⟩ x3).setCell ⟨B, 4, none⟩ x4).heap[B]? = some (.cells #[y0, y1, x2, x3, x4, y5, y6, y7, y8] T (0, 0)) := heap_setCell_same _ B 4 _ _ x4 h3
  exact heap_setCell_same _ B 5 _ _ x5 h4
theorem far4 {w : World} {B k : Nat} (h : k ≠ B) (x2 x3 x4 x5 : Value) : ((((w.setCell ⟨B, 2, none⟩ x2).setCell ⟨B, 3, none⟩ x3).setCell ⟨B, 4, none⟩ x4).setCell ⟨B, 5, none⟩ x5).heap[k]? = w.heap[k]? := by
  rw [Below.heap_setCell _ _ _ _ (show k ≠ B from h), Below.heap_setCell _ _ _ _ (show k ≠ B from h), Below.heap_setCell _ _ _ _ (show k ≠ B from h), Below.heap_setCell _ _ _ _ (show k ≠ B from h)]
theorem put4d {w : World} {B : Nat} {T : TypeId} {y0 y1 y2 y3 y4 y5 y6 y7 y8 : Value} (h : w.heap[B]? = some (.cells #[y0, y1, y2, y3, y4, y5, y6, y7, y8] T (0, 0))) (x2 x3 x4 x5 : Value) : ((((w.setCell ⟨B, 2, none⟩ x2).setCell ⟨B, 3, none⟩ x3).setCell ⟨B, 4, none⟩ x4).setCell ⟨B, 5, none⟩ x5).drew.heap[B]? = some (.cells #[y0, y1, x2, x3, x4, x5, y6, y7, y8] T (0, 0)) := put4 h x2 x3 x4 x5
theorem far4d {w : World} {B k : Nat} (h : k ≠ B) (x2 x3 x4 x5 : Value) : ((((w.setCell ⟨B, 2, none⟩ x2).setCell ⟨B, 3, none⟩ x3).setCell ⟨B, 4, none⟩ x4).setCell ⟨B, 5, none⟩ x5).drew.heap[k]? = w.heap[k]? := far4 h x2 x3 x4 x5
theorem _root_.Go.Proofs.Ytiphhjipgjpepaa.FrOk.swap {w : World} {f : Fr} (h : FrOk w f) : FrOk w { f with mb := f.tb, mt := f.tt, tb := f.mb, tt := f.mt } := ⟨h.kind, h.node, h.tb, h.tt, h.mb, h.mt, h.sq, h.ak, h.body⟩

set_option maxRecDepth 100000 in
set_option maxHeartbeats 1000000 in
theorem long (f : Fr) (a b c d a' b' c' d' : Int) (w : World) (hok : FrOk w f) (hl : 5000 < f.zs.length) : Calls Try.prog 5 #[f.val, .agg #[.int .u64 a, .int .u64 b], .agg #[.int .u64 c, .int .u64 d], .agg #[.int .u64 a', .int .u64 b'], .agg #[.int .u64 c', .int .u64 d']] w fun e w' => e = .returned (.bool true) ∧ Below w.heap.size w w' := by
  obtain ⟨kd, nd, mb, mt, tb, tt, sq, ak, v, zs⟩ := f
  obtain ⟨ao, cap, hv, h1, h2⟩ := hok.body.shape
  dsimp only at hv h1 hl
  subst hv
  clear hok
  simp only [Fr.val, Fr.cells, frCells]
  unfold maxLen at h2
  generalize zs.length = m at *
  have HW : Hid (Grow w (((((w.alloc (.cells #[.int .i64 kd, .int .i64 nd, .int .u64 mb, .int .u64 mt, .int .u64 tb, .int .u64 tt, .int .u64 sq, .int .u64 ak, .slice ao m cap] 28)).alloc (.cells #[.int .u64 a, .int .u64 b] 25)).alloc (.cells #[.int .u64 c, .int .u64 d] 25)).alloc (.cells #[.int .u64 a', .int .u64 b'] 25)).alloc (.cells #[.int .u64 c', .int .u64 d'] 25))) := (((((Grow.refl w).alloc _).alloc _).alloc _).alloc _).alloc _
  go_enter Try.func5, Try.ntmps5
  go_wp2_with fail
  refine (known_any _).mono ?_
  rintro e w1 ⟨rfl, hg⟩
  have HG := Lib.hid (HW.out.trans hg)
  clear hg
  go_wp2_with fail
  go_ret
  exact ⟨rfl, HG.out⟩
set_option maxRecDepth 100000 in
set_option maxHeartbeats 1000000 in
theorem both_no (f : Fr) (a b c d a' b' c' d' : Int) (w : World) (hok : FrOk w f) (hl : f.zs.length ≤ 5000) (h1 : sesF f a b c d = false) (h2 : sesF f a' b' c' d' = false) : Calls Try.prog 5 #[f.val, .agg #[.int .u64 a, .int .u64 b], .agg #[.int .u64 c, .int .u64 d], .agg #[.int .u64 a', .int .u64 b'], .agg #[.int .u64 c', .int .u64 d']] w fun e w' => e = .returned (.bool true) ∧ Below w.heap.size w w' := by
  have HS1 : Hid (PreS f a b c d false w) := fun y hy => by rw [← h1]; exact ses_any f a b c d y (hok.mono hy)
  have HS2 : Hid (PreS f a' b' c' d' false w) := fun y hy => by rw [← h2]; exact ses_any f a' b' c' d' y (hok.mono hy)
  clear h1 h2
  obtain ⟨kd, nd, mb, mt, tb, tt, sq, ak, v, zs⟩ := f
  obtain ⟨ao, cap, hv, h1, h2⟩ := hok.body.shape
  dsimp only at hv h1 hl
  subst hv
  clear hok
  unfold PreS at HS1 HS2
  simp only [Fr.val, Fr.cells, frCells] at *
  unfold maxLen at h2
  generalize zs.length = m at *
  have HW : Hid (Grow w (((((w.alloc (.cells #[.int .i64 kd, .int .i64 nd, .int .u64 mb, .int .u64 mt, .int .u64 tb, .int .u64 tt, .int .u64 sq, .int .u64 ak, .slice ao m cap] 28)).alloc (.cells #[.int .u64 a, .int .u64 b] 25)).alloc (.cells #[.int .u64 c, .int .u64 d] 25)).alloc (.cells #[.int .u64 a', .int .u64 b'] 25)).alloc (.cells #[.int .u64 c', .int .u64 d'] 25))) := (((((Grow.refl w).alloc _).alloc _).alloc _).alloc _).alloc _
  have HF : Hid (∀ x, Grow (((((w.alloc (.cells #[.int .i64 kd, .int .i64 nd, .int .u64 mb, .int .u64 mt, .int .u64 tb, .int .u64 tt, .int .u64 sq, .int .u64 ak, .slice ao m cap] 28)).alloc (.cells #[.int .u64 a, .int .u64 b] 25)).alloc (.cells #[.int .u64 c, .int .u64 d] 25)).alloc (.cells #[.int .u64 a', .int .u64 b'] 25)).alloc (.cells #[.int .u64 c', .int .u64 d'] 25)) x → _) := fun x hx => five _ _ _ _ _ hx
  go_enter Try.func5, Try.ntmps5
  go_wp2_with fail
  refine wp_region_grow 10 [] NoBlock (fun _ => True) (by kernel_rfl) (by kernel_rfl) (by rfl) (fun _ _ _ _ => trivial) trivial ?_
  simp only [List.take_succ_cons, List.take_zero, List.drop_succ_cons, List.drop_zero]
  refine wpH_det (.agg #[.int .i64 kd, .int .i64 nd, .int .u64 mb, .int .u64 mt, .int .u64 tb, .int .u64 tt, .int .u64 sq, .int .u64 ak, .slice ao m cap]) (by rfl) (fun xs => by rfl) (fun xs w' hg hf => ?_) ?_
  · clear hf
    obtain ⟨⟨x1, x2, x3, x4⟩, x5⟩ := HF.out _ hg.below
    have hx := blkF x1
    obtain ⟨⟨y0, y1, y2, y3, y4⟩, y5, y6, y7, y8⟩ := hx
    go_simp
    exact Below.refl _ _
  try go_simp
  refine wpH_det (.agg #[.int .u64 a, .int .u64 b]) (by rfl) (fun xs => by rfl) (fun xs w' hg hf => ?_) ?_
  · clear hf
    obtain ⟨⟨x1, x2, x3, x4⟩, x5⟩ := HF.out _ hg.below
    obtain ⟨y0, y1⟩ := blk2 x2
    go_simp
    exact Below.refl _ _
  try go_simp
  refine wpH_det (.agg #[.int .u64 c, .int .u64 d]) (by rfl) (fun xs => by rfl) (fun xs w' hg hf => ?_) ?_
  · clear hf
    obtain ⟨⟨x1, x2, x3, x4⟩, x5⟩ := HF.out _ hg.below
    obtain ⟨y0, y1⟩ := blk2 x3
    go_simp
    exact Below.refl _ _
  try go_simp
  refine wpH_det (.bool false) (by rfl) (fun xs => by rfl) (fun xs w' hg hf => ?_) ?_
  · clear hf
    have h := HS1.out w' (HW.out.trans hg.below)
    go_simp
    refine h.mono ?_
    rintro e w1 ⟨rfl, h⟩
    exact ⟨_, rfl, rfl, h⟩
  try go_simp
  refine wpH_det (.agg #[.int .i64 kd, .int .i64 nd, .int .u64 mb, .int .u64 mt, .int .u64 tb, .int .u64 tt, .int .u64 sq, .int .u64 ak, .slice ao m cap]) (by rfl) (fun xs => by rfl) (fun xs w' hg hf => ?_) ?_
  · clear hf
    obtain ⟨⟨x1, x2, x3, x4⟩, x5⟩ := HF.out _ hg.below
    have hx := blkF x1
    obtain ⟨⟨y0, y1, y2, y3, y4⟩, y5, y6, y7, y8⟩ := hx
    go_simp
    exact Below.refl _ _
  try go_simp
  refine wpH_det (.agg #[.int .u64 a', .int .u64 b']) (by rfl) (fun xs => by rfl) (fun xs w' hg hf => ?_) ?_
  · clear hf
    obtain ⟨⟨x1, x2, x3, x4⟩, x5⟩ := HF.out _ hg.below
    obtain ⟨y0, y1⟩ := blk2 x4
    go_simp
    exact Below.refl _ _
  try go_simp
  refine wpH_det (.agg #[.int .u64 c', .int .u64 d']) (by rfl) (fun xs => by rfl) (fun xs w' hg hf => ?_) ?_
  · clear hf
    obtain ⟨⟨x1, x2, x3, x4⟩, x5⟩ := HF.out _ hg.below
    obtain ⟨y0, y1⟩ := blk2 x5
    go_simp
    exact Below.refl _ _
  try go_simp
  refine wpH_det (.bool false) (by rfl) (fun xs => by rfl) (fun xs w' hg hf => ?_) ?_
  · clear hf
    have h := HS2.out w' (HW.out.trans hg.below)
    go_simp
    refine h.mono ?_
    rintro e w1 ⟨rfl, h⟩
    exact ⟨_, rfl, rfl, h⟩
  try go_simp
  repeat (refine wpH_pure (by intro _ _ h; cases h) (by rfl) (by rfl) (fun K hK => ?_); go_simp; refine hK _ ?_; clear hK K)
  refine wpH_nil ?_
  intro xs w3 hg hx1 hx2
  clear hx1 hx2
  obtain ⟨⟨x1, x2, x3, x4⟩, x5⟩ := HF.out _ hg.below
  obtain ⟨⟨f0, f1, f2, f3, f4⟩, f5, f6, f7, f8⟩ := blkF x1
  have HX := Lib.hid x1
  have HG3 := Lib.hid (HW.out.trans hg.below)
  clear hg x1 x2 x3 x4 x5
  simp only [fill]
  go_simp
  go_wp2_with fail
  have hB := heap_alloc_new w3 (.cells #[.int .i64 kd, .int .i64 nd, .int .u64 mb, .int .u64 mt, .int .u64 tb, .int .u64 tt, .int .u64 sq, .int .u64 ak, .slice ao m cap] 28)
  have hP := (((Grow.refl w3).alloc (.cells #[.int .i64 kd, .int .i64 nd, .int .u64 mb, .int .u64 mt, .int .u64 tb, .int .u64 tt, .int .u64 sq, .int .u64 ak, .slice ao m cap] 28)).block _ (lt_of_block HX.out)).trans HX.out
  have hne : w.heap.size ≠ w3.heap.size := Nat.ne_of_lt (lt_of_block HX.out)
  clear f0 f1 f2 f3 f4 f5 f6 f7 f8
  obtain ⟨⟨f0, f1, f2, f3, f4⟩, f5, f6, f7, f8⟩ := blkF hP
  obtain ⟨⟨b0, b1, b2, b3, b4⟩, b5, b6, b7, b8⟩ := blkF hB
  obtain ⟨⟨z0, z1, z2, z3, z4⟩, z5, z6, z7, z8⟩ := blkFz hB
  have hne2 : w3.heap.size ≠ w.heap.size := hne.symm
  have hG4 : Grow w3 (w3.alloc (.cells #[.int .i64 kd, .int .i64 nd, .int .u64 mb, .int .u64 mt, .int .u64 tb, .int .u64 tt, .int .u64 sq, .int .u64 ak, .slice ao m cap] 28)) := (Grow.refl w3).alloc _
  have HG4 := Lib.hid hG4
  have HB := Lib.hid hB
  have HPP := Lib.hid hP
  clear hB hP hG4
  generalize w3.alloc (.cells #[.int .i64 kd, .int .i64 nd, .int .u64 mb, .int .u64 mt, .int .u64 tb, .int .u64 tt, .int .u64 sq, .int .u64 ak, .slice ao m cap] 28) = w4 at *
  go_region
  have hgw : Grow w w4 := HG3.out.trans HG4.out
  have hle : w.heap.size ≤ w3.heap.size := HG3.out.size
  have HS4 : Hid (∀ p q r s : Value, Grow w (((((w4.setCell ⟨w3.heap.size, 2, none⟩ p).setCell ⟨w3.heap.size, 3, none⟩ q).setCell ⟨w3.heap.size, 4, none⟩ r).setCell ⟨w3.heap.size, 5, none⟩ s).drew)) := fun p q r s =>
    Grow.drew (Below.setCell (p := ⟨w3.heap.size, 5, none⟩) (Below.setCell (p := ⟨w3.heap.size, 4, none⟩) (Below.setCell (p := ⟨w3.heap.size, 3, none⟩) (Below.setCell (p := ⟨w3.heap.size, 2, none⟩) hgw hle p) hle q) hle r) hle s)
  clear hgw hle
  go_wp2_with fail
  refine (known_any _).mono ?_
  rintro e w5 ⟨rfl, hg⟩
  have HG5 := Lib.hid ((HS4.out _ _ _ _).trans hg)
  clear hg
  go_wp2_with fail
  go_ret
  exact ⟨rfl, HG5.out⟩
set_option maxRecDepth 100000 in
set_option maxHeartbeats 1000000 in
theorem two_yes (f : Fr) (a b c d a' b' c' d' : Int) (w : World) (hok : FrOk w f) (hl : f.zs.length ≤ 5000) (h1 : sesF f a b c d = false) (h2 : sesF f a' b' c' d' = true) : Calls Try.prog 5 #[f.val, .agg #[.int .u64 a, .int .u64 b], .agg #[.int .u64 c, .int .u64 d], .agg #[.int .u64 a', .int .u64 b'], .agg #[.int .u64 c', .int .u64 d']] w fun e w' => e = .returned (.bool true) ∧ Below w.heap.size w w' := by
  have HS1 : Hid (PreS f a b c d false w) := fun y hy => by rw [← h1]; exact ses_any f a b c d y (hok.mono hy)
  have HS2 : Hid (PreS f a' b' c' d' true w) := fun y hy => by rw [← h2]; exact ses_any f a' b' c' d' y (hok.mono hy)
  have hk1 : (f.kind == 1) = false := by simpa using ses_kind h2
  clear h1 h2
  obtain ⟨kd, nd, mb, mt, tb, tt, sq, ak, v, zs⟩ := f
  obtain ⟨ao, cap, hv, h1, h2⟩ := hok.body.shape
  dsimp only at hv h1 hl
  subst hv
  clear hok
  unfold PreS at HS1 HS2
  simp only [Fr.val, Fr.cells, frCells] at *
  unfold maxLen at h2
  generalize zs.length = m at *
  have HW : Hid (Grow w (((((w.alloc (.cells #[.int .i64 kd, .int .i64 nd, .int .u64 mb, .int .u64 mt, .int .u64 tb, .int .u64 tt, .int .u64 sq, .int .u64 ak, .slice ao m cap] 28)).alloc (.cells #[.int .u64 a, .int .u64 b] 25)).alloc (.cells #[.int .u64 c, .int .u64 d] 25)).alloc (.cells #[.int .u64 a', .int .u64 b'] 25)).alloc (.cells #[.int .u64 c', .int .u64 d'] 25))) := (((((Grow.refl w).alloc _).alloc _).alloc _).alloc _).alloc _
  have HF : Hid (∀ x, Grow (((((w.alloc (.cells #[.int .i64 kd, .int .i64 nd, .int .u64 mb, .int .u64 mt, .int .u64 tb, .int .u64 tt, .int .u64 sq, .int .u64 ak, .slice ao m cap] 28)).alloc (.cells #[.int .u64 a, .int .u64 b] 25)).alloc (.cells #[.int .u64 c, .int .u64 d] 25)).alloc (.cells #[.int .u64 a', .int .u64 b'] 25)).alloc (.cells #[.int .u64 c', .int .u64 d'] 25)) x → _) := fun x hx => five _ _ _ _ _ hx
  go_enter Try.func5, Try.ntmps5
  go_wp2_with fail
  refine wp_region_grow 10 [] NoBlock (fun _ => True) (by kernel_rfl) (by kernel_rfl) (by rfl) (fun _ _ _ _ => trivial) trivial ?_
  simp only [List.take_succ_cons, List.take_zero, List.drop_succ_cons, List.drop_zero]
  refine wpH_det (.agg #[.int .i64 kd, .int .i64 nd, .int .u64 mb, .int .u64 mt, .int .u64 tb, .int .u64 tt, .int .u64 sq, .int .u64 ak, .slice ao m cap]) (by rfl) (fun xs => by rfl) (fun xs w' hg hf => ?_) ?_
  · clear hf
    obtain ⟨⟨x1, x2, x3, x4⟩, x5⟩ := HF.out _ hg.below
    have hx := blkF x1
    obtain ⟨⟨y0, y1, y2, y3, y4⟩, y5, y6, y7, y8⟩ := hx
    go_simp
    exact Below.refl _ _
  try go_simp
  refine wpH_det (.agg #[.int .u64 a, .int .u64 b]) (by rfl) (fun xs => by rfl) (fun xs w' hg hf => ?_) ?_
  · clear hf
    obtain ⟨⟨x1, x2, x3, x4⟩, x5⟩ := HF.out _ hg.below
    obtain ⟨y0, y1⟩ := blk2 x2
    go_simp
    exact Below.refl _ _
  try go_simp
  refine wpH_det (.agg #[.int .u64 c, .int .u64 d]) (by rfl) (fun xs => by rfl) (fun xs w' hg hf => ?_) ?_
  · clear hf
    obtain ⟨⟨x1, x2, x3, x4⟩, x5⟩ := HF.out _ hg.below
    obtain ⟨y0, y1⟩ := blk2 x3
    go_simp
    exact Below.refl _ _
  try go_simp
  refine wpH_det (.bool false) (by rfl) (fun xs => by rfl) (fun xs w' hg hf => ?_) ?_
  · clear hf
    have h := HS1.out w' (HW.out.trans hg.below)
    go_simp
    refine h.mono ?_
    rintro e w1 ⟨rfl, h⟩
    exact ⟨_, rfl, rfl, h⟩
  try go_simp
  refine wpH_det (.agg #[.int .i64 kd, .int .i64 nd, .int .u64 mb, .int .u64 mt, .int .u64 tb, .int .u64 tt, .int .u64 sq, .int .u64 ak, .slice ao m cap]) (by rfl) (fun xs => by rfl) (fun xs w' hg hf => ?_) ?_
  · clear hf
    obtain ⟨⟨x1, x2, x3, x4⟩, x5⟩ := HF.out _ hg.below
    have hx := blkF x1
    obtain ⟨⟨y0, y1, y2, y3, y4⟩, y5, y6, y7, y8⟩ := hx
    go_simp
    exact Below.refl _ _
  try go_simp
  refine wpH_det (.agg #[.int .u64 a', .int .u64 b']) (by rfl) (fun xs => by rfl) (fun xs w' hg hf => ?_) ?_
  · clear hf
    obtain ⟨⟨x1, x2, x3, x4⟩, x5⟩ := HF.out _ hg.below
    obtain ⟨y0, y1⟩ := blk2 x4
    go_simp
    exact Below.refl _ _
  try go_simp
  refine wpH_det (.agg #[.int .u64 c', .int .u64 d']) (by rfl) (fun xs => by rfl) (fun xs w' hg hf => ?_) ?_
  · clear hf
    obtain ⟨⟨x1, x2, x3, x4⟩, x5⟩ := HF.out _ hg.below
    obtain ⟨y0, y1⟩ := blk2 x5
    go_simp
    exact Below.refl _ _
  try go_simp
  refine wpH_det (.bool true) (by rfl) (fun xs => by rfl) (fun xs w' hg hf => ?_) ?_
  · clear hf
    have h := HS2.out w' (HW.out.trans hg.below)
    go_simp
    refine h.mono ?_
    rintro e w1 ⟨rfl, h⟩
    exact ⟨_, rfl, rfl, h⟩
  try go_simp
  repeat (refine wpH_pure (by intro _ _ h; cases h) (by rfl) (by rfl) (fun K hK => ?_); go_simp; refine hK _ ?_; clear hK K)
  refine wpH_nil ?_
  intro xs w3 hg hx1 hx2
  clear hx1 hx2
  obtain ⟨⟨x1, x2, x3, x4⟩, x5⟩ := HF.out _ hg.below
  obtain ⟨⟨f0, f1, f2, f3, f4⟩, f5, f6, f7, f8⟩ := blkF x1
  have HX := Lib.hid x1
  have HG3 := Lib.hid (HW.out.trans hg.below)
  clear hg x1 x2 x3 x4 x5
  simp only [fill]
  go_simp
  go_wp2_with fail
  have hB := heap_alloc_new w3 (.cells #[.int .i64 kd, .int .i64 nd, .int .u64 mb, .int .u64 mt, .int .u64 tb, .int .u64 tt, .int .u64 sq, .int .u64 ak, .slice ao m cap] 28)
  have hP := (((Grow.refl w3).alloc (.cells #[.int .i64 kd, .int .i64 nd, .int .u64 mb, .int .u64 mt, .int .u64 tb, .int .u64 tt, .int .u64 sq, .int .u64 ak, .slice ao m cap] 28)).block _ (lt_of_block HX.out)).trans HX.out
  have hne : w.heap.size ≠ w3.heap.size := Nat.ne_of_lt (lt_of_block HX.out)
  clear f0 f1 f2 f3 f4 f5 f6 f7 f8
  obtain ⟨⟨f0, f1, f2, f3, f4⟩, f5, f6, f7, f8⟩ := blkF hP
  obtain ⟨⟨b0, b1, b2, b3, b4⟩, b5, b6, b7, b8⟩ := blkF hB
  obtain ⟨⟨z0, z1, z2, z3, z4⟩, z5, z6, z7, z8⟩ := blkFz hB
  have hne2 : w3.heap.size ≠ w.heap.size := hne.symm
  have hG4 : Grow w3 (w3.alloc (.cells #[.int .i64 kd, .int .i64 nd, .int .u64 mb, .int .u64 mt, .int .u64 tb, .int .u64 tt, .int .u64 sq, .int .u64 ak, .slice ao m cap] 28)) := (Grow.refl w3).alloc _
  have HG4 := Lib.hid hG4
  have HB := Lib.hid hB
  have HPP := Lib.hid hP
  clear hB hP hG4
  generalize w3.alloc (.cells #[.int .i64 kd, .int .i64 nd, .int .u64 mb, .int .u64 mt, .int .u64 tb, .int .u64 tt, .int .u64 sq, .int .u64 ak, .slice ao m cap] 28) = w4 at *
  go_region
  have hgw : Grow w w4 := HG3.out.trans HG4.out
  have hle : w.heap.size ≤ w3.heap.size := HG3.out.size
  have HS4 : Hid (∀ p q r s : Value, Grow w (((((w4.setCell ⟨w3.heap.size, 2, none⟩ p).setCell ⟨w3.heap.size, 3, none⟩ q).setCell ⟨w3.heap.size, 4, none⟩ r).setCell ⟨w3.heap.size, 5, none⟩ s).drew)) := fun p q r s =>
    Grow.drew (Below.setCell (p := ⟨w3.heap.size, 5, none⟩) (Below.setCell (p := ⟨w3.heap.size, 4, none⟩) (Below.setCell (p := ⟨w3.heap.size, 3, none⟩) (Below.setCell (p := ⟨w3.heap.size, 2, none⟩) hgw hle p) hle q) hle r) hle s)
  clear hgw hle
  go_wp2_with fail
  refine (known_any _).mono ?_
  rintro e w5 ⟨rfl, hg⟩
  have HG5 := Lib.hid ((HS4.out _ _ _ _).trans hg)
  clear hg
  go_wp2_with fail
  go_ret
  exact ⟨rfl, HG5.out⟩
set_option maxRecDepth 100000 in
set_option maxHeartbeats 1000000 in
theorem one_yes (f : Fr) (a b c d a' b' c' d' : Int) (w : World) (hok : FrOk w f) (hl : f.zs.length ≤ 5000) (h1 : sesF f a b c d = true) (h2 : sesF f a' b' c' d' = false) : Calls Try.prog 5 #[f.val, .agg #[.int .u64 a, .int .u64 b], .agg #[.int .u64 c, .int .u64 d], .agg #[.int .u64 a', .int .u64 b'], .agg #[.int .u64 c', .int .u64 d']] w fun e w' => e = .returned (.bool true) ∧ Below w.heap.size w w' := by
  have HS1 : Hid (PreS f a b c d true w) := fun y hy => by rw [← h1]; exact ses_any f a b c d y (hok.mono hy)
  have HS2 : Hid (PreS f a' b' c' d' false w) := fun y hy => by rw [← h2]; exact ses_any f a' b' c' d' y (hok.mono hy)
  have HS3 : Hid (PreS { f with mb := f.tb, mt := f.tt, tb := f.mb, tt := f.mt } c d a b true w) := fun y hy => by rw [← ses_swap h1]; exact ses_any _ c d a b y (hok.swap.mono hy)
  have HT1 : Hid (∀ y, Calls Try.prog 18 #[.agg #[.int .u64 a, .int .u64 b]] y fun e w' => e = .returned (.bool true) ∧ Grow y w') := fun y => by
    rw [← (ses_tags h1).1]
    refine (maytag_any a b y).mono ?_
    rintro e w' ⟨rfl, rfl⟩
    exact ⟨rfl, (Grow.refl _).alloc _⟩
  have HT2 : Hid (∀ y, Calls Try.prog 18 #[.agg #[.int .u64 c, .int .u64 d]] y fun e w' => e = .returned (.bool true) ∧ Grow y w') := fun y => by
    rw [← (ses_tags h1).2]
    refine (maytag_any c d y).mono ?_
    rintro e w' ⟨rfl, rfl⟩
    exact ⟨rfl, (Grow.refl _).alloc _⟩
  have hk1 : (f.kind == 1) = false := by simpa using ses_kind h1
  clear h1 h2
  obtain ⟨kd, nd, mb, mt, tb, tt, sq, ak, v, zs⟩ := f
  obtain ⟨ao, cap, hv, h1, h2⟩ := hok.body.shape
  dsimp only at hv h1 hl
  subst hv
  clear hok
  unfold PreS at HS1 HS2 HS3
  simp only [Fr.val, Fr.cells, frCells] at *
  unfold maxLen at h2
  generalize zs.length = m at *
  have HW : Hid (Grow w (((((w.alloc (.cells #[.int .i64 kd, .int .i64 nd, .int .u64 mb, .int .u64 mt, .int .u64 tb, .int .u64 tt, .int .u64 sq, .int .u64 ak, .slice ao m cap] 28)).alloc (.cells #[.int .u64 a, .int .u64 b] 25)).alloc (.cells #[.int .u64 c, .int .u64 d] 25)).alloc (.cells #[.int .u64 a', .int .u64 b'] 25)).alloc (.cells #[.int .u64 c', .int .u64 d'] 25))) := (((((Grow.refl w).alloc _).alloc _).alloc _).alloc _).alloc _
  have HF : Hid (∀ x, Grow (((((w.alloc (.cells #[.int .i64 kd, .int .i64 nd, .int .u64 mb, .int .u64 mt, .int .u64 tb, .int .u64 tt, .int .u64 sq, .int .u64 ak, .slice ao m cap] 28)).alloc (.cells #[.int .u64 a, .int .u64 b] 25)).alloc (.cells #[.int .u64 c, .int .u64 d] 25)).alloc (.cells #[.int .u64 a', .int .u64 b'] 25)).alloc (.cells #[.int .u64 c', .int .u64 d'] 25)) x → _) := fun x hx => five _ _ _ _ _ hx
  go_enter Try.func5, Try.ntmps5
  go_wp2_with fail
  refine wp_region_grow 10 [] NoBlock (fun _ => True) (by kernel_rfl) (by kernel_rfl) (by rfl) (fun _ _ _ _ => trivial) trivial ?_
  simp only [List.take_succ_cons, List.take_zero, List.drop_succ_cons, List.drop_zero]
  refine wpH_det (.agg #[.int .i64 kd, .int .i64 nd, .int .u64 mb, .int .u64 mt, .int .u64 tb, .int .u64 tt, .int .u64 sq, .int .u64 ak, .slice ao m cap]) (by rfl) (fun xs => by rfl) (fun xs w' hg hf => ?_) ?_
  · clear hf
    obtain ⟨⟨x1, x2, x3, x4⟩, x5⟩ := HF.out _ hg.below
    have hx := blkF x1
    obtain ⟨⟨y0, y1, y2, y3, y4⟩, y5, y6, y7, y8⟩ := hx
    go_simp
    exact Below.refl _ _
  try go_simp
  refine wpH_det (.agg #[.int .u64 a, .int .u64 b]) (by rfl) (fun xs => by rfl) (fun xs w' hg hf => ?_) ?_
  · clear hf
    obtain ⟨⟨x1, x2, x3, x4⟩, x5⟩ := HF.out _ hg.below
    obtain ⟨y0, y1⟩ := blk2 x2
    go_simp
    exact Below.refl _ _
  try go_simp
  refine wpH_det (.agg #[.int .u64 c, .int .u64 d]) (by rfl) (fun xs => by rfl) (fun xs w' hg hf => ?_) ?_
  · clear hf
    obtain ⟨⟨x1, x2, x3, x4⟩, x5⟩ := HF.out _ hg.below
    obtain ⟨y0, y1⟩ := blk2 x3
    go_simp
    exact Below.refl _ _
  try go_simp
  refine wpH_det (.bool true) (by rfl) (fun xs => by rfl) (fun xs w' hg hf => ?_) ?_
  · clear hf
    have h := HS1.out w' (HW.out.trans hg.below)
    go_simp
    refine h.mono ?_
    rintro e w1 ⟨rfl, h⟩
    exact ⟨_, rfl, rfl, h⟩
  try go_simp
  refine wpH_det (.agg #[.int .i64 kd, .int .i64 nd, .int .u64 mb, .int .u64 mt, .int .u64 tb, .int .u64 tt, .int .u64 sq, .int .u64 ak, .slice ao m cap]) (by rfl) (fun xs => by rfl) (fun xs w' hg hf => ?_) ?_
  · clear hf
    obtain ⟨⟨x1, x2, x3, x4⟩, x5⟩ := HF.out _ hg.below
    have hx := blkF x1
    obtain ⟨⟨y0, y1, y2, y3, y4⟩, y5, y6, y7, y8⟩ := hx
    go_simp
    exact Below.refl _ _
  try go_simp
  refine wpH_det (.agg #[.int .u64 a', .int .u64 b']) (by rfl) (fun xs => by rfl) (fun xs w' hg hf => ?_) ?_
  · clear hf
    obtain ⟨⟨x1, x2, x3, x4⟩, x5⟩ := HF.out _ hg.below
    obtain ⟨y0, y1⟩ := blk2 x4
    go_simp
    exact Below.refl _ _
  try go_simp
  refine wpH_det (.agg #[.int .u64 c', .int .u64 d']) (by rfl) (fun xs => by rfl) (fun xs w' hg hf => ?_) ?_
  · clear hf
    obtain ⟨⟨x1, x2, x3, x4⟩, x5⟩ := HF.out _ hg.below
    obtain ⟨y0, y1⟩ := blk2 x5
    go_simp
    exact Below.refl _ _
  try go_simp
  refine wpH_det (.bool false) (by rfl) (fun xs => by rfl) (fun xs w' hg hf => ?_) ?_
  · clear hf
    have h := HS2.out w' (HW.out.trans hg.below)
    go_simp
    refine h.mono ?_
    rintro e w1 ⟨rfl, h⟩
    exact ⟨_, rfl, rfl, h⟩
  try go_simp
  repeat (refine wpH_pure (by intro _ _ h; cases h) (by rfl) (by rfl) (fun K hK => ?_); go_simp; refine hK _ ?_; clear hK K)
  refine wpH_nil ?_
  intro xs w3 hg hx1 hx2
  clear hx1 hx2
  obtain ⟨⟨x1, x2, x3, x4⟩, x5⟩ := HF.out _ hg.below
  obtain ⟨⟨f0, f1, f2, f3, f4⟩, f5, f6, f7, f8⟩ := blkF x1
  have HX := Lib.hid x1
  have HX2 := Lib.hid x2
  have HX3 := Lib.hid x3
  have HG3 := Lib.hid (HW.out.trans hg.below)
  clear hg x1 x2 x3 x4 x5
  simp only [fill]
  go_simp
  go_wp2_with fail
  have hB := heap_alloc_new w3 (.cells #[.int .i64 kd, .int .i64 nd, .int .u64 mb, .int .u64 mt, .int .u64 tb, .int .u64 tt, .int .u64 sq, .int .u64 ak, .slice ao m cap] 28)
  have hP := (((Grow.refl w3).alloc (.cells #[.int .i64 kd, .int .i64 nd, .int .u64 mb, .int .u64 mt, .int .u64 tb, .int .u64 tt, .int .u64 sq, .int .u64 ak, .slice ao m cap] 28)).block _ (lt_of_block HX.out)).trans HX.out
  have hne : w.heap.size ≠ w3.heap.size := Nat.ne_of_lt (lt_of_block HX.out)
  clear f0 f1 f2 f3 f4 f5 f6 f7 f8
  obtain ⟨⟨f0, f1, f2, f3, f4⟩, f5, f6, f7, f8⟩ := blkF hP
  obtain ⟨⟨b0, b1, b2, b3, b4⟩, b5, b6, b7, b8⟩ := blkF hB
  obtain ⟨⟨z0, z1, z2, z3, z4⟩, z5, z6, z7, z8⟩ := blkFz hB
  have hne2 : w3.heap.size ≠ w.heap.size := hne.symm
  have hG4 : Grow w3 (w3.alloc (.cells #[.int .i64 kd, .int .i64 nd, .int .u64 mb, .int .u64 mt, .int .u64 tb, .int .u64 tt, .int .u64 sq, .int .u64 ak, .slice ao m cap] 28)) := (Grow.refl w3).alloc _
  have HG4 := Lib.hid hG4
  have HB := Lib.hid hB
  have HPP := Lib.hid hP
  clear hB hP hG4
  generalize w3.alloc (.cells #[.int .i64 kd, .int .i64 nd, .int .u64 mb, .int .u64 mt, .int .u64 tb, .int .u64 tt, .int .u64 sq, .int .u64 ak, .slice ao m cap] 28) = w4 at *
  go_region
  have hgw : Grow w w4 := HG3.out.trans HG4.out
  have hle : w.heap.size ≤ w3.heap.size := HG3.out.size
  have HS4 : Hid (∀ p q r s : Value, Grow w (((((w4.setCell ⟨w3.heap.size, 2, none⟩ p).setCell ⟨w3.heap.size, 3, none⟩ q).setCell ⟨w3.heap.size, 4, none⟩ r).setCell ⟨w3.heap.size, 5, none⟩ s).drew)) := fun p q r s =>
    Grow.drew (Below.setCell (p := ⟨w3.heap.size, 5, none⟩) (Below.setCell (p := ⟨w3.heap.size, 4, none⟩) (Below.setCell (p := ⟨w3.heap.size, 3, none⟩) (Below.setCell (p := ⟨w3.heap.size, 2, none⟩) hgw hle p) hle q) hle r) hle s)
  clear hgw hle
  have hQ := put4d HB.out (.int .u64 tb) (.int .u64 tt) (.int .u64 mb) (.int .u64 mt)
  have n2 : w.heap.size + 1 ≠ w3.heap.size := Nat.ne_of_lt (lt_of_block HX2.out)
  have n3 : w.heap.size + 1 + 1 ≠ w3.heap.size := Nat.ne_of_lt (lt_of_block HX3.out)
  have e2 := (far4d n2 (.int .u64 tb) (.int .u64 tt) (.int .u64 mb) (.int .u64 mt)).trans ((HG4.out.block _ (lt_of_block HX2.out)).trans HX2.out)
  have e3 := (far4d n3 (.int .u64 tb) (.int .u64 tt) (.int .u64 mb) (.int .u64 mt)).trans ((HG4.out.block _ (lt_of_block HX3.out)).trans HX3.out)
  have HG5 := Lib.hid (HS4.out (.int .u64 tb) (.int .u64 tt) (.int .u64 mb) (.int .u64 mt))
  clear f0 f1 f2 f3 f4 f5 f6 f7 f8 b0 b1 b2 b3 b4 b5 b6 b7 b8 z0 z1 z2 z3 z4 z5 z6 z7 z8 HS4 n2 n3 hne hne2
  generalize ((((w4.setCell ⟨w3.heap.size, 2, none⟩ (.int .u64 tb)).setCell ⟨w3.heap.size, 3, none⟩ (.int .u64 tt)).setCell ⟨w3.heap.size, 4, none⟩ (.int .u64 mb)).setCell ⟨w3.heap.size, 5, none⟩ (.int .u64 mt)).drew = w5 at *
  obtain ⟨⟨f0, f1, f2, f3, f4⟩, f5, f6, f7, f8⟩ := blkF hQ
  obtain ⟨g0, g1⟩ := blk2 e2
  obtain ⟨g2, g3⟩ := blk2 e3
  have E2 := Lib.hid e2
  have E3 := Lib.hid e3
  clear hQ e2 e3
  go_wp2_with fail
  refine (HS3.out _ HG5.out).mono ?_
  rintro e w6 ⟨rfl, hg⟩
  have e2 := (hg.block _ (lt_of_block E2.out)).trans E2.out
  have e3 := (hg.block _ (lt_of_block E3.out)).trans E3.out
  have HG6 := Lib.hid (HG5.out.trans hg)
  have E2b := Lib.hid e2
  have E3b := Lib.hid e3
  clear hg f0 f1 f2 f3 f4 f5 f6 f7 f8 g0 g1 g2 g3
  obtain ⟨g0, g1⟩ := blk2 e2
  clear e2 e3
  go_wp2_with fail
  refine (HT1.out _).mono ?_
  rintro e w7 ⟨rfl, hg⟩
  have e3 := (hg.block _ (lt_of_block E3b.out)).trans E3b.out
  have HG7 := Lib.hid (HG6.out.trans hg)
  clear hg g0 g1
  obtain ⟨g2, g3⟩ := blk2 e3
  clear e3
  go_wp2_with fail
  refine (HT2.out _).mono ?_
  rintro e w8 ⟨rfl, hg⟩
  have HG8 := Lib.hid (HG7.out.trans hg)
  clear hg g2 g3
  go_wp2_with fail
  refine (known_any _).mono ?_
  rintro e w9 ⟨rfl, hg⟩
  have HG9 := Lib.hid (HG8.out.trans hg)
  clear hg
  go_wp2_with fail
  go_ret
  exact ⟨rfl, HG9.out⟩
set_option maxRecDepth 100000 in
set_option maxHeartbeats 1000000 in
theorem both_yes (f : Fr) (a b c d : Int) (w : World) (hok : FrOk w f) (hl : f.zs.length ≤ 5000) (h1 : sesF f a b c d = true) (h2 : sesF f a b c d = true) : Calls Try.prog 5 #[f.val, .agg #[.int .u64 a, .int .u64 b], .agg #[.int .u64 c, .int .u64 d], .agg #[.int .u64 a, .int .u64 b], .agg #[.int .u64 c, .int .u64 d]] w fun e w' => e = .returned (.bool true) ∧ Below w.heap.size w w' := by
  have HS1 : Hid (PreS f a b c d true w) := fun y hy => by rw [← h1]; exact ses_any f a b c d y (hok.mono hy)
  have HS2 : Hid (PreS f a b c d true w) := fun y hy => by rw [← h2]; exact ses_any f a b c d y (hok.mono hy)
  have HS3 : Hid (PreS { f with mb := f.tb, mt := f.tt, tb := f.mb, tt := f.mt } c d a b true w) := fun y hy => by rw [← ses_swap h1]; exact ses_any _ c d a b y (hok.swap.mono hy)
  have HT1 : Hid (∀ y, Calls Try.prog 18 #[.agg #[.int .u64 a, .int .u64 b]] y fun e w' => e = .returned (.bool true) ∧ Grow y w') := fun y => by
    rw [← (ses_tags h1).1]
    refine (maytag_any a b y).mono ?_
    rintro e w' ⟨rfl, rfl⟩
    exact ⟨rfl, (Grow.refl _).alloc _⟩
  have HT2 : Hid (∀ y, Calls Try.prog 18 #[.agg #[.int .u64 c, .int .u64 d]] y fun e w' => e = .returned (.bool true) ∧ Grow y w') := fun y => by
    rw [← (ses_tags h1).2]
    refine (maytag_any c d y).mono ?_
    rintro e w' ⟨rfl, rfl⟩
    exact ⟨rfl, (Grow.refl _).alloc _⟩
  have hk1 : (f.kind == 1) = false := by simpa using ses_kind h1
  clear h1 h2
  obtain ⟨kd, nd, mb, mt, tb, tt, sq, ak, v, zs⟩ := f
  obtain ⟨ao, cap, hv, h1, h2⟩ := hok.body.shape
  dsimp only at hv h1 hl
  subst hv
  clear hok
  unfold PreS at HS1 HS2 HS3
  simp only [Fr.val, Fr.cells, frCells] at *
  unfold maxLen at h2
  generalize zs.length = m at *
  have HW : Hid (Grow w (((((w.alloc (.cells #[.int .i64 kd, .int .i64 nd, .int .u64 mb, .int .u64 mt, .int .u64 tb, .int .u64 tt, .int .u64 sq, .int .u64 ak, .slice ao m cap] 28)).alloc (.cells #[.int .u64 a, .int .u64 b] 25)).alloc (.cells #[.int .u64 c, .int .u64 d] 25)).alloc (.cells #[.int .u64 a, .int .u64 b] 25)).alloc (.cells #[.int .u64 c, .int .u64 d] 25))) := (((((Grow.refl w).alloc _).alloc _).alloc _).alloc _).alloc _
  have HF : Hid (∀ x, Grow (((((w.alloc (.cells #[.int .i64 kd, .int .i64 nd, .int .u64 mb, .int .u64 mt, .int .u64 tb, .int .u64 tt, .int .u64 sq, .int .u64 ak, .slice ao m cap] 28)).alloc (.cells #[.int .u64 a, .int .u64 b] 25)).alloc (.cells #[.int .u64 c, .int .u64 d] 25)).alloc (.cells #[.int .u64 a, .int .u64 b] 25)).alloc (.cells #[.int .u64 c, .int .u64 d] 25)) x → _) := fun x hx => five _ _ _ _ _ hx
  go_enter Try.func5, Try.ntmps5
  go_wp2_with fail
  refine wp_region_grow 10 [] NoBlock (fun _ => True) (by kernel_rfl) (by kernel_rfl) (by rfl) (fun _ _ _ _ => trivial) trivial ?_
  simp only [List.take_succ_cons, List.take_zero, List.drop_succ_cons, List.drop_zero]
  refine wpH_det (.agg #[.int .i64 kd, .int .i64 nd, .int .u64 mb, .int .u64 mt, .int .u64 tb, .int .u64 tt, .int .u64 sq, .int .u64 ak, .slice ao m cap]) (by rfl) (fun xs => by rfl) (fun xs w' hg hf => ?_) ?_
  · clear hf
    obtain ⟨⟨x1, x2, x3, x4⟩, x5⟩ := HF.out _ hg.below
    have hx := blkF x1
    obtain ⟨⟨y0, y1, y2, y3, y4⟩, y5, y6, y7, y8⟩ := hx
    go_simp
    exact Below.refl _ _
  try go_simp
  refine wpH_det (.agg #[.int .u64 a, .int .u64 b]) (by rfl) (fun xs => by rfl) (fun xs w' hg hf => ?_) ?_
  · clear hf
    obtain ⟨⟨x1, x2, x3, x4⟩, x5⟩ := HF.out _ hg.below
    obtain ⟨y0, y1⟩ := blk2 x2
    go_simp
    exact Below.refl _ _
  try go_simp
  refine wpH_det (.agg #[.int .u64 c, .int .u64 d]) (by rfl) (fun xs => by rfl) (fun xs w' hg hf => ?_) ?_
  · clear hf
    obtain ⟨⟨x1, x2, x3, x4⟩, x5⟩ := HF.out _ hg.below
    obtain ⟨y0, y1⟩ := blk2 x3
    go_simp
    exact Below.refl _ _
  try go_simp
  refine wpH_det (.bool true) (by rfl) (fun xs => by rfl) (fun xs w' hg hf => ?_) ?_
  · clear hf
    have h := HS1.out w' (HW.out.trans hg.below)
    go_simp
    refine h.mono ?_
    rintro e w1 ⟨rfl, h⟩
    exact ⟨_, rfl, rfl, h⟩
  try go_simp
  refine wpH_det (.agg #[.int .i64 kd, .int .i64 nd, .int .u64 mb, .int .u64 mt, .int .u64 tb, .int .u64 tt, .int .u64 sq, .int .u64 ak, .slice ao m cap]) (by rfl) (fun xs => by rfl) (fun xs w' hg hf => ?_) ?_
  · clear hf
    obtain ⟨⟨x1, x2, x3, x4⟩, x5⟩ := HF.out _ hg.below
    have hx := blkF x1
    obtain ⟨⟨y0, y1, y2, y3, y4⟩, y5, y6, y7, y8⟩ := hx
    go_simp
    exact Below.refl _ _
  try go_simp
  refine wpH_det (.agg #[.int .u64 a, .int .u64 b]) (by rfl) (fun xs => by rfl) (fun xs w' hg hf => ?_) ?_
  · clear hf
    obtain ⟨⟨x1, x2, x3, x4⟩, x5⟩ := HF.out _ hg.below
    obtain ⟨y0, y1⟩ := blk2 x4
    go_simp
    exact Below.refl _ _
  try go_simp
  refine wpH_det (.agg #[.int .u64 c, .int .u64 d]) (by rfl) (fun xs => by rfl) (fun xs w' hg hf => ?_) ?_
  · clear hf
    obtain ⟨⟨x1, x2, x3, x4⟩, x5⟩ := HF.out _ hg.below
    obtain ⟨y0, y1⟩ := blk2 x5
    go_simp
    exact Below.refl _ _
  try go_simp
  refine wpH_det (.bool true) (by rfl) (fun xs => by rfl) (fun xs w' hg hf => ?_) ?_
  · clear hf
    have h := HS2.out w' (HW.out.trans hg.below)
    go_simp
    refine h.mono ?_
    rintro e w1 ⟨rfl, h⟩
    exact ⟨_, rfl, rfl, h⟩
  try go_simp
  repeat (refine wpH_pure (by intro _ _ h; cases h) (by rfl) (by rfl) (fun K hK => ?_); go_simp; refine hK _ ?_; clear hK K)
  refine wpH_nil ?_
  intro xs w3 hg hx1 hx2
  clear hx1 hx2
  obtain ⟨⟨x1, x2, x3, x4⟩, x5⟩ := HF.out _ hg.below
  obtain ⟨⟨f0, f1, f2, f3, f4⟩, f5, f6, f7, f8⟩ := blkF x1
  have HX := Lib.hid x1
  have HX2 := Lib.hid x2
  have HX3 := Lib.hid x3
  obtain ⟨u0, u1⟩ := blk2 x2
  obtain ⟨u2, u3⟩ := blk2 x3
  obtain ⟨u4, u5⟩ := blk2 x4
  obtain ⟨u6, u7⟩ := blk2 x5
  have HG3 := Lib.hid (HW.out.trans hg.below)
  clear hg x1 x2 x3 x4 x5
  simp only [fill]
  go_simp
  go_wp2_with fail
  have hB := heap_alloc_new w3 (.cells #[.int .i64 kd, .int .i64 nd, .int .u64 mb, .int .u64 mt, .int .u64 tb, .int .u64 tt, .int .u64 sq, .int .u64 ak, .slice ao m cap] 28)
  have hP := (((Grow.refl w3).alloc (.cells #[.int .i64 kd, .int .i64 nd, .int .u64 mb, .int .u64 mt, .int .u64 tb, .int .u64 tt, .int .u64 sq, .int .u64 ak, .slice ao m cap] 28)).block _ (lt_of_block HX.out)).trans HX.out
  have hne : w.heap.size ≠ w3.heap.size := Nat.ne_of_lt (lt_of_block HX.out)
  clear f0 f1 f2 f3 f4 f5 f6 f7 f8
  clear u0 u1 u2 u3 u4 u5 u6 u7
  obtain ⟨⟨f0, f1, f2, f3, f4⟩, f5, f6, f7, f8⟩ := blkF hP
  obtain ⟨⟨b0, b1, b2, b3, b4⟩, b5, b6, b7, b8⟩ := blkF hB
  obtain ⟨⟨z0, z1, z2, z3, z4⟩, z5, z6, z7, z8⟩ := blkFz hB
  have hne2 : w3.heap.size ≠ w.heap.size := hne.symm
  have hG4 : Grow w3 (w3.alloc (.cells #[.int .i64 kd, .int .i64 nd, .int .u64 mb, .int .u64 mt, .int .u64 tb, .int .u64 tt, .int .u64 sq, .int .u64 ak, .slice ao m cap] 28)) := (Grow.refl w3).alloc _
  have HG4 := Lib.hid hG4
  have HB := Lib.hid hB
  have HPP := Lib.hid hP
  clear hB hP hG4
  generalize w3.alloc (.cells #[.int .i64 kd, .int .i64 nd, .int .u64 mb, .int .u64 mt, .int .u64 tb, .int .u64 tt, .int .u64 sq, .int .u64 ak, .slice ao m cap] 28) = w4 at *
  go_region
  have hgw : Grow w w4 := HG3.out.trans HG4.out
  have hle : w.heap.size ≤ w3.heap.size := HG3.out.size
  have HS4 : Hid (∀ p q r s : Value, Grow w (((((w4.setCell ⟨w3.heap.size, 2, none⟩ p).setCell ⟨w3.heap.size, 3, none⟩ q).setCell ⟨w3.heap.size, 4, none⟩ r).setCell ⟨w3.heap.size, 5, none⟩ s).drew)) := fun p q r s =>
    Grow.drew (Below.setCell (p := ⟨w3.heap.size, 5, none⟩) (Below.setCell (p := ⟨w3.heap.size, 4, none⟩) (Below.setCell (p := ⟨w3.heap.size, 3, none⟩) (Below.setCell (p := ⟨w3.heap.size, 2, none⟩) hgw hle p) hle q) hle r) hle s)
  clear hgw hle
  have hQ := put4d HB.out (.int .u64 tb) (.int .u64 tt) (.int .u64 mb) (.int .u64 mt)
  have n2 : w.heap.size + 1 ≠ w3.heap.size := Nat.ne_of_lt (lt_of_block HX2.out)
  have n3 : w.heap.size + 1 + 1 ≠ w3.heap.size := Nat.ne_of_lt (lt_of_block HX3.out)
  have e2 := (far4d n2 (.int .u64 tb) (.int .u64 tt) (.int .u64 mb) (.int .u64 mt)).trans ((HG4.out.block _ (lt_of_block HX2.out)).trans HX2.out)
  have e3 := (far4d n3 (.int .u64 tb) (.int .u64 tt) (.int .u64 mb) (.int .u64 mt)).trans ((HG4.out.block _ (lt_of_block HX3.out)).trans HX3.out)
  have HG5 := Lib.hid (HS4.out (.int .u64 tb) (.int .u64 tt) (.int .u64 mb) (.int .u64 mt))
  clear f0 f1 f2 f3 f4 f5 f6 f7 f8 b0 b1 b2 b3 b4 b5 b6 b7 b8 z0 z1 z2 z3 z4 z5 z6 z7 z8 HS4 n2 n3 hne hne2
  generalize ((((w4.setCell ⟨w3.heap.size, 2, none⟩ (.int .u64 tb)).setCell ⟨w3.heap.size, 3, none⟩ (.int .u64 tt)).setCell ⟨w3.heap.size, 4, none⟩ (.int .u64 mb)).setCell ⟨w3.heap.size, 5, none⟩ (.int .u64 mt)).drew = w5 at *
  obtain ⟨⟨f0, f1, f2, f3, f4⟩, f5, f6, f7, f8⟩ := blkF hQ
  obtain ⟨g0, g1⟩ := blk2 e2
  obtain ⟨g2, g3⟩ := blk2 e3
  have E2 := Lib.hid e2
  have E3 := Lib.hid e3
  clear hQ e2 e3
  go_wp2_with fail
  refine (HS3.out _ HG5.out).mono ?_
  rintro e w6 ⟨rfl, hg⟩
  have e2 := (hg.block _ (lt_of_block E2.out)).trans E2.out
  have e3 := (hg.block _ (lt_of_block E3.out)).trans E3.out
  have HG6 := Lib.hid (HG5.out.trans hg)
  have E2b := Lib.hid e2
  have E3b := Lib.hid e3
  clear hg f0 f1 f2 f3 f4 f5 f6 f7 f8 g0 g1 g2 g3
  obtain ⟨g0, g1⟩ := blk2 e2
  clear e2 e3
  go_wp2_with fail
  refine (HT1.out _).mono ?_
  rintro e w7 ⟨rfl, hg⟩
  have e3 := (hg.block _ (lt_of_block E3b.out)).trans E3b.out
  have HG7 := Lib.hid (HG6.out.trans hg)
  clear hg g0 g1
  obtain ⟨g2, g3⟩ := blk2 e3
  clear e3
  go_wp2_with fail
  refine (HT2.out _).mono ?_
  rintro e w8 ⟨rfl, hg⟩
  have HG8 := Lib.hid (HG7.out.trans hg)
  clear hg g2 g3
  go_wp2_with fail
  refine (known_any _).mono ?_
  rintro e w9 ⟨rfl, hg⟩
  have HG9 := Lib.hid (HG8.out.trans hg)
  clear hg
  go_wp2_with fail
  go_ret
  exact ⟨rfl, HG9.out⟩
theorem walk (f : Fr) (a b c d a' b' c' d' : Int) (w : World) (hok : FrOk w f) : Calls Try.prog 5 #[f.val, .agg #[.int .u64 a, .int .u64 b], .agg #[.int .u64 c, .int .u64 d], .agg #[.int .u64 a', .int .u64 b'], .agg #[.int .u64 c', .int .u64 d']] w fun e w' => e = .returned (.bool true) ∧ Below w.heap.size w w' := by
  by_cases hl : f.zs.length ≤ 5000
  · cases h1 : sesF f a b c d
    · cases h2 : sesF f a' b' c' d'
      · exact both_no f a b c d a' b' c' d' w hok hl h1 h2
      · exact two_yes f a b c d a' b' c' d' w hok hl h1 h2
    · cases h2 : sesF f a' b' c' d'
      · exact one_yes f a b c d a' b' c' d' w hok hl h1 h2
      · obtain ⟨rfl, rfl, rfl, rfl⟩ := ses_one h1 h2
        exact both_yes f a b c d w hok hl h1 h2
  · exact long f a b c d a' b' c' d' w hok (by omega)


set_option maxRecDepth 100000 in
theorem lifted (os : Os) (started : os.Started) (H : Type) (enc : TypeId × Value → H) :
    ReturnsInHanded {} Try.checked os 5 .any (Rows.frameSessionsSpec.pre6 enc Try.prog Try.f5 Rows.frameSessionsRow.domain false) (Rows.frameSessionsSpec.post enc Try.prog Try.f5 false true false false) := by
  refine returnsInHanded_of_change (C := Try.checked) own started (by kernel_rfl) Try.func5
    (ChangeSpec.witness6 (enc := enc) (C := Try.checked) false ⟨#[], #[.agg #[.int .i64 0, .int .i64 0, .int .u64 0, .int .u64 0, .int .u64 0, .int .u64 0, .int .u64 0, .int .u64 0, .slice none 0 0], .agg #[.int .u64 0, .int .u64 0], .agg #[.int .u64 0, .int .u64 0], .agg #[.int .u64 0, .int .u64 0], .agg #[.int .u64 0, .int .u64 0]], []⟩ 8 (by kernel_rfl) (by kernel_rfl) (by kernel_rfl) (by kernel_rfl)) ?_
  intro W base args ds gs before hval0 hW hcnd _
  have hval : ∀ (j : Nat) t v, Try.f5.params[j]? = some t → args[j]? = some v → Value.okWide Try.prog W .any base t v := hval0
  have hW' := hW
  obtain ⟨p, q, hA0, hV, rfl, hfz, hnd⟩ := hW
  have hA : DataW.TrodAll enc Try.prog W 0 (fun _ => true) true Try.f5.params.toList args.toList ds p := hA0
  rw [Try.params5] at hA hval
  obtain ⟨v0, vs0, d0, ds0, p0, q0, hargs, rfl, rfl, h0, r0⟩ := trodAll_cons hA
  obtain ⟨v1, vs1, d1, ds1, p1, q1, rfl, rfl, rfl, h1, r1⟩ := trodAll_cons r0
  obtain ⟨v2, vs2, d2, ds2, p2, q2, rfl, rfl, rfl, h2, r2⟩ := trodAll_cons r1
  obtain ⟨v3, vs3, d3, ds3, p3, q3, rfl, rfl, rfl, h3, r3⟩ := trodAll_cons r2
  obtain ⟨v4, vs4, d4, ds4, p4, q4, rfl, rfl, rfl, h4, r4⟩ := trodAll_cons r3
  obtain ⟨rfl, rfl, rfl⟩ := trodAll_nil r4
  obtain rfl : args = #[v0, v1, v2, v3, v4] := by cases args; simp_all
  obtain ⟨rfl, rfl⟩ := trodVars_none hV
  have k0 := h0
  have lt0 : ∀ x ∈ p0, x.block < W.heap.size := by obtain ⟨m, hm⟩ := k0; exact DataW.trod_lt m _ _ _ hm
  have k1 := h1
  have lt1 : ∀ x ∈ p1, x.block < W.heap.size := by obtain ⟨m, hm⟩ := k1; exact DataW.trod_lt m _ _ _ hm
  have k2 := h2
  have lt2 : ∀ x ∈ p2, x.block < W.heap.size := by obtain ⟨m, hm⟩ := k2; exact DataW.trod_lt m _ _ _ hm
  have k3 := h3
  have lt3 : ∀ x ∈ p3, x.block < W.heap.size := by obtain ⟨m, hm⟩ := k3; exact DataW.trod_lt m _ _ _ hm
  have k4 := h4
  have lt4 : ∀ x ∈ p4, x.block < W.heap.size := by obtain ⟨m, hm⟩ := k4; exact DataW.trod_lt m _ _ _ hm
  obtain ⟨f0, rfl, w0⟩ := open_frame (hval 0 28 v0 rfl rfl) h0
  obtain ⟨f1, x1, rfl, w1⟩ := open_tag (hval 1 25 v1 rfl rfl) h1
  obtain ⟨f2, x2, rfl, w2⟩ := open_tag (hval 2 25 v2 rfl rfl) h2
  obtain ⟨f3, x3, rfl, w3⟩ := open_tag (hval 3 25 v3 rfl rfl) h3
  obtain ⟨f4, x4, rfl, w4⟩ := open_tag (hval 4 25 v4 rfl rfl) h4
  clear hA0 hval0
  refine (walk f0 f1 x1 f2 x2 f3 x3 f4 x4 W w0).mono fun e W' ⟨he, bel⟩ => ?_
  subst he
  exact ⟨_, rfl, _, _, _, [], _, [], hW', trodAll_mk1 (shut_bool Try.underlying4 _), (trodAll_cons_mk (Below.trod laidOut (by kernel_rfl) (of_decide_eq_true (by kernel_rfl)) k0 bel lt0) (trodAll_cons_mk (Below.trod laidOut (by kernel_rfl) (of_decide_eq_true (by kernel_rfl)) k1 bel lt1) (trodAll_cons_mk (Below.trod laidOut (by kernel_rfl) (of_decide_eq_true (by kernel_rfl)) k2 bel lt2) (trodAll_cons_mk (Below.trod laidOut (by kernel_rfl) (of_decide_eq_true (by kernel_rfl)) k3 bel lt3) (trodAll_cons_mk (Below.trod laidOut (by kernel_rfl) (of_decide_eq_true (by kernel_rfl)) k4 bel lt4) trodAll_mk0))))), rfl, bel.frame _, fun h => by cases h⟩

theorem over : Rows.frameSessionsRow.holds Try.pinned (OpenSpec.ofChange Rows.frameSessionsSpec) :=
  OpenClaim.holds_of_wide 5 Try.f5 rfl rfl rfl rfl rfl rfl rfl ⟨rfl, rfl, rfl, rfl, rfl⟩ rfl rfl rfl rfl rfl (by kernel_rfl) Try.func5 (by kernel_rfl)
    (of_decide_eq_true (by kernel_rfl)) (by unfold Func.isWrapper; first | (rw [if_pos (by decide +kernel)]; kernel_rfl) | (rw [if_neg (by decide +kernel)]; exact ⟨rfl, rfl⟩))
    (fun os started H enc _ => lifted os started H enc)

/-- The statement. -/
theorem proved : Rows.FrameSessionsSaid := over
end Go.Proofs.Ytiphhjipgjpepaa.frameSessions
