/- A control frame that is made of an update's bytes bears it, and is read as bearing it. For any update, any two tags, any two numbers. -/
import Derived.Test.YtiphhjipgjpepaaRows
import Derived.Test.YtiphhjipgjpepaaFrOpenU
import Derived.Test.YtiphhjipgjpepaaFrSame2
import Derived.Test.YtiphhjipgjpepaaFrUpdate
import Derived.Test.YtiphhjipgjpepaaFrSesLaw
import Derived.Test.YtiphhjipgjpepaaFrUBytes
import Derived.WalkKit
import Derived.ProofKit
import Derived.OpenShut
import Derived.ShutString
import Derived.ChangeOld
import Derived.Below
set_option linter.unusedVariables false
namespace Go.Proofs.Ytiphhjipgjpepaa.frameUpdates
open Go.ChangeShapes Go.WideShapes Go.ChangeAt Go.RowKit
open Go.ChangeMaps (open_string shut_string)
set_option linter.unusedSimpArgs false
theorem own : ownKnob Try.prog.godebug = none := by kernel_rfl
theorem laidOut : laidOutB Try.prog = true := by kernel_rfl


theorem three {w x : World} (o1 o2 o3 : Obj) (h : Grow (((w.alloc o1).alloc o2).alloc o3) x) :
    x.heap[w.heap.size]? = some o1 ∧ x.heap[w.heap.size + 1]? = some o2 ∧ x.heap[w.heap.size + 1 + 1]? = some o3 := by
  have e1 := heap_alloc_new w o1
  have e2 := heap_alloc_new (w.alloc o1) o2
  have e3 := heap_alloc_new ((w.alloc o1).alloc o2) o3
  have g4 := fun (y : World) o => (Grow.refl y).alloc o
  have k1 := (h.block _ (lt_of_block (((g4 _ o2).alloc o3).block _ (lt_of_block e1) |>.trans e1))).trans (((g4 _ o2).alloc o3).block _ (lt_of_block e1) |>.trans e1)
  have k2 := (h.block _ (lt_of_block ((g4 _ o3).block _ (lt_of_block e2) |>.trans e2))).trans ((g4 _ o3).block _ (lt_of_block e2) |>.trans e2)
  have k3 := (h.block _ (lt_of_block e3)).trans e3
  simp only [World.size_alloc] at k1 k2 k3
  exact ⟨k1, k2, k3⟩

/-- A call whose answer is known, wherever memory has grown to. -/
def Ask (fn : Nat) (args : Array Value) (v : Value) (w : World) : Prop := ∀ y, Grow w y → Calls Try.prog fn args y fun e w' => e = .returned v ∧ Grow y w'
theorem ask_tag (b t : Int) (w : World) : Ask 18 #[.agg #[.int .u64 b, .int .u64 t]] (.bool (tagOk b t)) w := fun y hy => by
  refine (maytag_any b t y).mono ?_
  rintro e w' ⟨rfl, rfl⟩
  exact ⟨rfl, (Grow.refl _).alloc _⟩
theorem ask_none (b t : Int) (w : World) : Ask 20 #[.agg #[.int .u64 b, .int .u64 t]] (.bool (noneT b t)) w := fun y hy => by
  refine (none_any b t y).mono ?_
  rintro e w' ⟨rfl, rfl⟩
  exact ⟨rfl, (Grow.refl _).alloc _⟩
theorem ask_may (a l d : Int) (w : World) (ha : 0 ≤ a ∧ a < 4294967296) (hl : I64 l) : Ask 19 #[.agg #[.int .u32 a, .int .i64 l, .int .i64 d]] (.bool (mayU a l d)) w := fun y hy => rumay_any a l d y ha hl
theorem ask_known (w : World) : Ask 8 #[] (.bool true) w := fun y hy => known_any y

set_option maxRecDepth 100000 in
set_option maxHeartbeats 1000000 in
theorem no_1 (a l d mb mt tb tt sq ak : Int) (w : World) (ha : 0 ≤ a ∧ a < 4294967296) (hl : I64 l) (q1 : mayU a l d = false) : Calls Try.prog 6 #[.agg #[.int .u32 a, .int .i64 l, .int .i64 d], .agg #[.int .u64 mb, .int .u64 mt], .agg #[.int .u64 tb, .int .u64 tt], .int .u64 sq, .int .u64 ak] w fun e w' => e = .returned (.bool true) ∧ Below w.heap.size w w' := by
  have Q1 := Lib.hid (ask_may a l d w ha hl)
  rw [q1] at Q1
  unfold Ask at Q1
  clear q1
  have QK := Lib.hid (ask_known w)
  unfold Ask at QK
  clear ha hl
  have HW : Hid (Grow w (((w.alloc (.cells #[.int .u32 a, .int .i64 l, .int .i64 d] 52)).alloc (.cells #[.int .u64 mb, .int .u64 mt] 25)).alloc (.cells #[.int .u64 tb, .int .u64 tt] 25))) := (((Grow.refl w).alloc _).alloc _).alloc _
  have HF : Hid (∀ x, Grow (((w.alloc (.cells #[.int .u32 a, .int .i64 l, .int .i64 d] 52)).alloc (.cells #[.int .u64 mb, .int .u64 mt] 25)).alloc (.cells #[.int .u64 tb, .int .u64 tt] 25)) x → _) := fun x hx => three _ _ _ hx
  go_enter Try.func6, Try.ntmps6
  go_wp2_with fail
  refine (Q1.out _ HW.out).mono ?_
  rintro e w1 ⟨rfl, hg⟩
  have HB1 := Lib.hid hg
  have HG1 := Lib.hid (HW.out.trans HB1.out)
  clear hg
  obtain ⟨x1, x2, x3⟩ := HF.out _ HB1.out
  obtain ⟨⟨y0, y1, y2⟩, _, _, _⟩ := blk3 x1
  obtain ⟨y3, y4⟩ := blk2 x2
  obtain ⟨y5, y6⟩ := blk2 x3
  clear x1 x2 x3
  go_wp2_with fail
  refine (QK.out _ HG1.out).mono ?_
  rintro e w9 ⟨rfl, hg⟩
  have HG9 := Lib.hid (HG1.out.trans hg)
  clear hg
  go_wp2_with fail
  go_ret
  exact ⟨rfl, HG9.out⟩

set_option maxRecDepth 100000 in
set_option maxHeartbeats 1000000 in
theorem no_2 (a l d mb mt tb tt sq ak : Int) (w : World) (ha : 0 ≤ a ∧ a < 4294967296) (hl : I64 l) (q1 : mayU a l d = true) (q2 : tagOk mb mt = false) : Calls Try.prog 6 #[.agg #[.int .u32 a, .int .i64 l, .int .i64 d], .agg #[.int .u64 mb, .int .u64 mt], .agg #[.int .u64 tb, .int .u64 tt], .int .u64 sq, .int .u64 ak] w fun e w' => e = .returned (.bool true) ∧ Below w.heap.size w w' := by
  have Q1 := Lib.hid (ask_may a l d w ha hl)
  rw [q1] at Q1
  unfold Ask at Q1
  have Q2 := Lib.hid (ask_tag mb mt w)
  rw [q2] at Q2
  unfold Ask at Q2
  clear q1 q2
  have QK := Lib.hid (ask_known w)
  unfold Ask at QK
  clear ha hl
  have HW : Hid (Grow w (((w.alloc (.cells #[.int .u32 a, .int .i64 l, .int .i64 d] 52)).alloc (.cells #[.int .u64 mb, .int .u64 mt] 25)).alloc (.cells #[.int .u64 tb, .int .u64 tt] 25))) := (((Grow.refl w).alloc _).alloc _).alloc _
  have HF : Hid (∀ x, Grow (((w.alloc (.cells #[.int .u32 a, .int .i64 l, .int .i64 d] 52)).alloc (.cells #[.int .u64 mb, .int .u64 mt] 25)).alloc (.cells #[.int .u64 tb, .int .u64 tt] 25)) x → _) := fun x hx => three _ _ _ hx
  go_enter Try.func6, Try.ntmps6
  go_wp2_with fail
  refine (Q1.out _ HW.out).mono ?_
  rintro e w1 ⟨rfl, hg⟩
  have HB1 := Lib.hid hg
  have HG1 := Lib.hid (HW.out.trans HB1.out)
  clear hg
  obtain ⟨x1, x2, x3⟩ := HF.out _ HB1.out
  obtain ⟨⟨y0, y1, y2⟩, _, _, _⟩ := blk3 x1
  obtain ⟨y3, y4⟩ := blk2 x2
  obtain ⟨y5, y6⟩ := blk2 x3
  clear x1 x2 x3
  go_wp2_with fail
  refine (Q2.out _ HG1.out).mono ?_
  rintro e w2 ⟨rfl, hg⟩
  have HB2 := Lib.hid (HB1.out.trans hg)
  have HG2 := Lib.hid (HW.out.trans HB2.out)
  clear hg
  clear y0 y1 y2 y3 y4 y5 y6
  obtain ⟨x1, x2, x3⟩ := HF.out _ HB2.out
  obtain ⟨⟨y0, y1, y2⟩, _, _, _⟩ := blk3 x1
  obtain ⟨y3, y4⟩ := blk2 x2
  obtain ⟨y5, y6⟩ := blk2 x3
  clear x1 x2 x3
  go_wp2_with fail
  refine (QK.out _ HG2.out).mono ?_
  rintro e w9 ⟨rfl, hg⟩
  have HG9 := Lib.hid (HG2.out.trans hg)
  clear hg
  go_wp2_with fail
  go_ret
  exact ⟨rfl, HG9.out⟩

set_option maxRecDepth 100000 in
set_option maxHeartbeats 1000000 in
theorem no_3 (a l d mb mt tb tt sq ak : Int) (w : World) (ha : 0 ≤ a ∧ a < 4294967296) (hl : I64 l) (q1 : mayU a l d = true) (q2 : tagOk mb mt = true) (q3 : tagOk tb tt = false) : Calls Try.prog 6 #[.agg #[.int .u32 a, .int .i64 l, .int .i64 d], .agg #[.int .u64 mb, .int .u64 mt], .agg #[.int .u64 tb, .int .u64 tt], .int .u64 sq, .int .u64 ak] w fun e w' => e = .returned (.bool true) ∧ Below w.heap.size w w' := by
  have Q1 := Lib.hid (ask_may a l d w ha hl)
  rw [q1] at Q1
  unfold Ask at Q1
  have Q2 := Lib.hid (ask_tag mb mt w)
  rw [q2] at Q2
  unfold Ask at Q2
  have Q3 := Lib.hid (ask_tag tb tt w)
  rw [q3] at Q3
  unfold Ask at Q3
  clear q1 q2 q3
  have QK := Lib.hid (ask_known w)
  unfold Ask at QK
  clear ha hl
  have HW : Hid (Grow w (((w.alloc (.cells #[.int .u32 a, .int .i64 l, .int .i64 d] 52)).alloc (.cells #[.int .u64 mb, .int .u64 mt] 25)).alloc (.cells #[.int .u64 tb, .int .u64 tt] 25))) := (((Grow.refl w).alloc _).alloc _).alloc _
  have HF : Hid (∀ x, Grow (((w.alloc (.cells #[.int .u32 a, .int .i64 l, .int .i64 d] 52)).alloc (.cells #[.int .u64 mb, .int .u64 mt] 25)).alloc (.cells #[.int .u64 tb, .int .u64 tt] 25)) x → _) := fun x hx => three _ _ _ hx
  go_enter Try.func6, Try.ntmps6
  go_wp2_with fail
  refine (Q1.out _ HW.out).mono ?_
  rintro e w1 ⟨rfl, hg⟩
  have HB1 := Lib.hid hg
  have HG1 := Lib.hid (HW.out.trans HB1.out)
  clear hg
  obtain ⟨x1, x2, x3⟩ := HF.out _ HB1.out
  obtain ⟨⟨y0, y1, y2⟩, _, _, _⟩ := blk3 x1
  obtain ⟨y3, y4⟩ := blk2 x2
  obtain ⟨y5, y6⟩ := blk2 x3
  clear x1 x2 x3
  go_wp2_with fail
  refine (Q2.out _ HG1.out).mono ?_
  rintro e w2 ⟨rfl, hg⟩
  have HB2 := Lib.hid (HB1.out.trans hg)
  have HG2 := Lib.hid (HW.out.trans HB2.out)
  clear hg
  clear y0 y1 y2 y3 y4 y5 y6
  obtain ⟨x1, x2, x3⟩ := HF.out _ HB2.out
  obtain ⟨⟨y0, y1, y2⟩, _, _, _⟩ := blk3 x1
  obtain ⟨y3, y4⟩ := blk2 x2
  obtain ⟨y5, y6⟩ := blk2 x3
  clear x1 x2 x3
  go_wp2_with fail
  refine (Q3.out _ HG2.out).mono ?_
  rintro e w3 ⟨rfl, hg⟩
  have HB3 := Lib.hid (HB2.out.trans hg)
  have HG3 := Lib.hid (HW.out.trans HB3.out)
  clear hg
  clear y0 y1 y2 y3 y4 y5 y6
  obtain ⟨x1, x2, x3⟩ := HF.out _ HB3.out
  obtain ⟨⟨y0, y1, y2⟩, _, _, _⟩ := blk3 x1
  obtain ⟨y3, y4⟩ := blk2 x2
  obtain ⟨y5, y6⟩ := blk2 x3
  clear x1 x2 x3
  go_wp2_with fail
  refine (QK.out _ HG3.out).mono ?_
  rintro e w9 ⟨rfl, hg⟩
  have HG9 := Lib.hid (HG3.out.trans hg)
  clear hg
  go_wp2_with fail
  go_ret
  exact ⟨rfl, HG9.out⟩

set_option maxRecDepth 100000 in
set_option maxHeartbeats 1000000 in
theorem no_4 (a l d mb mt tb tt sq ak : Int) (w : World) (ha : 0 ≤ a ∧ a < 4294967296) (hl : I64 l) (q1 : mayU a l d = true) (q2 : tagOk mb mt = true) (q3 : tagOk tb tt = true) (q4 : noneT mb mt = true) : Calls Try.prog 6 #[.agg #[.int .u32 a, .int .i64 l, .int .i64 d], .agg #[.int .u64 mb, .int .u64 mt], .agg #[.int .u64 tb, .int .u64 tt], .int .u64 sq, .int .u64 ak] w fun e w' => e = .returned (.bool true) ∧ Below w.heap.size w w' := by
  have Q1 := Lib.hid (ask_may a l d w ha hl)
  rw [q1] at Q1
  unfold Ask at Q1
  have Q2 := Lib.hid (ask_tag mb mt w)
  rw [q2] at Q2
  unfold Ask at Q2
  have Q3 := Lib.hid (ask_tag tb tt w)
  rw [q3] at Q3
  unfold Ask at Q3
  have Q4 := Lib.hid (ask_none mb mt w)
  rw [q4] at Q4
  unfold Ask at Q4
  clear q1 q2 q3 q4
  have QK := Lib.hid (ask_known w)
  unfold Ask at QK
  clear ha hl
  have HW : Hid (Grow w (((w.alloc (.cells #[.int .u32 a, .int .i64 l, .int .i64 d] 52)).alloc (.cells #[.int .u64 mb, .int .u64 mt] 25)).alloc (.cells #[.int .u64 tb, .int .u64 tt] 25))) := (((Grow.refl w).alloc _).alloc _).alloc _
  have HF : Hid (∀ x, Grow (((w.alloc (.cells #[.int .u32 a, .int .i64 l, .int .i64 d] 52)).alloc (.cells #[.int .u64 mb, .int .u64 mt] 25)).alloc (.cells #[.int .u64 tb, .int .u64 tt] 25)) x → _) := fun x hx => three _ _ _ hx
  go_enter Try.func6, Try.ntmps6
  go_wp2_with fail
  refine (Q1.out _ HW.out).mono ?_
  rintro e w1 ⟨rfl, hg⟩
  have HB1 := Lib.hid hg
  have HG1 := Lib.hid (HW.out.trans HB1.out)
  clear hg
  obtain ⟨x1, x2, x3⟩ := HF.out _ HB1.out
  obtain ⟨⟨y0, y1, y2⟩, _, _, _⟩ := blk3 x1
  obtain ⟨y3, y4⟩ := blk2 x2
  obtain ⟨y5, y6⟩ := blk2 x3
  clear x1 x2 x3
  go_wp2_with fail
  refine (Q2.out _ HG1.out).mono ?_
  rintro e w2 ⟨rfl, hg⟩
  have HB2 := Lib.hid (HB1.out.trans hg)
  have HG2 := Lib.hid (HW.out.trans HB2.out)
  clear hg
  clear y0 y1 y2 y3 y4 y5 y6
  obtain ⟨x1, x2, x3⟩ := HF.out _ HB2.out
  obtain ⟨⟨y0, y1, y2⟩, _, _, _⟩ := blk3 x1
  obtain ⟨y3, y4⟩ := blk2 x2
  obtain ⟨y5, y6⟩ := blk2 x3
  clear x1 x2 x3
  go_wp2_with fail
  refine (Q3.out _ HG2.out).mono ?_
  rintro e w3 ⟨rfl, hg⟩
  have HB3 := Lib.hid (HB2.out.trans hg)
  have HG3 := Lib.hid (HW.out.trans HB3.out)
  clear hg
  clear y0 y1 y2 y3 y4 y5 y6
  obtain ⟨x1, x2, x3⟩ := HF.out _ HB3.out
  obtain ⟨⟨y0, y1, y2⟩, _, _, _⟩ := blk3 x1
  obtain ⟨y3, y4⟩ := blk2 x2
  obtain ⟨y5, y6⟩ := blk2 x3
  clear x1 x2 x3
  go_wp2_with fail
  refine (Q4.out _ HG3.out).mono ?_
  rintro e w4 ⟨rfl, hg⟩
  have HB4 := Lib.hid (HB3.out.trans hg)
  have HG4 := Lib.hid (HW.out.trans HB4.out)
  clear hg
  clear y0 y1 y2 y3 y4 y5 y6
  obtain ⟨x1, x2, x3⟩ := HF.out _ HB4.out
  obtain ⟨⟨y0, y1, y2⟩, _, _, _⟩ := blk3 x1
  obtain ⟨y3, y4⟩ := blk2 x2
  obtain ⟨y5, y6⟩ := blk2 x3
  clear x1 x2 x3
  go_wp2_with fail
  refine (QK.out _ HG4.out).mono ?_
  rintro e w9 ⟨rfl, hg⟩
  have HG9 := Lib.hid (HG4.out.trans hg)
  clear hg
  go_wp2_with fail
  go_ret
  exact ⟨rfl, HG9.out⟩

set_option maxRecDepth 100000 in
set_option maxHeartbeats 1000000 in
theorem no_5 (a l d mb mt tb tt sq ak : Int) (w : World) (ha : 0 ≤ a ∧ a < 4294967296) (hl : I64 l) (q1 : mayU a l d = true) (q2 : tagOk mb mt = true) (q3 : tagOk tb tt = true) (q4 : noneT mb mt = false) (q5 : noneT tb tt = true) : Calls Try.prog 6 #[.agg #[.int .u32 a, .int .i64 l, .int .i64 d], .agg #[.int .u64 mb, .int .u64 mt], .agg #[.int .u64 tb, .int .u64 tt], .int .u64 sq, .int .u64 ak] w fun e w' => e = .returned (.bool true) ∧ Below w.heap.size w w' := by
  have Q1 := Lib.hid (ask_may a l d w ha hl)
  rw [q1] at Q1
  unfold Ask at Q1
  have Q2 := Lib.hid (ask_tag mb mt w)
  rw [q2] at Q2
  unfold Ask at Q2
  have Q3 := Lib.hid (ask_tag tb tt w)
  rw [q3] at Q3
  unfold Ask at Q3
  have Q4 := Lib.hid (ask_none mb mt w)
  rw [q4] at Q4
  unfold Ask at Q4
  have Q5 := Lib.hid (ask_none tb tt w)
  rw [q5] at Q5
  unfold Ask at Q5
  clear q1 q2 q3 q4 q5
  have QK := Lib.hid (ask_known w)
  unfold Ask at QK
  clear ha hl
  have HW : Hid (Grow w (((w.alloc (.cells #[.int .u32 a, .int .i64 l, .int .i64 d] 52)).alloc (.cells #[.int .u64 mb, .int .u64 mt] 25)).alloc (.cells #[.int .u64 tb, .int .u64 tt] 25))) := (((Grow.refl w).alloc _).alloc _).alloc _
  have HF : Hid (∀ x, Grow (((w.alloc (.cells #[.int .u32 a, .int .i64 l, .int .i64 d] 52)).alloc (.cells #[.int .u64 mb, .int .u64 mt] 25)).alloc (.cells #[.int .u64 tb, .int .u64 tt] 25)) x → _) := fun x hx => three _ _ _ hx
  go_enter Try.func6, Try.ntmps6
  go_wp2_with fail
  refine (Q1.out _ HW.out).mono ?_
  rintro e w1 ⟨rfl, hg⟩
  have HB1 := Lib.hid hg
  have HG1 := Lib.hid (HW.out.trans HB1.out)
  clear hg
  obtain ⟨x1, x2, x3⟩ := HF.out _ HB1.out
  obtain ⟨⟨y0, y1, y2⟩, _, _, _⟩ := blk3 x1
  obtain ⟨y3, y4⟩ := blk2 x2
  obtain ⟨y5, y6⟩ := blk2 x3
  clear x1 x2 x3
  go_wp2_with fail
  refine (Q2.out _ HG1.out).mono ?_
  rintro e w2 ⟨rfl, hg⟩
  have HB2 := Lib.hid (HB1.out.trans hg)
  have HG2 := Lib.hid (HW.out.trans HB2.out)
  clear hg
  clear y0 y1 y2 y3 y4 y5 y6
  obtain ⟨x1, x2, x3⟩ := HF.out _ HB2.out
  obtain ⟨⟨y0, y1, y2⟩, _, _, _⟩ := blk3 x1
  obtain ⟨y3, y4⟩ := blk2 x2
  obtain ⟨y5, y6⟩ := blk2 x3
  clear x1 x2 x3
  go_wp2_with fail
  refine (Q3.out _ HG2.out).mono ?_
  rintro e w3 ⟨rfl, hg⟩
  have HB3 := Lib.hid (HB2.out.trans hg)
  have HG3 := Lib.hid (HW.out.trans HB3.out)
  clear hg
  clear y0 y1 y2 y3 y4 y5 y6
  obtain ⟨x1, x2, x3⟩ := HF.out _ HB3.out
  obtain ⟨⟨y0, y1, y2⟩, _, _, _⟩ := blk3 x1
  obtain ⟨y3, y4⟩ := blk2 x2
  obtain ⟨y5, y6⟩ := blk2 x3
  clear x1 x2 x3
  go_wp2_with fail
  refine (Q4.out _ HG3.out).mono ?_
  rintro e w4 ⟨rfl, hg⟩
  have HB4 := Lib.hid (HB3.out.trans hg)
  have HG4 := Lib.hid (HW.out.trans HB4.out)
  clear hg
  clear y0 y1 y2 y3 y4 y5 y6
  obtain ⟨x1, x2, x3⟩ := HF.out _ HB4.out
  obtain ⟨⟨y0, y1, y2⟩, _, _, _⟩ := blk3 x1
  obtain ⟨y3, y4⟩ := blk2 x2
  obtain ⟨y5, y6⟩ := blk2 x3
  clear x1 x2 x3
  go_wp2_with fail
  refine (Q5.out _ HG4.out).mono ?_
  rintro e w5 ⟨rfl, hg⟩
  have HB5 := Lib.hid (HB4.out.trans hg)
  have HG5 := Lib.hid (HW.out.trans HB5.out)
  clear hg
  clear y0 y1 y2 y3 y4 y5 y6
  obtain ⟨x1, x2, x3⟩ := HF.out _ HB5.out
  obtain ⟨⟨y0, y1, y2⟩, _, _, _⟩ := blk3 x1
  obtain ⟨y3, y4⟩ := blk2 x2
  obtain ⟨y5, y6⟩ := blk2 x3
  clear x1 x2 x3
  go_wp2_with fail
  refine (QK.out _ HG5.out).mono ?_
  rintro e w9 ⟨rfl, hg⟩
  have HG9 := Lib.hid (HG5.out.trans hg)
  clear hg
  go_wp2_with fail
  go_ret
  exact ⟨rfl, HG9.out⟩

set_option maxRecDepth 100000 in
set_option maxHeartbeats 1000000 in
theorem no_6 (a l d mb mt tb tt sq ak : Int) (w : World) (ha : 0 ≤ a ∧ a < 4294967296) (hl : I64 l) (q1 : mayU a l d = true) (q2 : tagOk mb mt = true) (q3 : tagOk tb tt = true) (q4 : noneT mb mt = false) (q5 : noneT tb tt = false) (q6 : (sq == 0) = true) : Calls Try.prog 6 #[.agg #[.int .u32 a, .int .i64 l, .int .i64 d], .agg #[.int .u64 mb, .int .u64 mt], .agg #[.int .u64 tb, .int .u64 tt], .int .u64 sq, .int .u64 ak] w fun e w' => e = .returned (.bool true) ∧ Below w.heap.size w w' := by
  have Q1 := Lib.hid (ask_may a l d w ha hl)
  rw [q1] at Q1
  unfold Ask at Q1
  have Q2 := Lib.hid (ask_tag mb mt w)
  rw [q2] at Q2
  unfold Ask at Q2
  have Q3 := Lib.hid (ask_tag tb tt w)
  rw [q3] at Q3
  unfold Ask at Q3
  have Q4 := Lib.hid (ask_none mb mt w)
  rw [q4] at Q4
  unfold Ask at Q4
  have Q5 := Lib.hid (ask_none tb tt w)
  rw [q5] at Q5
  unfold Ask at Q5
  clear q1 q2 q3 q4 q5
  have QK := Lib.hid (ask_known w)
  unfold Ask at QK
  clear ha hl
  have HW : Hid (Grow w (((w.alloc (.cells #[.int .u32 a, .int .i64 l, .int .i64 d] 52)).alloc (.cells #[.int .u64 mb, .int .u64 mt] 25)).alloc (.cells #[.int .u64 tb, .int .u64 tt] 25))) := (((Grow.refl w).alloc _).alloc _).alloc _
  have HF : Hid (∀ x, Grow (((w.alloc (.cells #[.int .u32 a, .int .i64 l, .int .i64 d] 52)).alloc (.cells #[.int .u64 mb, .int .u64 mt] 25)).alloc (.cells #[.int .u64 tb, .int .u64 tt] 25)) x → _) := fun x hx => three _ _ _ hx
  go_enter Try.func6, Try.ntmps6
  go_wp2_with fail
  refine (Q1.out _ HW.out).mono ?_
  rintro e w1 ⟨rfl, hg⟩
  have HB1 := Lib.hid hg
  have HG1 := Lib.hid (HW.out.trans HB1.out)
  clear hg
  obtain ⟨x1, x2, x3⟩ := HF.out _ HB1.out
  obtain ⟨⟨y0, y1, y2⟩, _, _, _⟩ := blk3 x1
  obtain ⟨y3, y4⟩ := blk2 x2
  obtain ⟨y5, y6⟩ := blk2 x3
  clear x1 x2 x3
  go_wp2_with fail
  refine (Q2.out _ HG1.out).mono ?_
  rintro e w2 ⟨rfl, hg⟩
  have HB2 := Lib.hid (HB1.out.trans hg)
  have HG2 := Lib.hid (HW.out.trans HB2.out)
  clear hg
  clear y0 y1 y2 y3 y4 y5 y6
  obtain ⟨x1, x2, x3⟩ := HF.out _ HB2.out
  obtain ⟨⟨y0, y1, y2⟩, _, _, _⟩ := blk3 x1
  obtain ⟨y3, y4⟩ := blk2 x2
  obtain ⟨y5, y6⟩ := blk2 x3
  clear x1 x2 x3
  go_wp2_with fail
  refine (Q3.out _ HG2.out).mono ?_
  rintro e w3 ⟨rfl, hg⟩
  have HB3 := Lib.hid (HB2.out.trans hg)
  have HG3 := Lib.hid (HW.out.trans HB3.out)
  clear hg
  clear y0 y1 y2 y3 y4 y5 y6
  obtain ⟨x1, x2, x3⟩ := HF.out _ HB3.out
  obtain ⟨⟨y0, y1, y2⟩, _, _, _⟩ := blk3 x1
  obtain ⟨y3, y4⟩ := blk2 x2
  obtain ⟨y5, y6⟩ := blk2 x3
  clear x1 x2 x3
  go_wp2_with fail
  refine (Q4.out _ HG3.out).mono ?_
  rintro e w4 ⟨rfl, hg⟩
  have HB4 := Lib.hid (HB3.out.trans hg)
  have HG4 := Lib.hid (HW.out.trans HB4.out)
  clear hg
  clear y0 y1 y2 y3 y4 y5 y6
  obtain ⟨x1, x2, x3⟩ := HF.out _ HB4.out
  obtain ⟨⟨y0, y1, y2⟩, _, _, _⟩ := blk3 x1
  obtain ⟨y3, y4⟩ := blk2 x2
  obtain ⟨y5, y6⟩ := blk2 x3
  clear x1 x2 x3
  go_wp2_with fail
  refine (Q5.out _ HG4.out).mono ?_
  rintro e w5 ⟨rfl, hg⟩
  have HB5 := Lib.hid (HB4.out.trans hg)
  have HG5 := Lib.hid (HW.out.trans HB5.out)
  clear hg
  clear y0 y1 y2 y3 y4 y5 y6
  obtain ⟨x1, x2, x3⟩ := HF.out _ HB5.out
  obtain ⟨⟨y0, y1, y2⟩, _, _, _⟩ := blk3 x1
  obtain ⟨y3, y4⟩ := blk2 x2
  obtain ⟨y5, y6⟩ := blk2 x3
  clear x1 x2 x3
  go_wp2_with fail
  refine (QK.out _ HG5.out).mono ?_
  rintro e w9 ⟨rfl, hg⟩
  have HG9 := Lib.hid (HG5.out.trans hg)
  clear hg
  go_wp2_with fail
  go_ret
  exact ⟨rfl, HG9.out⟩

theorem may_made {a l d mb mt tb tt sq ak : Int} {v : Value} (ha : 0 ≤ a ∧ a < 4294967296) (q1 : mayU a l d = true) (q2 : tagOk mb mt = true) (q3 : tagOk tb tt = true) (q4 : noneT mb mt = false) (q5 : noneT tb tt = false) (hs : sq ≠ 0) : mayF ⟨2, 1, mb, mt, tb, tt, sq, ak, v, updB a l d⟩ = true :=
  decide_eq_true ⟨⟨by show (1 : Int) ≤ 1; decide, by show (1 : Int) ≤ 16; decide⟩, ⟨q2, q3, q4⟩, Or.inr (Or.inl ⟨rfl, q5, Or.inl ⟨(updB_is ha q1).1, hs⟩⟩)⟩

set_option maxRecDepth 100000 in
set_option maxHeartbeats 2000000 in
theorem main (a l d mb mt tb tt sq ak : Int) (w : World) (ha : 0 ≤ a ∧ a < 4294967296) (hl : I64 l) (ud : I64 d) (um : U64 mb ∧ U64 mt) (ut : U64 tb ∧ U64 tt) (us : U64 sq ∧ U64 ak) (q1 : mayU a l d = true) (q2 : tagOk mb mt = true) (q3 : tagOk tb tt = true) (q4 : noneT mb mt = false) (q5 : noneT tb tt = false) (q6 : (sq == 0) = false) : Calls Try.prog 6 #[.agg #[.int .u32 a, .int .i64 l, .int .i64 d], .agg #[.int .u64 mb, .int .u64 mt], .agg #[.int .u64 tb, .int .u64 tt], .int .u64 sq, .int .u64 ak] w fun e w' => e = .returned (.bool true) ∧ Below w.heap.size w w' := by
  obtain ⟨ub, hub⟩ : ∃ ub, updB a l d = ub := ⟨_, rfl⟩
  have HBY : Hid (∀ y, Calls Try.prog 21 #[.agg #[.int .u32 a, .int .i64 l, .int .i64 d]] y fun e w' => ∃ v, e = .returned v ∧ NewBytes y ub v w') := fun y => by rw [← hub]; exact rubytes_any a l d y ha q1
  have hs : sq ≠ 0 := by simpa using q6
  have HMAY : Hid (∀ v, mayF ⟨2, 1, mb, mt, tb, tt, sq, ak, v, ub⟩ = true) := fun v => by rw [← hub]; exact may_made ha q1 q2 q3 q4 q5 hs
  have HL : Hid (ub.length = 6) := by rw [← hub]; exact updB_length a l d
  have HUB : Hid (Bytes ub) := by rw [← hub]; exact updB_bytes q1
  have HIS : Hid (isU ub = true ∧ updV ub = .agg #[.int .u32 a, .int .i64 l, .int .i64 d]) := by rw [← hub]; exact updB_is ha q1
  have H64 : Hid (U64 mb ∧ U64 mt ∧ U64 tb ∧ U64 tt ∧ U64 sq ∧ U64 ak) := ⟨um.1, um.2, ut.1, ut.2, us.1, us.2⟩
  have HN : Hid (¬ (mb = 0 ∧ mt = 0) ∧ ¬ (tb = 0 ∧ tt = 0)) := ⟨of_decide_eq_false q4, of_decide_eq_false q5⟩
  have HOK : Hid (∀ v y, BytesV y v ub → FrOk y ⟨2, 1, mb, mt, tb, tt, sq, ak, v, ub⟩) := fun v y h => ⟨⟨by show (-9223372036854775808 : Int) ≤ 2; decide, by show (2 : Int) ≤ 9223372036854775807; decide⟩, ⟨by show (-9223372036854775808 : Int) ≤ 1; decide, by show (1 : Int) ≤ 9223372036854775807; decide⟩, um.1, um.2, ut.1, ut.2, us.1, us.2, h⟩
  have Q1 := Lib.hid (ask_may a l d w ha hl)
  rw [q1] at Q1
  unfold Ask at Q1
  have Q2 := Lib.hid (ask_tag mb mt w)
  rw [q2] at Q2
  unfold Ask at Q2
  have Q3 := Lib.hid (ask_tag tb tt w)
  rw [q3] at Q3
  unfold Ask at Q3
  have Q4 := Lib.hid (ask_none mb mt w)
  rw [q4] at Q4
  unfold Ask at Q4
  have Q5 := Lib.hid (ask_none tb tt w)
  rw [q5] at Q5
  unfold Ask at Q5
  have QK := Lib.hid (ask_known w)
  unfold Ask at QK
  clear ha hl ud um ut us q1 q2 q3 q4 q5 hub hs
  have HW : Hid (Grow w (((w.alloc (.cells #[.int .u32 a, .int .i64 l, .int .i64 d] 52)).alloc (.cells #[.int .u64 mb, .int .u64 mt] 25)).alloc (.cells #[.int .u64 tb, .int .u64 tt] 25))) := (((Grow.refl w).alloc _).alloc _).alloc _
  have HF : Hid (∀ x, Grow (((w.alloc (.cells #[.int .u32 a, .int .i64 l, .int .i64 d] 52)).alloc (.cells #[.int .u64 mb, .int .u64 mt] 25)).alloc (.cells #[.int .u64 tb, .int .u64 tt] 25)) x → _) := fun x hx => three _ _ _ hx
  go_enter Try.func6, Try.ntmps6
  go_wp2_with fail
  refine (Q1.out _ HW.out).mono ?_
  rintro e w1 ⟨rfl, hg⟩
  have HB1 := Lib.hid hg
  have HG1 := Lib.hid (HW.out.trans HB1.out)
  clear hg
  obtain ⟨x1, x2, x3⟩ := HF.out _ HB1.out
  obtain ⟨⟨y0, y1, y2⟩, _, _, _⟩ := blk3 x1
  obtain ⟨y3, y4⟩ := blk2 x2
  obtain ⟨y5, y6⟩ := blk2 x3
  clear x1 x2 x3
  go_wp2_with fail
  refine (Q2.out _ HG1.out).mono ?_
  rintro e w2 ⟨rfl, hg⟩
  have HB2 := Lib.hid (HB1.out.trans hg)
  have HG2 := Lib.hid (HW.out.trans HB2.out)
  clear hg
  clear y0 y1 y2 y3 y4 y5 y6
  obtain ⟨x1, x2, x3⟩ := HF.out _ HB2.out
  obtain ⟨⟨y0, y1, y2⟩, _, _, _⟩ := blk3 x1
  obtain ⟨y3, y4⟩ := blk2 x2
  obtain ⟨y5, y6⟩ := blk2 x3
  clear x1 x2 x3
  go_wp2_with fail
  refine (Q3.out _ HG2.out).mono ?_
  rintro e w3 ⟨rfl, hg⟩
  have HB3 := Lib.hid (HB2.out.trans hg)
  have HG3 := Lib.hid (HW.out.trans HB3.out)
  clear hg
  clear y0 y1 y2 y3 y4 y5 y6
  obtain ⟨x1, x2, x3⟩ := HF.out _ HB3.out
  obtain ⟨⟨y0, y1, y2⟩, _, _, _⟩ := blk3 x1
  obtain ⟨y3, y4⟩ := blk2 x2
  obtain ⟨y5, y6⟩ := blk2 x3
  clear x1 x2 x3
  go_wp2_with fail
  refine (Q4.out _ HG3.out).mono ?_
  rintro e w4 ⟨rfl, hg⟩
  have HB4 := Lib.hid (HB3.out.trans hg)
  have HG4 := Lib.hid (HW.out.trans HB4.out)
  clear hg
  clear y0 y1 y2 y3 y4 y5 y6
  obtain ⟨x1, x2, x3⟩ := HF.out _ HB4.out
  obtain ⟨⟨y0, y1, y2⟩, _, _, _⟩ := blk3 x1
  obtain ⟨y3, y4⟩ := blk2 x2
  obtain ⟨y5, y6⟩ := blk2 x3
  clear x1 x2 x3
  go_wp2_with fail
  refine (Q5.out _ HG4.out).mono ?_
  rintro e w5 ⟨rfl, hg⟩
  have HB5 := Lib.hid (HB4.out.trans hg)
  have HG5 := Lib.hid (HW.out.trans HB5.out)
  clear hg
  clear y0 y1 y2 y3 y4 y5 y6
  obtain ⟨x1, x2, x3⟩ := HF.out _ HB5.out
  obtain ⟨⟨y0, y1, y2⟩, _, _, _⟩ := blk3 x1
  obtain ⟨y3, y4⟩ := blk2 x2
  obtain ⟨y5, y6⟩ := blk2 x3
  clear x1 x2 x3
  go_wp2_with fail
  clear y0 y1 y2 y3 y4 y5 y6
  have HX1 : Hid (∀ x, Grow w5 x → _) := fun x hx => HF.out x (HB5.out.trans hx)
  refine wp_region_grow 8 [] NoBlock (fun _ => True) (by kernel_rfl) (by kernel_rfl) (by rfl) (fun _ _ _ _ => trivial) trivial ?_
  simp only [List.take_succ_cons, List.take_zero, List.drop_succ_cons, List.drop_zero]
  refine wpH_det (.agg #[.int .u64 mb, .int .u64 mt]) (by rfl) (fun xs => by rfl) (fun xs w' hg hf => ?_) ?_
  · clear hf
    obtain ⟨x1, x2, x3⟩ := HX1.out _ hg.below
    obtain ⟨y0, y1⟩ := blk2 x2
    clear hg x1 x2 x3
    go_simp
    exact Below.refl _ _
  try go_simp
  refine wpH_det (.agg #[.int .u64 tb, .int .u64 tt]) (by rfl) (fun xs => by rfl) (fun xs w' hg hf => ?_) ?_
  · clear hf
    obtain ⟨x1, x2, x3⟩ := HX1.out _ hg.below
    obtain ⟨y0, y1⟩ := blk2 x3
    clear hg x1 x2 x3
    go_simp
    exact Below.refl _ _
  try go_simp
  repeat (refine wpH_pure (by intro _ _ h; cases h) (by rfl) (by rfl) (fun K hK => ?_); go_simp; refine hK _ ?_; clear hK K)
  refine wpH_det (.agg #[.int .u32 a, .int .i64 l, .int .i64 d]) (by rfl) (fun xs => by rfl) (fun xs w' hg hf => ?_) ?_
  · clear hf
    obtain ⟨x1, x2, x3⟩ := HX1.out _ hg.below
    obtain ⟨⟨y0, y1, y2⟩, _, _, _⟩ := blk3 x1
    clear hg x1 x2 x3
    go_simp
    exact Below.refl _ _
  try go_simp
  refine wpH_hid (OwnB w5.heap.size ub) rfl (by rfl) (fun u x x' hg h => own_grow h hg.below) (fun xs => by rfl) (fun xs w' hg hf => ?_) ?_
  · clear hf
    have h := HBY.out w'
    have hs := hg.below.size
    go_simp
    refine h.mono ?_
    rintro e x ⟨v, rfl, h⟩
    exact ⟨_, rfl, own_base h.1 hs, h.2⟩
  try go_simp
  refine wpH_hid (BuiltF w5.heap.size (fun v' => .agg #[.int .i64 2, .int .i64 1, .int .u64 mb, .int .u64 mt, .int .u64 tb, .int .u64 tt, .int .u64 sq, .int .u64 ak, v']) ub) rfl (by rfl) (fun u x x' hg ⟨v', h1, h2⟩ => ⟨v', h1, own_grow h2 hg.below⟩) (fun xs => by rfl) (fun xs w' hg hf => ?_) ?_
  · have h1 := hf _ (List.Mem.head _) (by rfl); try dsimp only at h1
    have H1 := Lib.hid h1
    clear hf h1 hg
    simp only [fill]
    generalize xs 49 = y49 at *
    obtain ⟨ao6, cp6, rfl, _, _⟩ := (ints_of_owns H1.out).shape
    go_simp
    exact ⟨⟨_, rfl, H1.out⟩, Below.refl _ _⟩
  try go_simp
  refine wpH_hid (NewFr w5.heap.size) rfl (by rfl) (fun u x x' hg ⟨B, h1, h2, h3⟩ => ⟨B, h1, (hg.block B (lt_of_block h2) (fun h => h)).trans h2, h3⟩) (fun xs => by rfl) (fun xs w' hg hf => ?_) ?_
  · clear hf
    have hs := hg.size
    have hn := heap_alloc_new w' (.cells #[.int .i64 0, .int .i64 0, .int .u64 0, .int .u64 0, .int .u64 0, .int .u64 0, .int .u64 0, .int .u64 0, .slice none 0 0] 28)
    have HN := Lib.hid hn
    have HS := Lib.hid hs
    clear hn hs hg
    go_simp
    exact ⟨⟨_, rfl, HN.out, by have := HS.out; omega⟩, (Below.refl _ _).alloc (Nat.le_refl _) _⟩
  refine wpH_nil ?_
  intro xs w6 hg hx1 hx2
  have hp11 := hx2 _ _ (List.Mem.head _)
  have hp50 := hx2 _ _ (List.Mem.tail _ (List.Mem.head _))
  try dsimp only at hp11 hp50
  obtain ⟨B, hB, hB2, hB3⟩ := hp11
  obtain ⟨vb, hvb, hob⟩ := hp50
  clear hx1 hx2
  have HG6 := Lib.hid (HG5.out.trans hg.below)
  have hgg : Grow w5 w6 := hg.below
  have HX6 : Hid (∀ x, Grow w6 x → _) := fun x hx => HX1.out x (hgg.trans hx)
  clear hgg
  obtain ⟨q1, q2⟩ := blkFz hB2
  obtain ⟨⟨q3, q4, q5, q6', q7⟩, q8, q9, q10, q11⟩ := And.intro q1 q2
  have HB2 := Lib.hid hB2
  have HB3 := Lib.hid hB3
  have HLW : Hid (w.heap.size + 3 ≤ w5.heap.size) := by have := HB5.out.size; simp only [World.size_alloc] at this; exact this
  have hne1 : w.heap.size ≠ B := by have := HLW.out; omega
  have hne2 : w.heap.size + 1 ≠ B := by have := HLW.out; omega
  have hne3 : w.heap.size + 1 + 1 ≠ B := by have := HLW.out; omega
  have HNE := Lib.hid (And.intro hne1 (And.intro hne2 hne3))
  obtain ⟨ao7, cp7, rfl, hc7, hm7⟩ := (ints_of_owns hob).shape
  rw [HL.out] at hob hc7 hvb
  have HOB := Lib.hid hob
  try simp only at hvb
  simp only [fill]
  generalize hx49 : xs 49 = y49 at *
  generalize hx11 : xs 11 = y11 at *
  generalize hx50 : xs 50 = y50 at *
  subst hB
  subst hvb
  clear hg hB2 hob hB3 hx49 hx11 hx50 hne1 hne2 hne3
  obtain ⟨⟨p0, p1, p2, p3, p4⟩, p5, p6, p7, p8⟩ := blkF HB2.out
  go_simp
  go_wp2_with fail
  generalize hw7 : (((((((((w6.setCell ⟨B, 0, none⟩ (.int .i64 2)).setCell ⟨B, 1, none⟩ (.int .i64 1)).setCell ⟨B, 2, none⟩ (.int .u64 mb)).setCell ⟨B, 3, none⟩ (.int .u64 mt)).setCell ⟨B, 4, none⟩ (.int .u64 tb)).setCell ⟨B, 5, none⟩ (.int .u64 tt)).setCell ⟨B, 6, none⟩ (.int .u64 sq)).setCell ⟨B, 7, none⟩ (.int .u64 ak)).setCell ⟨B, 8, none⟩ (.slice ao7 6 cp7)) = w7
  have HB7 : Hid (w7.heap[B]? = some (.cells #[.int .i64 2, .int .i64 1, .int .u64 mb, .int .u64 mt, .int .u64 tb, .int .u64 tt, .int .u64 sq, .int .u64 ak, .slice ao7 6 cp7] 28 (0, 0))) := by rw [← hw7]; exact put9 HB2.out _ _ _ _ _ _ _ _ _
  have HX7 : Hid (w7.heap[w.heap.size]? = some (.cells #[.int .u32 a, .int .i64 l, .int .i64 d] 52) ∧ w7.heap[w.heap.size + 1]? = some (.cells #[.int .u64 mb, .int .u64 mt] 25) ∧ w7.heap[w.heap.size + 1 + 1]? = some (.cells #[.int .u64 tb, .int .u64 tt] 25)) := by
    obtain ⟨x1, x2, x3⟩ := HX6.out w6 (Grow.refl _)
    rw [← hw7]
    exact ⟨(far9 HNE.out.1 _ _ _ _ _ _ _ _ _).trans x1, (far9 HNE.out.2.1 _ _ _ _ _ _ _ _ _).trans x2, (far9 HNE.out.2.2 _ _ _ _ _ _ _ _ _).trans x3⟩
  have HG7 : Hid (Grow w w7) := by rw [← hw7]; exact grow9 HG6.out (by have := HB3.out; have := HLW.out; omega) _ _ _ _ _ _ _ _ _
  have HO7 : Hid (OwnB w5.heap.size ub (.slice ao7 6 cp7) w7) := by rw [← hw7]; exact own_set (show World.ownsRow _ _ _ _ _ _ _ from HOB.out) HB2.out (by decide) (fun k hk => far9 hk _ _ _ _ _ _ _ _ _)
  clear hw7 p0 p1 p2 p3 p4 p5 p6 p7 p8 q1 q2 q3 q4 q5 q6' q7 q8 q9 q10 q11
  have HBV : Hid (BytesV w7 (.slice ao7 6 cp7) ub) := ⟨HUB.out, ints_of_owns (show World.ownsRow _ _ _ _ _ _ _ from HO7.out)⟩
  have hok7 := HOK.out _ _ HBV.out
  obtain ⟨fb, hfb⟩ : ∃ l, frB ⟨2, 1, mb, mt, tb, tt, sq, ak, .slice ao7 6 cp7, ub⟩ = l := ⟨_, rfl⟩
  have hm := HMAY.out (.slice ao7 6 cp7)
  have HFL : Hid (fb.length = 60) := by show _ = _; rw [← hfb, frB_length]; show 54 + ub.length = 60; rw [HL.out]
  have HFB : Hid (Bytes fb) := by rw [← hfb]; exact frB_bytes _ HUB.out
  have HFO : Hid (okF fb) := by rw [← hfb]; exact okF_frB hm H64.out
  have HOF : Hid (∀ u, ofF fb u = ⟨2, 1, mb, mt, tb, tt, sq, ak, u, ub⟩) := fun u => by rw [← hfb]; exact ofF_frB (of_decide_eq_true hm) H64.out u
  have HD54 : Hid (fb.drop 54 = ub) := congrArg Fr.zs (HOF.out (.slice none 0 0))
  have HB9 : Hid (∀ y, Grow w7 y → Calls Try.prog 9 #[.agg #[.int .i64 2, .int .i64 1, .int .u64 mb, .int .u64 mt, .int .u64 tb, .int .u64 tt, .int .u64 sq, .int .u64 ak, .slice ao7 6 cp7]] y fun e w' => ∃ u, e = .returned (.tuple #[u, .int .i64 0]) ∧ NewBytes y fb u w') := fun y hy => by
    refine (fBytes_any _ y (hok7.mono hy) (by show ub.length ≤ 5000; rw [HL.out]; omega)).mono ?_
    rintro e w' (⟨_, u, rfl, h⟩ | ⟨h, _⟩)
    · rw [hfb] at h; exact ⟨u, rfl, h⟩
    · rw [hm] at h; cases h
  have HB14 : Hid (∀ u y, BytesV y u fb → Calls Try.prog 14 #[u] y fun e w' => ∃ v, e = .returned (.tuple #[.agg (#[.int .i64 2, .int .i64 1, .int .u64 mb, .int .u64 mt, .int .u64 tb, .int .u64 tt, .int .u64 sq, .int .u64 ak, v]), .int .i64 0]) ∧ BytesV w' v ub ∧ Grow y w') := fun u y hy => by
    refine (of_any u fb y hy (by rw [HFL.out]; omega)).mono ?_
    rintro e w' (⟨_, v, rfl, h⟩ | ⟨h, _⟩)
    · rw [HD54.out] at h; exact ⟨v, by rw [HOF.out v]; rfl, newb_bytes h HUB.out, h.2⟩
    · exact absurd HFO.out h
  have HB22 : Hid (∀ v y, BytesV y v ub → Calls Try.prog 22 #[.agg (#[.int .i64 2, .int .i64 1, .int .u64 mb, .int .u64 mt, .int .u64 tb, .int .u64 tt, .int .u64 sq, .int .u64 ak, v])] y fun e w' => e = .returned (.tuple #[.agg #[.int .u32 a, .int .i64 l, .int .i64 d], .bool true]) ∧ Grow y w') := fun v y hy => by
    refine (fupd_any _ y (HOK.out v y hy)).mono ?_
    rintro e w' ⟨rfl, h⟩
    have e1 : updR ⟨2, 1, mb, mt, tb, tt, sq, ak, v, ub⟩ = .agg #[.int .u32 a, .int .i64 l, .int .i64 d] := by
      unfold updR; rw [HMAY.out v]; exact HIS.out.2
    have e2 : updOk ⟨2, 1, mb, mt, tb, tt, sq, ak, v, ub⟩ = true := by
      unfold updOk; rw [HMAY.out v]; exact HIS.out.1
    rw [e1, e2]; exact ⟨rfl, h⟩
  have HB17 : Hid (∀ v y, BytesV y v ub → Calls Try.prog 17 #[.agg (#[.int .i64 2, .int .i64 1, .int .u64 mb, .int .u64 mt, .int .u64 tb, .int .u64 tt, .int .u64 sq, .int .u64 ak, v]), .agg #[.int .u64 tb, .int .u64 tt], .agg #[.int .u64 mb, .int .u64 mt]] y fun e w' => e = .returned (.bool true) ∧ Grow y w') := fun v y hy => by
    have e1 : sesF ⟨2, 1, mb, mt, tb, tt, sq, ak, v, ub⟩ tb tt mb mt = true := decide_eq_true ⟨HMAY.out v, by show (2 : Int) ≠ 1; decide, HN.out.2, HN.out.1, rfl, rfl, rfl, rfl⟩
    have := ses_any ⟨2, 1, mb, mt, tb, tt, sq, ak, v, ub⟩ tb tt mb mt y (HOK.out v y hy)
    rwa [e1] at this
  clear hok7 hm hfb
  obtain ⟨⟨p0, p1, p2, p3, p4⟩, p5, p6, p7, p8⟩ := blkF HB7.out
  go_wp2_with fail
  refine (HB9.out _ (Grow.refl _)).mono ?_
  rintro e w8 ⟨u8, rfl, hn8⟩
  have HG78 := Lib.hid hn8.2
  have HV8 := Lib.hid (newb_bytes hn8 HFB.out)
  obtain ⟨ao8, cp8, rfl, c8, m8⟩ := (newb_bytes hn8 HFB.out).shape
  rw [HFL.out] at c8 HV8 ⊢
  unfold maxLen at m8
  clear hn8 p0 p1 p2 p3 p4 p5 p6 p7 p8
  go_wp2_with fail
  refine (HB14.out _ _ HV8.out).mono ?_
  rintro e w9 ⟨v9, rfl, hv9, hg9⟩
  have HG79 := Lib.hid (HG78.out.trans hg9)
  have HV9 := Lib.hid hv9
  obtain ⟨ao9, cp9, rfl, c9, m9⟩ := hv9.shape
  rw [HL.out] at c9 HV9 ⊢
  unfold maxLen at m9
  clear hv9 hg9
  go_wp2_with fail
  have HG7a := Lib.hid (HG79.out.alloc (.cells (#[.int .i64 2, .int .i64 1, .int .u64 mb, .int .u64 mt, .int .u64 tb, .int .u64 tt, .int .u64 sq, .int .u64 ak, .slice ao9 6 cp9]) 28))
  have HBa := Lib.hid (heap_alloc_new w9 (.cells (#[.int .i64 2, .int .i64 1, .int .u64 mb, .int .u64 mt, .int .u64 tb, .int .u64 tt, .int .u64 sq, .int .u64 ak, .slice ao9 6 cp9]) 28))
  have HVa := Lib.hid (HV9.out.mono ((Grow.refl w9).alloc (.cells (#[.int .i64 2, .int .i64 1, .int .u64 mb, .int .u64 mt, .int .u64 tb, .int .u64 tt, .int .u64 sq, .int .u64 ak, .slice ao9 6 cp9]) 28)))
  refine (HB22.out _ _ HVa.out).mono ?_
  rintro e w10 ⟨rfl, hg10⟩
  have HG710 := Lib.hid (HG7a.out.trans hg10)
  have HB10 := Lib.hid ((hg10.block _ (lt_of_block HBa.out)).trans HBa.out)
  have HV10 := Lib.hid (HVa.out.mono hg10)
  clear hg10
  go_wp2_with fail
  have HU11 := Lib.hid (heap_alloc_new w10 (.cells #[.int .u32 a, .int .i64 l, .int .i64 d] 52))
  have HG711 := Lib.hid (HG710.out.alloc (.cells #[.int .u32 a, .int .i64 l, .int .i64 d] 52))
  have HB11 := Lib.hid ((((Grow.refl w10).alloc (.cells #[.int .u32 a, .int .i64 l, .int .i64 d] 52)).block _ (lt_of_block HB10.out)).trans HB10.out)
  have HV11 := Lib.hid (HV10.out.mono ((Grow.refl w10).alloc (.cells #[.int .u32 a, .int .i64 l, .int .i64 d] 52)))
  generalize w10.alloc (.cells #[.int .u32 a, .int .i64 l, .int .i64 d] 52) = w11 at *
  obtain ⟨x1, x2, x3⟩ := HX7.out
  obtain ⟨⟨y0, y1, y2⟩, _, _, _⟩ := blk3 ((HG711.out.block _ (lt_of_block x1)).trans x1)
  obtain ⟨y3, y4⟩ := blk2 ((HG711.out.block _ (lt_of_block x2)).trans x2)
  obtain ⟨y5, y6⟩ := blk2 ((HG711.out.block _ (lt_of_block x3)).trans x3)
  obtain ⟨⟨u0, u1, u2⟩, _, _, _⟩ := blk3 HU11.out
  obtain ⟨⟨p0, p1, p2, p3, p4⟩, p5, p6, p7, p8⟩ := blkF HB11.out
  clear x1 x2 x3
  refine (num_any _ _).mono ?_
  rintro e w12 ⟨rfl, rfl⟩
  go_wp2_with fail
  refine (num_any _ _).mono ?_
  rintro e w12 ⟨rfl, rfl⟩
  go_wp2_with fail
  refine (HB17.out _ _ HV11.out).mono ?_
  rintro e w12 ⟨rfl, hg12⟩
  have HG12 := Lib.hid ((HG7.out.trans HG711.out).trans hg12)
  clear hg12 y0 y1 y2 y3 y4 y5 y6 u0 u1 u2 p0 p1 p2 p3 p4 p5 p6 p7 p8
  go_wp2_with fail
  refine (head_any _).mono ?_
  rintro e w13 ⟨rfl, rfl⟩
  go_wp2_with fail
  refine (QK.out _ HG12.out).mono ?_
  rintro e w14 ⟨rfl, hg14⟩
  have HG14 := Lib.hid (HG12.out.trans hg14)
  clear hg14
  go_wp2_with fail
  go_ret
  exact ⟨rfl, HG14.out⟩

theorem walk (a l d mb mt tb tt sq ak : Int) (w : World) (hu : (0 ≤ a ∧ a < 4294967296) ∧ I64 l ∧ I64 d) (um : U64 mb ∧ U64 mt) (ut : U64 tb ∧ U64 tt) (us : U64 sq) (uk : U64 ak) : Calls Try.prog 6 #[.agg #[.int .u32 a, .int .i64 l, .int .i64 d], .agg #[.int .u64 mb, .int .u64 mt], .agg #[.int .u64 tb, .int .u64 tt], .int .u64 sq, .int .u64 ak] w fun e w' => e = .returned (.bool true) ∧ Below w.heap.size w w' := by
  obtain ⟨ha, hl, hd⟩ := hu
  cases q1 : mayU a l d
  · exact no_1 a l d mb mt tb tt sq ak w ha hl q1
  cases q2 : tagOk mb mt
  · exact no_2 a l d mb mt tb tt sq ak w ha hl q1 q2
  cases q3 : tagOk tb tt
  · exact no_3 a l d mb mt tb tt sq ak w ha hl q1 q2 q3
  cases q4 : noneT mb mt
  case true => exact no_4 a l d mb mt tb tt sq ak w ha hl q1 q2 q3 q4
  cases q5 : noneT tb tt
  case true => exact no_5 a l d mb mt tb tt sq ak w ha hl q1 q2 q3 q4 q5
  cases q6 : (sq == 0)
  case true => exact no_6 a l d mb mt tb tt sq ak w ha hl q1 q2 q3 q4 q5 q6
  exact main a l d mb mt tb tt sq ak w ha hl hd um ut ⟨us, uk⟩ q1 q2 q3 q4 q5 q6


set_option maxRecDepth 100000 in
theorem lifted (os : Os) (started : os.Started) (H : Type) (enc : TypeId × Value → H) :
    ReturnsInHanded {} Try.checked os 6 .any (Rows.frameUpdatesSpec.pre6 enc Try.prog Try.f6 Rows.frameUpdatesRow.domain false) (Rows.frameUpdatesSpec.post enc Try.prog Try.f6 false true false false) := by
  refine returnsInHanded_of_change (C := Try.checked) own started (by kernel_rfl) Try.func6
    (ChangeSpec.witness6 (enc := enc) (C := Try.checked) false ⟨#[], #[.agg #[.int .u32 0, .int .i64 0, .int .i64 0], .agg #[.int .u64 0, .int .u64 0], .agg #[.int .u64 0, .int .u64 0], .int .u64 0, .int .u64 0], []⟩ 8 (by kernel_rfl) (by kernel_rfl) (by kernel_rfl) (by kernel_rfl)) ?_
  intro W base args ds gs before hval0 hW hcnd _
  have hval : ∀ (j : Nat) t v, Try.f6.params[j]? = some t → args[j]? = some v → Value.okWide Try.prog W .any base t v := hval0
  have hW' := hW
  obtain ⟨p, q, hA0, hV, rfl, hfz, hnd⟩ := hW
  have hA : DataW.TrodAll enc Try.prog W 0 (fun _ => true) true Try.f6.params.toList args.toList ds p := hA0
  rw [Try.params6] at hA hval
  obtain ⟨v0, vs0, d0, ds0, p0, q0, hargs, rfl, rfl, h0, r0⟩ := trodAll_cons hA
  obtain ⟨v1, vs1, d1, ds1, p1, q1, rfl, rfl, rfl, h1, r1⟩ := trodAll_cons r0
  obtain ⟨v2, vs2, d2, ds2, p2, q2, rfl, rfl, rfl, h2, r2⟩ := trodAll_cons r1
  obtain ⟨v3, vs3, d3, ds3, p3, q3, rfl, rfl, rfl, h3, r3⟩ := trodAll_cons r2
  obtain ⟨v4, vs4, d4, ds4, p4, q4, rfl, rfl, rfl, h4, r4⟩ := trodAll_cons r3
  obtain ⟨rfl, rfl, rfl⟩ := trodAll_nil r4
  obtain rfl : args = #[v0, v1, v2, v3, v4] := by cases args; simp_all
  obtain ⟨rfl, rfl⟩ := trodVars_none hV
  have k0 := h0
  have lt0 : ∀ x ∈ p0, x.block < W.heap.size := by obtain ⟨m, hm⟩ := k0; exact DataW.trod_lt m _ _ _ hm
  have k1 := h1
  have lt1 : ∀ x ∈ p1, x.block < W.heap.size := by obtain ⟨m, hm⟩ := k1; exact DataW.trod_lt m _ _ _ hm
  have k2 := h2
  have lt2 : ∀ x ∈ p2, x.block < W.heap.size := by obtain ⟨m, hm⟩ := k2; exact DataW.trod_lt m _ _ _ hm
  have k3 := h3
  have lt3 : ∀ x ∈ p3, x.block < W.heap.size := by obtain ⟨m, hm⟩ := k3; exact DataW.trod_lt m _ _ _ hm
  have k4 := h4
  have lt4 : ∀ x ∈ p4, x.block < W.heap.size := by obtain ⟨m, hm⟩ := k4; exact DataW.trod_lt m _ _ _ hm
  obtain ⟨a0, l0, m0, rfl, w0⟩ := open_upd (hval 0 52 v0 rfl rfl) h0
  obtain ⟨f1, x1, rfl, w1⟩ := open_tag (hval 1 25 v1 rfl rfl) h1
  obtain ⟨f2, x2, rfl, w2⟩ := open_tag (hval 2 25 v2 rfl rfl) h2
  obtain ⟨a3, rfl, e3, f3, w3⟩ := open_int Try.underlying23 (hval 3 23 v3 rfl rfl) h3
  obtain ⟨a4, rfl, e4, f4, w4⟩ := open_int Try.underlying23 (hval 4 23 v4 rfl rfl) h4
  clear hA0 hval0
  refine (walk a0 l0 m0 f1 x1 f2 x2 a3 a4 W w0 w1 w2 (wf_u64 w3) (wf_u64 w4)).mono fun e W' ⟨he, bel⟩ => ?_
  subst he
  exact ⟨_, rfl, _, _, _, [], _, [], hW', trodAll_mk1 (shut_bool Try.underlying4 _), (trodAll_cons_mk (Below.trod laidOut (by kernel_rfl) (of_decide_eq_true (by kernel_rfl)) k0 bel lt0) (trodAll_cons_mk (Below.trod laidOut (by kernel_rfl) (of_decide_eq_true (by kernel_rfl)) k1 bel lt1) (trodAll_cons_mk (Below.trod laidOut (by kernel_rfl) (of_decide_eq_true (by kernel_rfl)) k2 bel lt2) (trodAll_cons_mk (Below.trod laidOut (by kernel_rfl) (of_decide_eq_true (by kernel_rfl)) k3 bel lt3) (trodAll_cons_mk (Below.trod laidOut (by kernel_rfl) (of_decide_eq_true (by kernel_rfl)) k4 bel lt4) trodAll_mk0))))), rfl, bel.frame _, fun h => by cases h⟩

theorem over : Rows.frameUpdatesRow.holds Try.pinned (OpenSpec.ofChange Rows.frameUpdatesSpec) :=
  OpenClaim.holds_of_wide 6 Try.f6 rfl rfl rfl rfl rfl rfl rfl ⟨rfl, rfl, rfl, rfl, rfl⟩ rfl rfl rfl rfl rfl (by kernel_rfl) Try.func6 (by kernel_rfl)
    (of_decide_eq_true (by kernel_rfl)) (by unfold Func.isWrapper; first | (rw [if_pos (by decide +kernel)]; kernel_rfl) | (rw [if_neg (by decide +kernel)]; exact ⟨rfl, rfl⟩))
    (fun os started H enc _ => lifted os started H enc)

/-- The statement. -/
theorem proved : Rows.FrameUpdatesSaid := over
end Go.Proofs.Ytiphhjipgjpepaa.frameUpdates
