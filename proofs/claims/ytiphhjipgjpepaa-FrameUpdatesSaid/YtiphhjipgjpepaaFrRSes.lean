/- What a session's frame is, the document's way. -/
import Derived.Test.YtiphhjipgjpepaaFrSesAll
set_option linter.unusedVariables false
set_option linter.unusedSimpArgs false
namespace Go.Proofs.Ytiphhjipgjpepaa
open Go.RowKit

theorem three {w x : World} (o1 o2 o3 : Obj) (h : Grow (((w.alloc o1).alloc o2).alloc o3) x) :
    x.heap[w.heap.size]? = some o1 ∧ x.heap[w.heap.size + 1]? = some o2 ∧ x.heap[w.heap.size + 1 + 1]? = some o3 := by
  have e1 := heap_alloc_new w o1
  have e2 := heap_alloc_new (w.alloc o1) o2
  have e3 := heap_alloc_new ((w.alloc o1).alloc o2) o3
  have g4 := fun (y : World) o => (Grow.refl y).alloc o
  have k1 := (h.block _ (lt_of_block (((g4 _ o2).alloc o3).block _ (lt_of_block e1) |>.trans e1))).trans (((g4 _ o2).alloc o3).block _ (lt_of_block e1) |>.trans e1)
  have k2 := (h.block _ (lt_of_block ((g4 _ o3).block _ (lt_of_block e2) |>.trans e2))).trans ((g4 _ o3).block _ (lt_of_block e2) |>.trans e2)
  have k3 := (h.block _ (lt_of_block e3)).trans e3
  simp only [World.size_alloc] at k1 k2 k3
  exact ⟨k1, k2, k3⟩

set_option maxRecDepth 20000 in
set_option maxHeartbeats 1000000 in
theorem rses_N0 {a ak b c d kd mb mt nd sq tb tt : Int} {ao : Option Addr} {m cap : Nat} (w : World) (hm : m ≤ cap) (hc : cap ≤ maxLen) (HM : ∀ x, Grow w x → Calls Try.prog 11 #[.agg #[.int .i64 kd, .int .i64 nd, .int .u64 mb, .int .u64 mt, .int .u64 tb, .int .u64 tt, .int .u64 sq, .int .u64 ak, .slice ao m cap]] x fun e w' => e = .returned (.bool false) ∧ Grow x w') :
    Calls Try.prog 25 #[.agg #[.int .i64 kd, .int .i64 nd, .int .u64 mb, .int .u64 mt, .int .u64 tb, .int .u64 tt, .int .u64 sq, .int .u64 ak, .slice ao m cap], .agg #[.int .u64 a, .int .u64 b], .agg #[.int .u64 c, .int .u64 d]] w fun e w' => e = .returned (.bool false) ∧ Grow w w' := by
  unfold maxLen at hc
  have HMh := Lib.hid HM
  clear HM
  have HG : Hid (Grow w (((w.alloc (.cells #[.int .i64 kd, .int .i64 nd, .int .u64 mb, .int .u64 mt, .int .u64 tb, .int .u64 tt, .int .u64 sq, .int .u64 ak, .slice ao m cap] 28)).alloc (.cells #[.int .u64 a, .int .u64 b] 25)).alloc (.cells #[.int .u64 c, .int .u64 d] 25))) := (((Grow.refl w).alloc _).alloc _).alloc _
  have HF : Hid (∀ x, Grow (((w.alloc (.cells #[.int .i64 kd, .int .i64 nd, .int .u64 mb, .int .u64 mt, .int .u64 tb, .int .u64 tt, .int .u64 sq, .int .u64 ak, .slice ao m cap] 28)).alloc (.cells #[.int .u64 a, .int .u64 b] 25)).alloc (.cells #[.int .u64 c, .int .u64 d] 25)) x → _) := fun x hx => three _ _ _ hx
  go_enter Try.func25, Try.ntmps25
  go_wp2_with fail
  refine (HMh.out _ HG.out).mono ?_
  rintro e w1 ⟨rfl, hg⟩
  obtain ⟨x1, x2, x3⟩ := HF.out _ hg
  obtain ⟨⟨f0, f1, f2, f3, f4⟩, f5, f6, f7, f8⟩ := blkF x1
  obtain ⟨a0, a1⟩ := blk2 x2
  obtain ⟨c0, c1⟩ := blk2 x3
  have HG1 := Lib.hid (HG.out.trans hg)
  have HGR := Lib.hid hg
  clear hg x1 x2 x3
  go_wp2_with fail
  go_ret
  exact ⟨rfl, HG1.out⟩

set_option maxRecDepth 20000 in
set_option maxHeartbeats 1000000 in
theorem rses_N1 {a ak b c d mb mt nd sq tb tt : Int} {ao : Option Addr} {m cap : Nat} (w : World) (hm : m ≤ cap) (hc : cap ≤ maxLen) (HM : ∀ x, Grow w x → Calls Try.prog 11 #[.agg #[.int .i64 1, .int .i64 nd, .int .u64 mb, .int .u64 mt, .int .u64 tb, .int .u64 tt, .int .u64 sq, .int .u64 ak, .slice ao m cap]] x fun e w' => e = .returned (.bool true) ∧ Grow x w') :
    Calls Try.prog 25 #[.agg #[.int .i64 1, .int .i64 nd, .int .u64 mb, .int .u64 mt, .int .u64 tb, .int .u64 tt, .int .u64 sq, .int .u64 ak, .slice ao m cap], .agg #[.int .u64 a, .int .u64 b], .agg #[.int .u64 c, .int .u64 d]] w fun e w' => e = .returned (.bool false) ∧ Grow w w' := by
  unfold maxLen at hc
  have HMh := Lib.hid HM
  clear HM
  have HG : Hid (Grow w (((w.alloc (.cells #[.int .i64 1, .int .i64 nd, .int .u64 mb, .int .u64 mt, .int .u64 tb, .int .u64 tt, .int .u64 sq, .int .u64 ak, .slice ao m cap] 28)).alloc (.cells #[.int .u64 a, .int .u64 b] 25)).alloc (.cells #[.int .u64 c, .int .u64 d] 25))) := (((Grow.refl w).alloc _).alloc _).alloc _
  have HF : Hid (∀ x, Grow (((w.alloc (.cells #[.int .i64 1, .int .i64 nd, .int .u64 mb, .int .u64 mt, .int .u64 tb, .int .u64 tt, .int .u64 sq, .int .u64 ak, .slice ao m cap] 28)).alloc (.cells #[.int .u64 a, .int .u64 b] 25)).alloc (.cells #[.int .u64 c, .int .u64 d] 25)) x → _) := fun x hx => three _ _ _ hx
  go_enter Try.func25, Try.ntmps25
  go_wp2_with fail
  refine (HMh.out _ HG.out).mono ?_
  rintro e w1 ⟨rfl, hg⟩
  obtain ⟨x1, x2, x3⟩ := HF.out _ hg
  obtain ⟨⟨f0, f1, f2, f3, f4⟩, f5, f6, f7, f8⟩ := blkF x1
  obtain ⟨a0, a1⟩ := blk2 x2
  obtain ⟨c0, c1⟩ := blk2 x3
  have HG1 := Lib.hid (HG.out.trans hg)
  have HGR := Lib.hid hg
  clear hg x1 x2 x3
  go_wp2_with fail
  go_ret
  exact ⟨rfl, HG1.out⟩

set_option maxRecDepth 20000 in
set_option maxHeartbeats 1000000 in
theorem rses_N2 {a ak b c d kd mb mt nd sq tb tt : Int} {ao : Option Addr} {m cap : Nat} (w : World) (hm : m ≤ cap) (hc : cap ≤ maxLen) (HM : ∀ x, Grow w x → Calls Try.prog 11 #[.agg #[.int .i64 kd, .int .i64 nd, .int .u64 mb, .int .u64 mt, .int .u64 tb, .int .u64 tt, .int .u64 sq, .int .u64 ak, .slice ao m cap]] x fun e w' => e = .returned (.bool true) ∧ Grow x w') (q1 : noneT a b = true) (hkd : (kd != 1) = true) :
    Calls Try.prog 25 #[.agg #[.int .i64 kd, .int .i64 nd, .int .u64 mb, .int .u64 mt, .int .u64 tb, .int .u64 tt, .int .u64 sq, .int .u64 ak, .slice ao m cap], .agg #[.int .u64 a, .int .u64 b], .agg #[.int .u64 c, .int .u64 d]] w fun e w' => e = .returned (.bool false) ∧ Grow w w' := by
  unfold maxLen at hc
  have HMh := Lib.hid HM
  clear HM
  have HQ1 := Lib.hid (fun x => none_any a b x)
  rw [q1] at HQ1
  clear q1
  have HG : Hid (Grow w (((w.alloc (.cells #[.int .i64 kd, .int .i64 nd, .int .u64 mb, .int .u64 mt, .int .u64 tb, .int .u64 tt, .int .u64 sq, .int .u64 ak, .slice ao m cap] 28)).alloc (.cells #[.int .u64 a, .int .u64 b] 25)).alloc (.cells #[.int .u64 c, .int .u64 d] 25))) := (((Grow.refl w).alloc _).alloc _).alloc _
  have HF : Hid (∀ x, Grow (((w.alloc (.cells #[.int .i64 kd, .int .i64 nd, .int .u64 mb, .int .u64 mt, .int .u64 tb, .int .u64 tt, .int .u64 sq, .int .u64 ak, .slice ao m cap] 28)).alloc (.cells #[.int .u64 a, .int .u64 b] 25)).alloc (.cells #[.int .u64 c, .int .u64 d] 25)) x → _) := fun x hx => three _ _ _ hx
  go_enter Try.func25, Try.ntmps25
  go_wp2_with fail
  refine (HMh.out _ HG.out).mono ?_
  rintro e w1 ⟨rfl, hg⟩
  obtain ⟨x1, x2, x3⟩ := HF.out _ hg
  obtain ⟨⟨f0, f1, f2, f3, f4⟩, f5, f6, f7, f8⟩ := blkF x1
  obtain ⟨a0, a1⟩ := blk2 x2
  obtain ⟨c0, c1⟩ := blk2 x3
  have HG1 := Lib.hid (HG.out.trans hg)
  have HGR := Lib.hid hg
  clear hg x1 x2 x3
  go_wp2_with fail
  refine (HQ1.out _).mono ?_
  rintro e w' ⟨rfl, rfl⟩
  have hg := HGR.out.alloc (.cells #[.int .u64 a, .int .u64 b] 25)
  clear HG1 HGR f0 f1 f2 f3 f4 f5 f6 f7 f8 a0 a1 c0 c1
  obtain ⟨x1, x2, x3⟩ := HF.out _ hg
  obtain ⟨⟨f0, f1, f2, f3, f4⟩, f5, f6, f7, f8⟩ := blkF x1
  obtain ⟨a0, a1⟩ := blk2 x2
  obtain ⟨c0, c1⟩ := blk2 x3
  have HG1 := Lib.hid (HG.out.trans hg)
  have HGR := Lib.hid hg
  clear hg x1 x2 x3
  go_wp2_with fail
  go_ret
  exact ⟨rfl, HG1.out⟩

set_option maxRecDepth 20000 in
set_option maxHeartbeats 1000000 in
theorem rses_N3 {a ak b c d kd mb mt nd sq tb tt : Int} {ao : Option Addr} {m cap : Nat} (w : World) (hm : m ≤ cap) (hc : cap ≤ maxLen) (HM : ∀ x, Grow w x → Calls Try.prog 11 #[.agg #[.int .i64 kd, .int .i64 nd, .int .u64 mb, .int .u64 mt, .int .u64 tb, .int .u64 tt, .int .u64 sq, .int .u64 ak, .slice ao m cap]] x fun e w' => e = .returned (.bool true) ∧ Grow x w') (q1 : noneT a b = false) (q2 : noneT c d = true) (hkd : (kd != 1) = true) :
    Calls Try.prog 25 #[.agg #[.int .i64 kd, .int .i64 nd, .int .u64 mb, .int .u64 mt, .int .u64 tb, .int .u64 tt, .int .u64 sq, .int .u64 ak, .slice ao m cap], .agg #[.int .u64 a, .int .u64 b], .agg #[.int .u64 c, .int .u64 d]] w fun e w' => e = .returned (.bool false) ∧ Grow w w' := by
  unfold maxLen at hc
  have HMh := Lib.hid HM
  clear HM
  have HQ1 := Lib.hid (fun x => none_any a b x)
  rw [q1] at HQ1
  clear q1
  have HQ2 := Lib.hid (fun x => none_any c d x)
  rw [q2] at HQ2
  clear q2
  have HG : Hid (Grow w (((w.alloc (.cells #[.int .i64 kd, .int .i64 nd, .int .u64 mb, .int .u64 mt, .int .u64 tb, .int .u64 tt, .int .u64 sq, .int .u64 ak, .slice ao m cap] 28)).alloc (.cells #[.int .u64 a, .int .u64 b] 25)).alloc (.cells #[.int .u64 c, .int .u64 d] 25))) := (((Grow.refl w).alloc _).alloc _).alloc _
  have HF : Hid (∀ x, Grow (((w.alloc (.cells #[.int .i64 kd, .int .i64 nd, .int .u64 mb, .int .u64 mt, .int .u64 tb, .int .u64 tt, .int .u64 sq, .int .u64 ak, .slice ao m cap] 28)).alloc (.cells #[.int .u64 a, .int .u64 b] 25)).alloc (.cells #[.int .u64 c, .int .u64 d] 25)) x → _) := fun x hx => three _ _ _ hx
  go_enter Try.func25, Try.ntmps25
  go_wp2_with fail
  refine (HMh.out _ HG.out).mono ?_
  rintro e w1 ⟨rfl, hg⟩
  obtain ⟨x1, x2, x3⟩ := HF.out _ hg
  obtain ⟨⟨f0, f1, f2, f3, f4⟩, f5, f6, f7, f8⟩ := blkF x1
  obtain ⟨a0, a1⟩ := blk2 x2
  obtain ⟨c0, c1⟩ := blk2 x3
  have HG1 := Lib.hid (HG.out.trans hg)
  have HGR := Lib.hid hg
  clear hg x1 x2 x3
  go_wp2_with fail
  refine (HQ1.out _).mono ?_
  rintro e w' ⟨rfl, rfl⟩
  have hg := HGR.out.alloc (.cells #[.int .u64 a, .int .u64 b] 25)
  clear HG1 HGR f0 f1 f2 f3 f4 f5 f6 f7 f8 a0 a1 c0 c1
  obtain ⟨x1, x2, x3⟩ := HF.out _ hg
  obtain ⟨⟨f0, f1, f2, f3, f4⟩, f5, f6, f7, f8⟩ := blkF x1
  obtain ⟨a0, a1⟩ := blk2 x2
  obtain ⟨c0, c1⟩ := blk2 x3
  have HG1 := Lib.hid (HG.out.trans hg)
  have HGR := Lib.hid hg
  clear hg x1 x2 x3
  go_wp2_with fail
  refine (HQ2.out _).mono ?_
  rintro e w' ⟨rfl, rfl⟩
  have hg := HGR.out.alloc (.cells #[.int .u64 c, .int .u64 d] 25)
  clear HG1 HGR f0 f1 f2 f3 f4 f5 f6 f7 f8 a0 a1 c0 c1
  obtain ⟨x1, x2, x3⟩ := HF.out _ hg
  obtain ⟨⟨f0, f1, f2, f3, f4⟩, f5, f6, f7, f8⟩ := blkF x1
  obtain ⟨a0, a1⟩ := blk2 x2
  obtain ⟨c0, c1⟩ := blk2 x3
  have HG1 := Lib.hid (HG.out.trans hg)
  have HGR := Lib.hid hg
  clear hg x1 x2 x3
  go_wp2_with fail
  go_ret
  exact ⟨rfl, HG1.out⟩

set_option maxRecDepth 20000 in
set_option maxHeartbeats 1000000 in
theorem rses_a {a ak b c d kd mb mt nd sq tb tt : Int} {ao : Option Addr} {m cap : Nat} (w : World) (hm : m ≤ cap) (hc : cap ≤ maxLen) (HM : ∀ x, Grow w x → Calls Try.prog 11 #[.agg #[.int .i64 kd, .int .i64 nd, .int .u64 mb, .int .u64 mt, .int .u64 tb, .int .u64 tt, .int .u64 sq, .int .u64 ak, .slice ao m cap]] x fun e w' => e = .returned (.bool true) ∧ Grow x w') (q1 : noneT a b = false) (q2 : noneT c d = false) (hkd : (kd != 1) = true) (hmbc : (mb == c) = false) :
    Calls Try.prog 25 #[.agg #[.int .i64 kd, .int .i64 nd, .int .u64 mb, .int .u64 mt, .int .u64 tb, .int .u64 tt, .int .u64 sq, .int .u64 ak, .slice ao m cap], .agg #[.int .u64 a, .int .u64 b], .agg #[.int .u64 c, .int .u64 d]] w fun e w' => e = .returned (.bool false) ∧ Grow w w' := by
  unfold maxLen at hc
  have HMh := Lib.hid HM
  clear HM
  have HQ1 := Lib.hid (fun x => none_any a b x)
  rw [q1] at HQ1
  clear q1
  have HQ2 := Lib.hid (fun x => none_any c d x)
  rw [q2] at HQ2
  clear q2
  have HG : Hid (Grow w (((w.alloc (.cells #[.int .i64 kd, .int .i64 nd, .int .u64 mb, .int .u64 mt, .int .u64 tb, .int .u64 tt, .int .u64 sq, .int .u64 ak, .slice ao m cap] 28)).alloc (.cells #[.int .u64 a, .int .u64 b] 25)).alloc (.cells #[.int .u64 c, .int .u64 d] 25))) := (((Grow.refl w).alloc _).alloc _).alloc _
  have HF : Hid (∀ x, Grow (((w.alloc (.cells #[.int .i64 kd, .int .i64 nd, .int .u64 mb, .int .u64 mt, .int .u64 tb, .int .u64 tt, .int .u64 sq, .int .u64 ak, .slice ao m cap] 28)).alloc (.cells #[.int .u64 a, .int .u64 b] 25)).alloc (.cells #[.int .u64 c, .int .u64 d] 25)) x → _) := fun x hx => three _ _ _ hx
  go_enter Try.func25, Try.ntmps25
  go_wp2_with fail
  refine (HMh.out _ HG.out).mono ?_
  rintro e w1 ⟨rfl, hg⟩
  obtain ⟨x1, x2, x3⟩ := HF.out _ hg
  obtain ⟨⟨f0, f1, f2, f3, f4⟩, f5, f6, f7, f8⟩ := blkF x1
  obtain ⟨a0, a1⟩ := blk2 x2
  obtain ⟨c0, c1⟩ := blk2 x3
  have HG1 := Lib.hid (HG.out.trans hg)
  have HGR := Lib.hid hg
  clear hg x1 x2 x3
  go_wp2_with fail
  refine (HQ1.out _).mono ?_
  rintro e w' ⟨rfl, rfl⟩
  have hg := HGR.out.alloc (.cells #[.int .u64 a, .int .u64 b] 25)
  clear HG1 HGR f0 f1 f2 f3 f4 f5 f6 f7 f8 a0 a1 c0 c1
  obtain ⟨x1, x2, x3⟩ := HF.out _ hg
  obtain ⟨⟨f0, f1, f2, f3, f4⟩, f5, f6, f7, f8⟩ := blkF x1
  obtain ⟨a0, a1⟩ := blk2 x2
  obtain ⟨c0, c1⟩ := blk2 x3
  have HG1 := Lib.hid (HG.out.trans hg)
  have HGR := Lib.hid hg
  clear hg x1 x2 x3
  go_wp2_with fail
  refine (HQ2.out _).mono ?_
  rintro e w' ⟨rfl, rfl⟩
  have hg := HGR.out.alloc (.cells #[.int .u64 c, .int .u64 d] 25)
  clear HG1 HGR f0 f1 f2 f3 f4 f5 f6 f7 f8 a0 a1 c0 c1
  obtain ⟨x1, x2, x3⟩ := HF.out _ hg
  obtain ⟨⟨f0, f1, f2, f3, f4⟩, f5, f6, f7, f8⟩ := blkF x1
  obtain ⟨a0, a1⟩ := blk2 x2
  obtain ⟨c0, c1⟩ := blk2 x3
  have HG1 := Lib.hid (HG.out.trans hg)
  have HGR := Lib.hid hg
  clear hg x1 x2 x3
  go_wp2_with fail
  go_ret
  exact ⟨rfl, HG1.out⟩

set_option maxRecDepth 20000 in
set_option maxHeartbeats 1000000 in
theorem rses_b {a ak b c d kd mt nd sq tb tt : Int} {ao : Option Addr} {m cap : Nat} (w : World) (hm : m ≤ cap) (hc : cap ≤ maxLen) (HM : ∀ x, Grow w x → Calls Try.prog 11 #[.agg #[.int .i64 kd, .int .i64 nd, .int .u64 c, .int .u64 mt, .int .u64 tb, .int .u64 tt, .int .u64 sq, .int .u64 ak, .slice ao m cap]] x fun e w' => e = .returned (.bool true) ∧ Grow x w') (q1 : noneT a b = false) (q2 : noneT c d = false) (hkd : (kd != 1) = true) (hmtd : (mt == d) = false) :
    Calls Try.prog 25 #[.agg #[.int .i64 kd, .int .i64 nd, .int .u64 c, .int .u64 mt, .int .u64 tb, .int .u64 tt, .int .u64 sq, .int .u64 ak, .slice ao m cap], .agg #[.int .u64 a, .int .u64 b], .agg #[.int .u64 c, .int .u64 d]] w fun e w' => e = .returned (.bool false) ∧ Grow w w' := by
  unfold maxLen at hc
  have HMh := Lib.hid HM
  clear HM
  have HQ1 := Lib.hid (fun x => none_any a b x)
  rw [q1] at HQ1
  clear q1
  have HQ2 := Lib.hid (fun x => none_any c d x)
  rw [q2] at HQ2
  clear q2
  have HG : Hid (Grow w (((w.alloc (.cells #[.int .i64 kd, .int .i64 nd, .int .u64 c, .int .u64 mt, .int .u64 tb, .int .u64 tt, .int .u64 sq, .int .u64 ak, .slice ao m cap] 28)).alloc (.cells #[.int .u64 a, .int .u64 b] 25)).alloc (.cells #[.int .u64 c, .int .u64 d] 25))) := (((Grow.refl w).alloc _).alloc _).alloc _
  have HF : Hid (∀ x, Grow (((w.alloc (.cells #[.int .i64 kd, .int .i64 nd, .int .u64 c, .int .u64 mt, .int .u64 tb, .int .u64 tt, .int .u64 sq, .int .u64 ak, .slice ao m cap] 28)).alloc (.cells #[.int .u64 a, .int .u64 b] 25)).alloc (.cells #[.int .u64 c, .int .u64 d] 25)) x → _) := fun x hx => three _ _ _ hx
  go_enter Try.func25, Try.ntmps25
  go_wp2_with fail
  refine (HMh.out _ HG.out).mono ?_
  rintro e w1 ⟨rfl, hg⟩
  obtain ⟨x1, x2, x3⟩ := HF.out _ hg
  obtain ⟨⟨f0, f1, f2, f3, f4⟩, f5, f6, f7, f8⟩ := blkF x1
  obtain ⟨a0, a1⟩ := blk2 x2
  obtain ⟨c0, c1⟩ := blk2 x3
  have HG1 := Lib.hid (HG.out.trans hg)
  have HGR := Lib.hid hg
  clear hg x1 x2 x3
  go_wp2_with fail
  refine (HQ1.out _).mono ?_
  rintro e w' ⟨rfl, rfl⟩
  have hg := HGR.out.alloc (.cells #[.int .u64 a, .int .u64 b] 25)
  clear HG1 HGR f0 f1 f2 f3 f4 f5 f6 f7 f8 a0 a1 c0 c1
  obtain ⟨x1, x2, x3⟩ := HF.out _ hg
  obtain ⟨⟨f0, f1, f2, f3, f4⟩, f5, f6, f7, f8⟩ := blkF x1
  obtain ⟨a0, a1⟩ := blk2 x2
  obtain ⟨c0, c1⟩ := blk2 x3
  have HG1 := Lib.hid (HG.out.trans hg)
  have HGR := Lib.hid hg
  clear hg x1 x2 x3
  go_wp2_with fail
  refine (HQ2.out _).mono ?_
  rintro e w' ⟨rfl, rfl⟩
  have hg := HGR.out.alloc (.cells #[.int .u64 c, .int .u64 d] 25)
  clear HG1 HGR f0 f1 f2 f3 f4 f5 f6 f7 f8 a0 a1 c0 c1
  obtain ⟨x1, x2, x3⟩ := HF.out _ hg
  obtain ⟨⟨f0, f1, f2, f3, f4⟩, f5, f6, f7, f8⟩ := blkF x1
  obtain ⟨a0, a1⟩ := blk2 x2
  obtain ⟨c0, c1⟩ := blk2 x3
  have HG1 := Lib.hid (HG.out.trans hg)
  have HGR := Lib.hid hg
  clear hg x1 x2 x3
  go_wp2_with fail
  go_ret
  exact ⟨rfl, HG1.out⟩

set_option maxRecDepth 20000 in
set_option maxHeartbeats 1000000 in
theorem rses_c {a ak b c d kd nd sq tb tt : Int} {ao : Option Addr} {m cap : Nat} (w : World) (hm : m ≤ cap) (hc : cap ≤ maxLen) (HM : ∀ x, Grow w x → Calls Try.prog 11 #[.agg #[.int .i64 kd, .int .i64 nd, .int .u64 c, .int .u64 d, .int .u64 tb, .int .u64 tt, .int .u64 sq, .int .u64 ak, .slice ao m cap]] x fun e w' => e = .returned (.bool true) ∧ Grow x w') (q1 : noneT a b = false) (q2 : noneT c d = false) (hkd : (kd != 1) = true) (htba : (tb == a) = false) :
    Calls Try.prog 25 #[.agg #[.int .i64 kd, .int .i64 nd, .int .u64 c, .int .u64 d, .int .u64 tb, .int .u64 tt, .int .u64 sq, .int .u64 ak, .slice ao m cap], .agg #[.int .u64 a, .int .u64 b], .agg #[.int .u64 c, .int .u64 d]] w fun e w' => e = .returned (.bool false) ∧ Grow w w' := by
  unfold maxLen at hc
  have HMh := Lib.hid HM
  clear HM
  have HQ1 := Lib.hid (fun x => none_any a b x)
  rw [q1] at HQ1
  clear q1
  have HQ2 := Lib.hid (fun x => none_any c d x)
  rw [q2] at HQ2
  clear q2
  have HG : Hid (Grow w (((w.alloc (.cells #[.int .i64 kd, .int .i64 nd, .int .u64 c, .int .u64 d, .int .u64 tb, .int .u64 tt, .int .u64 sq, .int .u64 ak, .slice ao m cap] 28)).alloc (.cells #[.int .u64 a, .int .u64 b] 25)).alloc (.cells #[.int .u64 c, .int .u64 d] 25))) := (((Grow.refl w).alloc _).alloc _).alloc _
  have HF : Hid (∀ x, Grow (((w.alloc (.cells #[.int .i64 kd, .int .i64 nd, .int .u64 c, .int .u64 d, .int .u64 tb, .int .u64 tt, .int .u64 sq, .int .u64 ak, .slice ao m cap] 28)).alloc (.cells #[.int .u64 a, .int .u64 b] 25)).alloc (.cells #[.int .u64 c, .int .u64 d] 25)) x → _) := fun x hx => three _ _ _ hx
  go_enter Try.func25, Try.ntmps25
  go_wp2_with fail
  refine (HMh.out _ HG.out).mono ?_
  rintro e w1 ⟨rfl, hg⟩
  obtain ⟨x1, x2, x3⟩ := HF.out _ hg
  obtain ⟨⟨f0, f1, f2, f3, f4⟩, f5, f6, f7, f8⟩ := blkF x1
  obtain ⟨a0, a1⟩ := blk2 x2
  obtain ⟨c0, c1⟩ := blk2 x3
  have HG1 := Lib.hid (HG.out.trans hg)
  have HGR := Lib.hid hg
  clear hg x1 x2 x3
  go_wp2_with fail
  refine (HQ1.out _).mono ?_
  rintro e w' ⟨rfl, rfl⟩
  have hg := HGR.out.alloc (.cells #[.int .u64 a, .int .u64 b] 25)
  clear HG1 HGR f0 f1 f2 f3 f4 f5 f6 f7 f8 a0 a1 c0 c1
  obtain ⟨x1, x2, x3⟩ := HF.out _ hg
  obtain ⟨⟨f0, f1, f2, f3, f4⟩, f5, f6, f7, f8⟩ := blkF x1
  obtain ⟨a0, a1⟩ := blk2 x2
  obtain ⟨c0, c1⟩ := blk2 x3
  have HG1 := Lib.hid (HG.out.trans hg)
  have HGR := Lib.hid hg
  clear hg x1 x2 x3
  go_wp2_with fail
  refine (HQ2.out _).mono ?_
  rintro e w' ⟨rfl, rfl⟩
  have hg := HGR.out.alloc (.cells #[.int .u64 c, .int .u64 d] 25)
  clear HG1 HGR f0 f1 f2 f3 f4 f5 f6 f7 f8 a0 a1 c0 c1
  obtain ⟨x1, x2, x3⟩ := HF.out _ hg
  obtain ⟨⟨f0, f1, f2, f3, f4⟩, f5, f6, f7, f8⟩ := blkF x1
  obtain ⟨a0, a1⟩ := blk2 x2
  obtain ⟨c0, c1⟩ := blk2 x3
  have HG1 := Lib.hid (HG.out.trans hg)
  have HGR := Lib.hid hg
  clear hg x1 x2 x3
  go_wp2_with fail
  go_ret
  exact ⟨rfl, HG1.out⟩

set_option maxRecDepth 20000 in
set_option maxHeartbeats 1000000 in
theorem rses_d {a ak b c d kd nd sq tt : Int} {ao : Option Addr} {m cap : Nat} (w : World) (hm : m ≤ cap) (hc : cap ≤ maxLen) (HM : ∀ x, Grow w x → Calls Try.prog 11 #[.agg #[.int .i64 kd, .int .i64 nd, .int .u64 c, .int .u64 d, .int .u64 a, .int .u64 tt, .int .u64 sq, .int .u64 ak, .slice ao m cap]] x fun e w' => e = .returned (.bool true) ∧ Grow x w') (q1 : noneT a b = false) (q2 : noneT c d = false) (hkd : (kd != 1) = true) (httb : (tt == b) = false) :
    Calls Try.prog 25 #[.agg #[.int .i64 kd, .int .i64 nd, .int .u64 c, .int .u64 d, .int .u64 a, .int .u64 tt, .int .u64 sq, .int .u64 ak, .slice ao m cap], .agg #[.int .u64 a, .int .u64 b], .agg #[.int .u64 c, .int .u64 d]] w fun e w' => e = .returned (.bool false) ∧ Grow w w' := by
  unfold maxLen at hc
  have HMh := Lib.hid HM
  clear HM
  have HQ1 := Lib.hid (fun x => none_any a b x)
  rw [q1] at HQ1
  clear q1
  have HQ2 := Lib.hid (fun x => none_any c d x)
  rw [q2] at HQ2
  clear q2
  have HG : Hid (Grow w (((w.alloc (.cells #[.int .i64 kd, .int .i64 nd, .int .u64 c, .int .u64 d, .int .u64 a, .int .u64 tt, .int .u64 sq, .int .u64 ak, .slice ao m cap] 28)).alloc (.cells #[.int .u64 a, .int .u64 b] 25)).alloc (.cells #[.int .u64 c, .int .u64 d] 25))) := (((Grow.refl w).alloc _).alloc _).alloc _
  have HF : Hid (∀ x, Grow (((w.alloc (.cells #[.int .i64 kd, .int .i64 nd, .int .u64 c, .int .u64 d, .int .u64 a, .int .u64 tt, .int .u64 sq, .int .u64 ak, .slice ao m cap] 28)).alloc (.cells #[.int .u64 a, .int .u64 b] 25)).alloc (.cells #[.int .u64 c, .int .u64 d] 25)) x → _) := fun x hx => three _ _ _ hx
  go_enter Try.func25, Try.ntmps25
  go_wp2_with fail
  refine (HMh.out _ HG.out).mono ?_
  rintro e w1 ⟨rfl, hg⟩
  obtain ⟨x1, x2, x3⟩ := HF.out _ hg
  obtain ⟨⟨f0, f1, f2, f3, f4⟩, f5, f6, f7, f8⟩ := blkF x1
  obtain ⟨a0, a1⟩ := blk2 x2
  obtain ⟨c0, c1⟩ := blk2 x3
  have HG1 := Lib.hid (HG.out.trans hg)
  have HGR := Lib.hid hg
  clear hg x1 x2 x3
  go_wp2_with fail
  refine (HQ1.out _).mono ?_
  rintro e w' ⟨rfl, rfl⟩
  have hg := HGR.out.alloc (.cells #[.int .u64 a, .int .u64 b] 25)
  clear HG1 HGR f0 f1 f2 f3 f4 f5 f6 f7 f8 a0 a1 c0 c1
  obtain ⟨x1, x2, x3⟩ := HF.out _ hg
  obtain ⟨⟨f0, f1, f2, f3, f4⟩, f5, f6, f7, f8⟩ := blkF x1
  obtain ⟨a0, a1⟩ := blk2 x2
  obtain ⟨c0, c1⟩ := blk2 x3
  have HG1 := Lib.hid (HG.out.trans hg)
  have HGR := Lib.hid hg
  clear hg x1 x2 x3
  go_wp2_with fail
  refine (HQ2.out _).mono ?_
  rintro e w' ⟨rfl, rfl⟩
  have hg := HGR.out.alloc (.cells #[.int .u64 c, .int .u64 d] 25)
  clear HG1 HGR f0 f1 f2 f3 f4 f5 f6 f7 f8 a0 a1 c0 c1
  obtain ⟨x1, x2, x3⟩ := HF.out _ hg
  obtain ⟨⟨f0, f1, f2, f3, f4⟩, f5, f6, f7, f8⟩ := blkF x1
  obtain ⟨a0, a1⟩ := blk2 x2
  obtain ⟨c0, c1⟩ := blk2 x3
  have HG1 := Lib.hid (HG.out.trans hg)
  have HGR := Lib.hid hg
  clear hg x1 x2 x3
  go_wp2_with fail
  go_ret
  exact ⟨rfl, HG1.out⟩

set_option maxRecDepth 20000 in
set_option maxHeartbeats 1000000 in
theorem rses_e {a ak b c d kd nd sq : Int} {ao : Option Addr} {m cap : Nat} (w : World) (hm : m ≤ cap) (hc : cap ≤ maxLen) (HM : ∀ x, Grow w x → Calls Try.prog 11 #[.agg #[.int .i64 kd, .int .i64 nd, .int .u64 c, .int .u64 d, .int .u64 a, .int .u64 b, .int .u64 sq, .int .u64 ak, .slice ao m cap]] x fun e w' => e = .returned (.bool true) ∧ Grow x w') (q1 : noneT a b = false) (q2 : noneT c d = false) (hkd : (kd != 1) = true) :
    Calls Try.prog 25 #[.agg #[.int .i64 kd, .int .i64 nd, .int .u64 c, .int .u64 d, .int .u64 a, .int .u64 b, .int .u64 sq, .int .u64 ak, .slice ao m cap], .agg #[.int .u64 a, .int .u64 b], .agg #[.int .u64 c, .int .u64 d]] w fun e w' => e = .returned (.bool true) ∧ Grow w w' := by
  unfold maxLen at hc
  have HMh := Lib.hid HM
  clear HM
  have HQ1 := Lib.hid (fun x => none_any a b x)
  rw [q1] at HQ1
  clear q1
  have HQ2 := Lib.hid (fun x => none_any c d x)
  rw [q2] at HQ2
  clear q2
  have HG : Hid (Grow w (((w.alloc (.cells #[.int .i64 kd, .int .i64 nd, .int .u64 c, .int .u64 d, .int .u64 a, .int .u64 b, .int .u64 sq, .int .u64 ak, .slice ao m cap] 28)).alloc (.cells #[.int .u64 a, .int .u64 b] 25)).alloc (.cells #[.int .u64 c, .int .u64 d] 25))) := (((Grow.refl w).alloc _).alloc _).alloc _
  have HF : Hid (∀ x, Grow (((w.alloc (.cells #[.int .i64 kd, .int .i64 nd, .int .u64 c, .int .u64 d, .int .u64 a, .int .u64 b, .int .u64 sq, .int .u64 ak, .slice ao m cap] 28)).alloc (.cells #[.int .u64 a, .int .u64 b] 25)).alloc (.cells #[.int .u64 c, .int .u64 d] 25)) x → _) := fun x hx => three _ _ _ hx
  go_enter Try.func25, Try.ntmps25
  go_wp2_with fail
  refine (HMh.out _ HG.out).mono ?_
  rintro e w1 ⟨rfl, hg⟩
  obtain ⟨x1, x2, x3⟩ := HF.out _ hg
  obtain ⟨⟨f0, f1, f2, f3, f4⟩, f5, f6, f7, f8⟩ := blkF x1
  obtain ⟨a0, a1⟩ := blk2 x2
  obtain ⟨c0, c1⟩ := blk2 x3
  have HG1 := Lib.hid (HG.out.trans hg)
  have HGR := Lib.hid hg
  clear hg x1 x2 x3
  go_wp2_with fail
  refine (HQ1.out _).mono ?_
  rintro e w' ⟨rfl, rfl⟩
  have hg := HGR.out.alloc (.cells #[.int .u64 a, .int .u64 b] 25)
  clear HG1 HGR f0 f1 f2 f3 f4 f5 f6 f7 f8 a0 a1 c0 c1
  obtain ⟨x1, x2, x3⟩ := HF.out _ hg
  obtain ⟨⟨f0, f1, f2, f3, f4⟩, f5, f6, f7, f8⟩ := blkF x1
  obtain ⟨a0, a1⟩ := blk2 x2
  obtain ⟨c0, c1⟩ := blk2 x3
  have HG1 := Lib.hid (HG.out.trans hg)
  have HGR := Lib.hid hg
  clear hg x1 x2 x3
  go_wp2_with fail
  refine (HQ2.out _).mono ?_
  rintro e w' ⟨rfl, rfl⟩
  have hg := HGR.out.alloc (.cells #[.int .u64 c, .int .u64 d] 25)
  clear HG1 HGR f0 f1 f2 f3 f4 f5 f6 f7 f8 a0 a1 c0 c1
  obtain ⟨x1, x2, x3⟩ := HF.out _ hg
  obtain ⟨⟨f0, f1, f2, f3, f4⟩, f5, f6, f7, f8⟩ := blkF x1
  obtain ⟨a0, a1⟩ := blk2 x2
  obtain ⟨c0, c1⟩ := blk2 x3
  have HG1 := Lib.hid (HG.out.trans hg)
  have HGR := Lib.hid hg
  clear hg x1 x2 x3
  go_wp2_with fail
  go_ret
  exact ⟨rfl, HG1.out⟩
end Go.Proofs.Ytiphhjipgjpepaa
