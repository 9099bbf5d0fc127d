/- What a session's frame is. -/
import Derived.Test.YtiphhjipgjpepaaFrMayAll
set_option linter.unusedVariables false
set_option linter.unusedSimpArgs false
namespace Go.Proofs.Ytiphhjipgjpepaa
open Go.RowKit

theorem four {w x : World} (o1 o2 o3 o4 : Obj) (h : Grow ((((w.alloc o1).alloc o2).alloc o3).alloc o4) x) :
    x.heap[w.heap.size]? = some o1 ∧ x.heap[w.heap.size + 1]? = some o2 ∧ x.heap[w.heap.size + 1 + 1]? = some o3 ∧ x.heap[w.heap.size + 1 + 1 + 1]? = some o4 := by
  have e1 := heap_alloc_new w o1
  have e2 := heap_alloc_new (w.alloc o1) o2
  have e3 := heap_alloc_new ((w.alloc o1).alloc o2) o3
  have e4 := heap_alloc_new (((w.alloc o1).alloc o2).alloc o3) o4
  have g4 := fun (y : World) o => (Grow.refl y).alloc o
  have k1 := (h.block _ (lt_of_block ((((g4 _ o2).alloc o3).alloc o4).block _ (lt_of_block e1) |>.trans e1))).trans ((((g4 _ o2).alloc o3).alloc o4).block _ (lt_of_block e1) |>.trans e1)
  have k2 := (h.block _ (lt_of_block (((g4 _ o3).alloc o4).block _ (lt_of_block e2) |>.trans e2))).trans (((g4 _ o3).alloc o4).block _ (lt_of_block e2) |>.trans e2)
  have k3 := (h.block _ (lt_of_block ((g4 _ o4).block _ (lt_of_block e3) |>.trans e3))).trans ((g4 _ o4).block _ (lt_of_block e3) |>.trans e3)
  have k4 := (h.block _ (lt_of_block e4)).trans e4
  simp only [World.size_alloc] at k1 k2 k3 k4
  exact ⟨k1, k2, k3, k4⟩

set_option maxRecDepth 20000 in
set_option maxHeartbeats 1000000 in
theorem ses_N0 {a ak b c d kd mb mt nd sq tb tt : Int} {ao : Option Addr} {m cap : Nat} (w : World) (hm : m ≤ cap) (hc : cap ≤ maxLen) (HM : ∀ x, Grow w x → Calls Try.prog 10 #[.agg #[.int .i64 kd, .int .i64 nd, .int .u64 mb, .int .u64 mt, .int .u64 tb, .int .u64 tt, .int .u64 sq, .int .u64 ak, .slice ao m cap]] x fun e w' => e = .returned (.bool false) ∧ Grow x w') :
    Calls Try.prog 17 #[.agg #[.int .i64 kd, .int .i64 nd, .int .u64 mb, .int .u64 mt, .int .u64 tb, .int .u64 tt, .int .u64 sq, .int .u64 ak, .slice ao m cap], .agg #[.int .u64 a, .int .u64 b], .agg #[.int .u64 c, .int .u64 d]] w fun e w' => e = .returned (.bool false) ∧ Grow w w' := by
  unfold maxLen at hc
  have HMh := Lib.hid HM
  clear HM
  have HG : Hid (Grow w ((((w.alloc (.cells #[.int .i64 kd, .int .i64 nd, .int .u64 mb, .int .u64 mt, .int .u64 tb, .int .u64 tt, .int .u64 sq, .int .u64 ak, .slice ao m cap] 28)).alloc (.cells #[.int .u64 a, .int .u64 b] 25)).alloc (.cells #[.int .u64 c, .int .u64 d] 25)).alloc (.cells #[.int .u64 0, .int .u64 0] 25))) := ((((Grow.refl w).alloc _).alloc _).alloc _).alloc _
  have HF : Hid (∀ x, Grow ((((w.alloc (.cells #[.int .i64 kd, .int .i64 nd, .int .u64 mb, .int .u64 mt, .int .u64 tb, .int .u64 tt, .int .u64 sq, .int .u64 ak, .slice ao m cap] 28)).alloc (.cells #[.int .u64 a, .int .u64 b] 25)).alloc (.cells #[.int .u64 c, .int .u64 d] 25)).alloc (.cells #[.int .u64 0, .int .u64 0] 25)) x → _) := fun x hx => four _ _ _ _ hx
  go_enter Try.func17, Try.ntmps17
  go_wp2_with fail
  refine (HMh.out _ HG.out).mono ?_
  rintro e w1 ⟨rfl, hg⟩
  obtain ⟨x1, x2, x3, x4⟩ := HF.out _ hg
  obtain ⟨⟨f0, f1, f2, f3, f4⟩, f5, f6, f7, f8⟩ := blkF x1
  obtain ⟨a0, a1⟩ := blk2 x2
  obtain ⟨c0, c1⟩ := blk2 x3
  obtain ⟨n0, n1⟩ := blk2 x4
  have HG1 := Lib.hid (HG.out.trans hg)
  clear hg x1 x2 x3 x4
  go_wp2_with fail
  go_ret
  exact ⟨rfl, HG1.out⟩

set_option maxRecDepth 20000 in
set_option maxHeartbeats 1000000 in
theorem ses_N1 {a ak b c d mb mt nd sq tb tt : Int} {ao : Option Addr} {m cap : Nat} (w : World) (hm : m ≤ cap) (hc : cap ≤ maxLen) (HM : ∀ x, Grow w x → Calls Try.prog 10 #[.agg #[.int .i64 1, .int .i64 nd, .int .u64 mb, .int .u64 mt, .int .u64 tb, .int .u64 tt, .int .u64 sq, .int .u64 ak, .slice ao m cap]] x fun e w' => e = .returned (.bool true) ∧ Grow x w') :
    Calls Try.prog 17 #[.agg #[.int .i64 1, .int .i64 nd, .int .u64 mb, .int .u64 mt, .int .u64 tb, .int .u64 tt, .int .u64 sq, .int .u64 ak, .slice ao m cap], .agg #[.int .u64 a, .int .u64 b], .agg #[.int .u64 c, .int .u64 d]] w fun e w' => e = .returned (.bool false) ∧ Grow w w' := by
  unfold maxLen at hc
  have HMh := Lib.hid HM
  clear HM
  have HG : Hid (Grow w ((((w.alloc (.cells #[.int .i64 1, .int .i64 nd, .int .u64 mb, .int .u64 mt, .int .u64 tb, .int .u64 tt, .int .u64 sq, .int .u64 ak, .slice ao m cap] 28)).alloc (.cells #[.int .u64 a, .int .u64 b] 25)).alloc (.cells #[.int .u64 c, .int .u64 d] 25)).alloc (.cells #[.int .u64 0, .int .u64 0] 25))) := ((((Grow.refl w).alloc _).alloc _).alloc _).alloc _
  have HF : Hid (∀ x, Grow ((((w.alloc (.cells #[.int .i64 1, .int .i64 nd, .int .u64 mb, .int .u64 mt, .int .u64 tb, .int .u64 tt, .int .u64 sq, .int .u64 ak, .slice ao m cap] 28)).alloc (.cells #[.int .u64 a, .int .u64 b] 25)).alloc (.cells #[.int .u64 c, .int .u64 d] 25)).alloc (.cells #[.int .u64 0, .int .u64 0] 25)) x → _) := fun x hx => four _ _ _ _ hx
  go_enter Try.func17, Try.ntmps17
  go_wp2_with fail
  refine (HMh.out _ HG.out).mono ?_
  rintro e w1 ⟨rfl, hg⟩
  obtain ⟨x1, x2, x3, x4⟩ := HF.out _ hg
  obtain ⟨⟨f0, f1, f2, f3, f4⟩, f5, f6, f7, f8⟩ := blkF x1
  obtain ⟨a0, a1⟩ := blk2 x2
  obtain ⟨c0, c1⟩ := blk2 x3
  obtain ⟨n0, n1⟩ := blk2 x4
  have HG1 := Lib.hid (HG.out.trans hg)
  clear hg x1 x2 x3 x4
  go_wp2_with fail
  go_ret
  exact ⟨rfl, HG1.out⟩

set_option maxRecDepth 20000 in
set_option maxHeartbeats 1000000 in
theorem ses_N2 {ak c d kd mb mt nd sq tb tt : Int} {ao : Option Addr} {m cap : Nat} (w : World) (hm : m ≤ cap) (hc : cap ≤ maxLen) (HM : ∀ x, Grow w x → Calls Try.prog 10 #[.agg #[.int .i64 kd, .int .i64 nd, .int .u64 mb, .int .u64 mt, .int .u64 tb, .int .u64 tt, .int .u64 sq, .int .u64 ak, .slice ao m cap]] x fun e w' => e = .returned (.bool true) ∧ Grow x w') (hkd : (kd != 1) = true) :
    Calls Try.prog 17 #[.agg #[.int .i64 kd, .int .i64 nd, .int .u64 mb, .int .u64 mt, .int .u64 tb, .int .u64 tt, .int .u64 sq, .int .u64 ak, .slice ao m cap], .agg #[.int .u64 0, .int .u64 0], .agg #[.int .u64 c, .int .u64 d]] w fun e w' => e = .returned (.bool false) ∧ Grow w w' := by
  unfold maxLen at hc
  have HMh := Lib.hid HM
  clear HM
  have HG : Hid (Grow w ((((w.alloc (.cells #[.int .i64 kd, .int .i64 nd, .int .u64 mb, .int .u64 mt, .int .u64 tb, .int .u64 tt, .int .u64 sq, .int .u64 ak, .slice ao m cap] 28)).alloc (.cells #[.int .u64 0, .int .u64 0] 25)).alloc (.cells #[.int .u64 c, .int .u64 d] 25)).alloc (.cells #[.int .u64 0, .int .u64 0] 25))) := ((((Grow.refl w).alloc _).alloc _).alloc _).alloc _
  have HF : Hid (∀ x, Grow ((((w.alloc (.cells #[.int .i64 kd, .int .i64 nd, .int .u64 mb, .int .u64 mt, .int .u64 tb, .int .u64 tt, .int .u64 sq, .int .u64 ak, .slice ao m cap] 28)).alloc (.cells #[.int .u64 0, .int .u64 0] 25)).alloc (.cells #[.int .u64 c, .int .u64 d] 25)).alloc (.cells #[.int .u64 0, .int .u64 0] 25)) x → _) := fun x hx => four _ _ _ _ hx
  go_enter Try.func17, Try.ntmps17
  go_wp2_with fail
  refine (HMh.out _ HG.out).mono ?_
  rintro e w1 ⟨rfl, hg⟩
  obtain ⟨x1, x2, x3, x4⟩ := HF.out _ hg
  obtain ⟨⟨f0, f1, f2, f3, f4⟩, f5, f6, f7, f8⟩ := blkF x1
  obtain ⟨a0, a1⟩ := blk2 x2
  obtain ⟨c0, c1⟩ := blk2 x3
  obtain ⟨n0, n1⟩ := blk2 x4
  have HG1 := Lib.hid (HG.out.trans hg)
  clear hg x1 x2 x3 x4
  go_wp2_with fail
  go_ret
  exact ⟨rfl, HG1.out⟩

set_option maxRecDepth 20000 in
set_option maxHeartbeats 1000000 in
theorem ses_M1N {a ak b kd mb mt nd sq tb tt : Int} {ao : Option Addr} {m cap : Nat} (w : World) (hm : m ≤ cap) (hc : cap ≤ maxLen) (HM : ∀ x, Grow w x → Calls Try.prog 10 #[.agg #[.int .i64 kd, .int .i64 nd, .int .u64 mb, .int .u64 mt, .int .u64 tb, .int .u64 tt, .int .u64 sq, .int .u64 ak, .slice ao m cap]] x fun e w' => e = .returned (.bool true) ∧ Grow x w') (hkd : (kd != 1) = true) (ha0 : (a == 0) = false) :
    Calls Try.prog 17 #[.agg #[.int .i64 kd, .int .i64 nd, .int .u64 mb, .int .u64 mt, .int .u64 tb, .int .u64 tt, .int .u64 sq, .int .u64 ak, .slice ao m cap], .agg #[.int .u64 a, .int .u64 b], .agg #[.int .u64 0, .int .u64 0]] w fun e w' => e = .returned (.bool false) ∧ Grow w w' := by
  unfold maxLen at hc
  have HMh := Lib.hid HM
  clear HM
  have HG : Hid (Grow w ((((w.alloc (.cells #[.int .i64 kd, .int .i64 nd, .int .u64 mb, .int .u64 mt, .int .u64 tb, .int .u64 tt, .int .u64 sq, .int .u64 ak, .slice ao m cap] 28)).alloc (.cells #[.int .u64 a, .int .u64 b] 25)).alloc (.cells #[.int .u64 0, .int .u64 0] 25)).alloc (.cells #[.int .u64 0, .int .u64 0] 25))) := ((((Grow.refl w).alloc _).alloc _).alloc _).alloc _
  have HF : Hid (∀ x, Grow ((((w.alloc (.cells #[.int .i64 kd, .int .i64 nd, .int .u64 mb, .int .u64 mt, .int .u64 tb, .int .u64 tt, .int .u64 sq, .int .u64 ak, .slice ao m cap] 28)).alloc (.cells #[.int .u64 a, .int .u64 b] 25)).alloc (.cells #[.int .u64 0, .int .u64 0] 25)).alloc (.cells #[.int .u64 0, .int .u64 0] 25)) x → _) := fun x hx => four _ _ _ _ hx
  go_enter Try.func17, Try.ntmps17
  go_wp2_with fail
  refine (HMh.out _ HG.out).mono ?_
  rintro e w1 ⟨rfl, hg⟩
  obtain ⟨x1, x2, x3, x4⟩ := HF.out _ hg
  obtain ⟨⟨f0, f1, f2, f3, f4⟩, f5, f6, f7, f8⟩ := blkF x1
  obtain ⟨a0, a1⟩ := blk2 x2
  obtain ⟨c0, c1⟩ := blk2 x3
  obtain ⟨n0, n1⟩ := blk2 x4
  have HG1 := Lib.hid (HG.out.trans hg)
  clear hg x1 x2 x3 x4
  go_wp2_with fail
  go_ret
  exact ⟨rfl, HG1.out⟩

set_option maxRecDepth 20000 in
set_option maxHeartbeats 1000000 in
theorem ses_M1T1a {a ak b c d kd mb mt nd sq tb tt : Int} {ao : Option Addr} {m cap : Nat} (w : World) (hm : m ≤ cap) (hc : cap ≤ maxLen) (HM : ∀ x, Grow w x → Calls Try.prog 10 #[.agg #[.int .i64 kd, .int .i64 nd, .int .u64 mb, .int .u64 mt, .int .u64 tb, .int .u64 tt, .int .u64 sq, .int .u64 ak, .slice ao m cap]] x fun e w' => e = .returned (.bool true) ∧ Grow x w') (hkd : (kd != 1) = true) (ha0 : (a == 0) = false) (hc0 : (c == 0) = false) (hmbc : (mb == c) = false) :
    Calls Try.prog 17 #[.agg #[.int .i64 kd, .int .i64 nd, .int .u64 mb, .int .u64 mt, .int .u64 tb, .int .u64 tt, .int .u64 sq, .int .u64 ak, .slice ao m cap], .agg #[.int .u64 a, .int .u64 b], .agg #[.int .u64 c, .int .u64 d]] w fun e w' => e = .returned (.bool false) ∧ Grow w w' := by
  unfold maxLen at hc
  have HMh := Lib.hid HM
  clear HM
  have HG : Hid (Grow w ((((w.alloc (.cells #[.int .i64 kd, .int .i64 nd, .int .u64 mb, .int .u64 mt, .int .u64 tb, .int .u64 tt, .int .u64 sq, .int .u64 ak, .slice ao m cap] 28)).alloc (.cells #[.int .u64 a, .int .u64 b] 25)).alloc (.cells #[.int .u64 c, .int .u64 d] 25)).alloc (.cells #[.int .u64 0, .int .u64 0] 25))) := ((((Grow.refl w).alloc _).alloc _).alloc _).alloc _
  have HF : Hid (∀ x, Grow ((((w.alloc (.cells #[.int .i64 kd, .int .i64 nd, .int .u64 mb, .int .u64 mt, .int .u64 tb, .int .u64 tt, .int .u64 sq, .int .u64 ak, .slice ao m cap] 28)).alloc (.cells #[.int .u64 a, .int .u64 b] 25)).alloc (.cells #[.int .u64 c, .int .u64 d] 25)).alloc (.cells #[.int .u64 0, .int .u64 0] 25)) x → _) := fun x hx => four _ _ _ _ hx
  go_enter Try.func17, Try.ntmps17
  go_wp2_with fail
  refine (HMh.out _ HG.out).mono ?_
  rintro e w1 ⟨rfl, hg⟩
  obtain ⟨x1, x2, x3, x4⟩ := HF.out _ hg
  obtain ⟨⟨f0, f1, f2, f3, f4⟩, f5, f6, f7, f8⟩ := blkF x1
  obtain ⟨a0, a1⟩ := blk2 x2
  obtain ⟨c0, c1⟩ := blk2 x3
  obtain ⟨n0, n1⟩ := blk2 x4
  have HG1 := Lib.hid (HG.out.trans hg)
  clear hg x1 x2 x3 x4
  go_wp2_with fail
  go_ret
  exact ⟨rfl, HG1.out⟩

set_option maxRecDepth 20000 in
set_option maxHeartbeats 1000000 in
theorem ses_M1T1b {a ak b c d kd mt nd sq tb tt : Int} {ao : Option Addr} {m cap : Nat} (w : World) (hm : m ≤ cap) (hc : cap ≤ maxLen) (HM : ∀ x, Grow w x → Calls Try.prog 10 #[.agg #[.int .i64 kd, .int .i64 nd, .int .u64 c, .int .u64 mt, .int .u64 tb, .int .u64 tt, .int .u64 sq, .int .u64 ak, .slice ao m cap]] x fun e w' => e = .returned (.bool true) ∧ Grow x w') (hkd : (kd != 1) = true) (ha0 : (a == 0) = false) (hc0 : (c == 0) = false) (hmtd : (mt == d) = false) :
    Calls Try.prog 17 #[.agg #[.int .i64 kd, .int .i64 nd, .int .u64 c, .int .u64 mt, .int .u64 tb, .int .u64 tt, .int .u64 sq, .int .u64 ak, .slice ao m cap], .agg #[.int .u64 a, .int .u64 b], .agg #[.int .u64 c, .int .u64 d]] w fun e w' => e = .returned (.bool false) ∧ Grow w w' := by
  unfold maxLen at hc
  have HMh := Lib.hid HM
  clear HM
  have HG : Hid (Grow w ((((w.alloc (.cells #[.int .i64 kd, .int .i64 nd, .int .u64 c, .int .u64 mt, .int .u64 tb, .int .u64 tt, .int .u64 sq, .int .u64 ak, .slice ao m cap] 28)).alloc (.cells #[.int .u64 a, .int .u64 b] 25)).alloc (.cells #[.int .u64 c, .int .u64 d] 25)).alloc (.cells #[.int .u64 0, .int .u64 0] 25))) := ((((Grow.refl w).alloc _).alloc _).alloc _).alloc _
  have HF : Hid (∀ x, Grow ((((w.alloc (.cells #[.int .i64 kd, .int .i64 nd, .int .u64 c, .int .u64 mt, .int .u64 tb, .int .u64 tt, .int .u64 sq, .int .u64 ak, .slice ao m cap] 28)).alloc (.cells #[.int .u64 a, .int .u64 b] 25)).alloc (.cells #[.int .u64 c, .int .u64 d] 25)).alloc (.cells #[.int .u64 0, .int .u64 0] 25)) x → _) := fun x hx => four _ _ _ _ hx
  go_enter Try.func17, Try.ntmps17
  go_wp2_with fail
  refine (HMh.out _ HG.out).mono ?_
  rintro e w1 ⟨rfl, hg⟩
  obtain ⟨x1, x2, x3, x4⟩ := HF.out _ hg
  obtain ⟨⟨f0, f1, f2, f3, f4⟩, f5, f6, f7, f8⟩ := blkF x1
  obtain ⟨a0, a1⟩ := blk2 x2
  obtain ⟨c0, c1⟩ := blk2 x3
  obtain ⟨n0, n1⟩ := blk2 x4
  have HG1 := Lib.hid (HG.out.trans hg)
  clear hg x1 x2 x3 x4
  go_wp2_with fail
  go_ret
  exact ⟨rfl, HG1.out⟩

set_option maxRecDepth 20000 in
set_option maxHeartbeats 1000000 in
theorem ses_M1T1c {a ak b c d kd nd sq tb tt : Int} {ao : Option Addr} {m cap : Nat} (w : World) (hm : m ≤ cap) (hc : cap ≤ maxLen) (HM : ∀ x, Grow w x → Calls Try.prog 10 #[.agg #[.int .i64 kd, .int .i64 nd, .int .u64 c, .int .u64 d, .int .u64 tb, .int .u64 tt, .int .u64 sq, .int .u64 ak, .slice ao m cap]] x fun e w' => e = .returned (.bool true) ∧ Grow x w') (hkd : (kd != 1) = true) (ha0 : (a == 0) = false) (hc0 : (c == 0) = false) (htba : (tb == a) = false) :
    Calls Try.prog 17 #[.agg #[.int .i64 kd, .int .i64 nd, .int .u64 c, .int .u64 d, .int .u64 tb, .int .u64 tt, .int .u64 sq, .int .u64 ak, .slice ao m cap], .agg #[.int .u64 a, .int .u64 b], .agg #[.int .u64 c, .int .u64 d]] w fun e w' => e = .returned (.bool false) ∧ Grow w w' := by
  unfold maxLen at hc
  have HMh := Lib.hid HM
  clear HM
  have HG : Hid (Grow w ((((w.alloc (.cells #[.int .i64 kd, .int .i64 nd, .int .u64 c, .int .u64 d, .int .u64 tb, .int .u64 tt, .int .u64 sq, .int .u64 ak, .slice ao m cap] 28)).alloc (.cells #[.int .u64 a, .int .u64 b] 25)).alloc (.cells #[.int .u64 c, .int .u64 d] 25)).alloc (.cells #[.int .u64 0, .int .u64 0] 25))) := ((((Grow.refl w).alloc _).alloc _).alloc _).alloc _
  have HF : Hid (∀ x, Grow ((((w.alloc (.cells #[.int .i64 kd, .int .i64 nd, .int .u64 c, .int .u64 d, .int .u64 tb, .int .u64 tt, .int .u64 sq, .int .u64 ak, .slice ao m cap] 28)).alloc (.cells #[.int .u64 a, .int .u64 b] 25)).alloc (.cells #[.int .u64 c, .int .u64 d] 25)).alloc (.cells #[.int .u64 0, .int .u64 0] 25)) x → _) := fun x hx => four _ _ _ _ hx
  go_enter Try.func17, Try.ntmps17
  go_wp2_with fail
  refine (HMh.out _ HG.out).mono ?_
  rintro e w1 ⟨rfl, hg⟩
  obtain ⟨x1, x2, x3, x4⟩ := HF.out _ hg
  obtain ⟨⟨f0, f1, f2, f3, f4⟩, f5, f6, f7, f8⟩ := blkF x1
  obtain ⟨a0, a1⟩ := blk2 x2
  obtain ⟨c0, c1⟩ := blk2 x3
  obtain ⟨n0, n1⟩ := blk2 x4
  have HG1 := Lib.hid (HG.out.trans hg)
  clear hg x1 x2 x3 x4
  go_wp2_with fail
  go_ret
  exact ⟨rfl, HG1.out⟩

set_option maxRecDepth 20000 in
set_option maxHeartbeats 1000000 in
theorem ses_M1T1d {a ak b c d kd nd sq tt : Int} {ao : Option Addr} {m cap : Nat} (w : World) (hm : m ≤ cap) (hc : cap ≤ maxLen) (HM : ∀ x, Grow w x → Calls Try.prog 10 #[.agg #[.int .i64 kd, .int .i64 nd, .int .u64 c, .int .u64 d, .int .u64 a, .int .u64 tt, .int .u64 sq, .int .u64 ak, .slice ao m cap]] x fun e w' => e = .returned (.bool true) ∧ Grow x w') (hkd : (kd != 1) = true) (ha0 : (a == 0) = false) (hc0 : (c == 0) = false) (httb : (tt == b) = false) :
    Calls Try.prog 17 #[.agg #[.int .i64 kd, .int .i64 nd, .int .u64 c, .int .u64 d, .int .u64 a, .int .u64 tt, .int .u64 sq, .int .u64 ak, .slice ao m cap], .agg #[.int .u64 a, .int .u64 b], .agg #[.int .u64 c, .int .u64 d]] w fun e w' => e = .returned (.bool false) ∧ Grow w w' := by
  unfold maxLen at hc
  have HMh := Lib.hid HM
  clear HM
  have HG : Hid (Grow w ((((w.alloc (.cells #[.int .i64 kd, .int .i64 nd, .int .u64 c, .int .u64 d, .int .u64 a, .int .u64 tt, .int .u64 sq, .int .u64 ak, .slice ao m cap] 28)).alloc (.cells #[.int .u64 a, .int .u64 b] 25)).alloc (.cells #[.int .u64 c, .int .u64 d] 25)).alloc (.cells #[.int .u64 0, .int .u64 0] 25))) := ((((Grow.refl w).alloc _).alloc _).alloc _).alloc _
  have HF : Hid (∀ x, Grow ((((w.alloc (.cells #[.int .i64 kd, .int .i64 nd, .int .u64 c, .int .u64 d, .int .u64 a, .int .u64 tt, .int .u64 sq, .int .u64 ak, .slice ao m cap] 28)).alloc (.cells #[.int .u64 a, .int .u64 b] 25)).alloc (.cells #[.int .u64 c, .int .u64 d] 25)).alloc (.cells #[.int .u64 0, .int .u64 0] 25)) x → _) := fun x hx => four _ _ _ _ hx
  go_enter Try.func17, Try.ntmps17
  go_wp2_with fail
  refine (HMh.out _ HG.out).mono ?_
  rintro e w1 ⟨rfl, hg⟩
  obtain ⟨x1, x2, x3, x4⟩ := HF.out _ hg
  obtain ⟨⟨f0, f1, f2, f3, f4⟩, f5, f6, f7, f8⟩ := blkF x1
  obtain ⟨a0, a1⟩ := blk2 x2
  obtain ⟨c0, c1⟩ := blk2 x3
  obtain ⟨n0, n1⟩ := blk2 x4
  have HG1 := Lib.hid (HG.out.trans hg)
  clear hg x1 x2 x3 x4
  go_wp2_with fail
  go_ret
  exact ⟨rfl, HG1.out⟩

set_option maxRecDepth 20000 in
set_option maxHeartbeats 1000000 in
theorem ses_M1T1e {a ak b c d kd nd sq : Int} {ao : Option Addr} {m cap : Nat} (w : World) (hm : m ≤ cap) (hc : cap ≤ maxLen) (HM : ∀ x, Grow w x → Calls Try.prog 10 #[.agg #[.int .i64 kd, .int .i64 nd, .int .u64 c, .int .u64 d, .int .u64 a, .int .u64 b, .int .u64 sq, .int .u64 ak, .slice ao m cap]] x fun e w' => e = .returned (.bool true) ∧ Grow x w') (hkd : (kd != 1) = true) (ha0 : (a == 0) = false) (hc0 : (c == 0) = false) :
    Calls Try.prog 17 #[.agg #[.int .i64 kd, .int .i64 nd, .int .u64 c, .int .u64 d, .int .u64 a, .int .u64 b, .int .u64 sq, .int .u64 ak, .slice ao m cap], .agg #[.int .u64 a, .int .u64 b], .agg #[.int .u64 c, .int .u64 d]] w fun e w' => e = .returned (.bool true) ∧ Grow w w' := by
  unfold maxLen at hc
  have HMh := Lib.hid HM
  clear HM
  have HG : Hid (Grow w ((((w.alloc (.cells #[.int .i64 kd, .int .i64 nd, .int .u64 c, .int .u64 d, .int .u64 a, .int .u64 b, .int .u64 sq, .int .u64 ak, .slice ao m cap] 28)).alloc (.cells #[.int .u64 a, .int .u64 b] 25)).alloc (.cells #[.int .u64 c, .int .u64 d] 25)).alloc (.cells #[.int .u64 0, .int .u64 0] 25))) := ((((Grow.refl w).alloc _).alloc _).alloc _).alloc _
  have HF : Hid (∀ x, Grow ((((w.alloc (.cells #[.int .i64 kd, .int .i64 nd, .int .u64 c, .int .u64 d, .int .u64 a, .int .u64 b, .int .u64 sq, .int .u64 ak, .slice ao m cap] 28)).alloc (.cells #[.int .u64 a, .int .u64 b] 25)).alloc (.cells #[.int .u64 c, .int .u64 d] 25)).alloc (.cells #[.int .u64 0, .int .u64 0] 25)) x → _) := fun x hx => four _ _ _ _ hx
  go_enter Try.func17, Try.ntmps17
  go_wp2_with fail
  refine (HMh.out _ HG.out).mono ?_
  rintro e w1 ⟨rfl, hg⟩
  obtain ⟨x1, x2, x3, x4⟩ := HF.out _ hg
  obtain ⟨⟨f0, f1, f2, f3, f4⟩, f5, f6, f7, f8⟩ := blkF x1
  obtain ⟨a0, a1⟩ := blk2 x2
  obtain ⟨c0, c1⟩ := blk2 x3
  obtain ⟨n0, n1⟩ := blk2 x4
  have HG1 := Lib.hid (HG.out.trans hg)
  clear hg x1 x2 x3 x4
  go_wp2_with fail
  go_ret
  exact ⟨rfl, HG1.out⟩

set_option maxRecDepth 20000 in
set_option maxHeartbeats 1000000 in
theorem ses_M1T2a {a ak b d kd mb mt nd sq tb tt : Int} {ao : Option Addr} {m cap : Nat} (w : World) (hm : m ≤ cap) (hc : cap ≤ maxLen) (HM : ∀ x, Grow w x → Calls Try.prog 10 #[.agg #[.int .i64 kd, .int .i64 nd, .int .u64 mb, .int .u64 mt, .int .u64 tb, .int .u64 tt, .int .u64 sq, .int .u64 ak, .slice ao m cap]] x fun e w' => e = .returned (.bool true) ∧ Grow x w') (hkd : (kd != 1) = true) (ha0 : (a == 0) = false) (hd0 : (d == 0) = false) (hmb0 : (mb == 0) = false) :
    Calls Try.prog 17 #[.agg #[.int .i64 kd, .int .i64 nd, .int .u64 mb, .int .u64 mt, .int .u64 tb, .int .u64 tt, .int .u64 sq, .int .u64 ak, .slice ao m cap], .agg #[.int .u64 a, .int .u64 b], .agg #[.int .u64 0, .int .u64 d]] w fun e w' => e = .returned (.bool false) ∧ Grow w w' := by
  unfold maxLen at hc
  have HMh := Lib.hid HM
  clear HM
  have HG : Hid (Grow w ((((w.alloc (.cells #[.int .i64 kd, .int .i64 nd, .int .u64 mb, .int .u64 mt, .int .u64 tb, .int .u64 tt, .int .u64 sq, .int .u64 ak, .slice ao m cap] 28)).alloc (.cells #[.int .u64 a, .int .u64 b] 25)).alloc (.cells #[.int .u64 0, .int .u64 d] 25)).alloc (.cells #[.int .u64 0, .int .u64 0] 25))) := ((((Grow.refl w).alloc _).alloc _).alloc _).alloc _
  have HF : Hid (∀ x, Grow ((((w.alloc (.cells #[.int .i64 kd, .int .i64 nd, .int .u64 mb, .int .u64 mt, .int .u64 tb, .int .u64 tt, .int .u64 sq, .int .u64 ak, .slice ao m cap] 28)).alloc (.cells #[.int .u64 a, .int .u64 b] 25)).alloc (.cells #[.int .u64 0, .int .u64 d] 25)).alloc (.cells #[.int .u64 0, .int .u64 0] 25)) x → _) := fun x hx => four _ _ _ _ hx
  go_enter Try.func17, Try.ntmps17
  go_wp2_with fail
  refine (HMh.out _ HG.out).mono ?_
  rintro e w1 ⟨rfl, hg⟩
  obtain ⟨x1, x2, x3, x4⟩ := HF.out _ hg
  obtain ⟨⟨f0, f1, f2, f3, f4⟩, f5, f6, f7, f8⟩ := blkF x1
  obtain ⟨a0, a1⟩ := blk2 x2
  obtain ⟨c0, c1⟩ := blk2 x3
  obtain ⟨n0, n1⟩ := blk2 x4
  have HG1 := Lib.hid (HG.out.trans hg)
  clear hg x1 x2 x3 x4
  go_wp2_with fail
  go_ret
  exact ⟨rfl, HG1.out⟩

set_option maxRecDepth 20000 in
set_option maxHeartbeats 1000000 in
theorem ses_M1T2b {a ak b d kd mt nd sq tb tt : Int} {ao : Option Addr} {m cap : Nat} (w : World) (hm : m ≤ cap) (hc : cap ≤ maxLen) (HM : ∀ x, Grow w x → Calls Try.prog 10 #[.agg #[.int .i64 kd, .int .i64 nd, .int .u64 0, .int .u64 mt, .int .u64 tb, .int .u64 tt, .int .u64 sq, .int .u64 ak, .slice ao m cap]] x fun e w' => e = .returned (.bool true) ∧ Grow x w') (hkd : (kd != 1) = true) (ha0 : (a == 0) = false) (hd0 : (d == 0) = false) (hmtd : (mt == d) = false) :
    Calls Try.prog 17 #[.agg #[.int .i64 kd, .int .i64 nd, .int .u64 0, .int .u64 mt, .int .u64 tb, .int .u64 tt, .int .u64 sq, .int .u64 ak, .slice ao m cap], .agg #[.int .u64 a, .int .u64 b], .agg #[.int .u64 0, .int .u64 d]] w fun e w' => e = .returned (.bool false) ∧ Grow w w' := by
  unfold maxLen at hc
  have HMh := Lib.hid HM
  clear HM
  have HG : Hid (Grow w ((((w.alloc (.cells #[.int .i64 kd, .int .i64 nd, .int .u64 0, .int .u64 mt, .int .u64 tb, .int .u64 tt, .int .u64 sq, .int .u64 ak, .slice ao m cap] 28)).alloc (.cells #[.int .u64 a, .int .u64 b] 25)).alloc (.cells #[.int .u64 0, .int .u64 d] 25)).alloc (.cells #[.int .u64 0, .int .u64 0] 25))) := ((((Grow.refl w).alloc _).alloc _).alloc _).alloc _
  have HF : Hid (∀ x, Grow ((((w.alloc (.cells #[.int .i64 kd, .int .i64 nd, .int .u64 0, .int .u64 mt, .int .u64 tb, .int .u64 tt, .int .u64 sq, .int .u64 ak, .slice ao m cap] 28)).alloc (.cells #[.int .u64 a, .int .u64 b] 25)).alloc (.cells #[.int .u64 0, .int .u64 d] 25)).alloc (.cells #[.int .u64 0, .int .u64 0] 25)) x → _) := fun x hx => four _ _ _ _ hx
  go_enter Try.func17, Try.ntmps17
  go_wp2_with fail
  refine (HMh.out _ HG.out).mono ?_
  rintro e w1 ⟨rfl, hg⟩
  obtain ⟨x1, x2, x3, x4⟩ := HF.out _ hg
  obtain ⟨⟨f0, f1, f2, f3, f4⟩, f5, f6, f7, f8⟩ := blkF x1
  obtain ⟨a0, a1⟩ := blk2 x2
  obtain ⟨c0, c1⟩ := blk2 x3
  obtain ⟨n0, n1⟩ := blk2 x4
  have HG1 := Lib.hid (HG.out.trans hg)
  clear hg x1 x2 x3 x4
  go_wp2_with fail
  go_ret
  exact ⟨rfl, HG1.out⟩

set_option maxRecDepth 20000 in
set_option maxHeartbeats 1000000 in
theorem ses_M1T2c {a ak b d kd nd sq tb tt : Int} {ao : Option Addr} {m cap : Nat} (w : World) (hm : m ≤ cap) (hc : cap ≤ maxLen) (HM : ∀ x, Grow w x → Calls Try.prog 10 #[.agg #[.int .i64 kd, .int .i64 nd, .int .u64 0, .int .u64 d, .int .u64 tb, .int .u64 tt, .int .u64 sq, .int .u64 ak, .slice ao m cap]] x fun e w' => e = .returned (.bool true) ∧ Grow x w') (hkd : (kd != 1) = true) (ha0 : (a == 0) = false) (hd0 : (d == 0) = false) (htba : (tb == a) = false) :
    Calls Try.prog 17 #[.agg #[.int .i64 kd, .int .i64 nd, .int .u64 0, .int .u64 d, .int .u64 tb, .int .u64 tt, .int .u64 sq, .int .u64 ak, .slice ao m cap], .agg #[.int .u64 a, .int .u64 b], .agg #[.int .u64 0, .int .u64 d]] w fun e w' => e = .returned (.bool false) ∧ Grow w w' := by
  unfold maxLen at hc
  have HMh := Lib.hid HM
  clear HM
  have HG : Hid (Grow w ((((w.alloc (.cells #[.int .i64 kd, .int .i64 nd, .int .u64 0, .int .u64 d, .int .u64 tb, .int .u64 tt, .int .u64 sq, .int .u64 ak, .slice ao m cap] 28)).alloc (.cells #[.int .u64 a, .int .u64 b] 25)).alloc (.cells #[.int .u64 0, .int .u64 d] 25)).alloc (.cells #[.int .u64 0, .int .u64 0] 25))) := ((((Grow.refl w).alloc _).alloc _).alloc _).alloc _
  have HF : Hid (∀ x, Grow ((((w.alloc (.cells #[.int .i64 kd, .int .i64 nd, .int .u64 0, .int .u64 d, .int .u64 tb, .int .u64 tt, .int .u64 sq, .int .u64 ak, .slice ao m cap] 28)).alloc (.cells #[.int .u64 a, .int .u64 b] 25)).alloc (.cells #[.int .u64 0, .int .u64 d] 25)).alloc (.cells #[.int .u64 0, .int .u64 0] 25)) x → _) := fun x hx => four _ _ _ _ hx
  go_enter Try.func17, Try.ntmps17
  go_wp2_with fail
  refine (HMh.out _ HG.out).mono ?_
  rintro e w1 ⟨rfl, hg⟩
  obtain ⟨x1, x2, x3, x4⟩ := HF.out _ hg
  obtain ⟨⟨f0, f1, f2, f3, f4⟩, f5, f6, f7, f8⟩ := blkF x1
  obtain ⟨a0, a1⟩ := blk2 x2
  obtain ⟨c0, c1⟩ := blk2 x3
  obtain ⟨n0, n1⟩ := blk2 x4
  have HG1 := Lib.hid (HG.out.trans hg)
  clear hg x1 x2 x3 x4
  go_wp2_with fail
  go_ret
  exact ⟨rfl, HG1.out⟩

set_option maxRecDepth 20000 in
set_option maxHeartbeats 1000000 in
theorem ses_M1T2d {a ak b d kd nd sq tt : Int} {ao : Option Addr} {m cap : Nat} (w : World) (hm : m ≤ cap) (hc : cap ≤ maxLen) (HM : ∀ x, Grow w x → Calls Try.prog 10 #[.agg #[.int .i64 kd, .int .i64 nd, .int .u64 0, .int .u64 d, .int .u64 a, .int .u64 tt, .int .u64 sq, .int .u64 ak, .slice ao m cap]] x fun e w' => e = .returned (.bool true) ∧ Grow x w') (hkd : (kd != 1) = true) (ha0 : (a == 0) = false) (hd0 : (d == 0) = false) (httb : (tt == b) = false) :
    Calls Try.prog 17 #[.agg #[.int .i64 kd, .int .i64 nd, .int .u64 0, .int .u64 d, .int .u64 a, .int .u64 tt, .int .u64 sq, .int .u64 ak, .slice ao m cap], .agg #[.int .u64 a, .int .u64 b], .agg #[.int .u64 0, .int .u64 d]] w fun e w' => e = .returned (.bool false) ∧ Grow w w' := by
  unfold maxLen at hc
  have HMh := Lib.hid HM
  clear HM
  have HG : Hid (Grow w ((((w.alloc (.cells #[.int .i64 kd, .int .i64 nd, .int .u64 0, .int .u64 d, .int .u64 a, .int .u64 tt, .int .u64 sq, .int .u64 ak, .slice ao m cap] 28)).alloc (.cells #[.int .u64 a, .int .u64 b] 25)).alloc (.cells #[.int .u64 0, .int .u64 d] 25)).alloc (.cells #[.int .u64 0, .int .u64 0] 25))) := ((((Grow.refl w).alloc _).alloc _).alloc _).alloc _
  have HF : Hid (∀ x, Grow ((((w.alloc (.cells #[.int .i64 kd, .int .i64 nd, .int .u64 0, .int .u64 d, .int .u64 a, .int .u64 tt, .int .u64 sq, .int .u64 ak, .slice ao m cap] 28)).alloc (.cells #[.int .u64 a, .int .u64 b] 25)).alloc (.cells #[.int .u64 0, .int .u64 d] 25)).alloc (.cells #[.int .u64 0, .int .u64 0] 25)) x → _) := fun x hx => four _ _ _ _ hx
  go_enter Try.func17, Try.ntmps17
  go_wp2_with fail
  refine (HMh.out _ HG.out).mono ?_
  rintro e w1 ⟨rfl, hg⟩
  obtain ⟨x1, x2, x3, x4⟩ := HF.out _ hg
  obtain ⟨⟨f0, f1, f2, f3, f4⟩, f5, f6, f7, f8⟩ := blkF x1
  obtain ⟨a0, a1⟩ := blk2 x2
  obtain ⟨c0, c1⟩ := blk2 x3
  obtain ⟨n0, n1⟩ := blk2 x4
  have HG1 := Lib.hid (HG.out.trans hg)
  clear hg x1 x2 x3 x4
  go_wp2_with fail
  go_ret
  exact ⟨rfl, HG1.out⟩

set_option maxRecDepth 20000 in
set_option maxHeartbeats 1000000 in
theorem ses_M1T2e {a ak b d kd nd sq : Int} {ao : Option Addr} {m cap : Nat} (w : World) (hm : m ≤ cap) (hc : cap ≤ maxLen) (HM : ∀ x, Grow w x → Calls Try.prog 10 #[.agg #[.int .i64 kd, .int .i64 nd, .int .u64 0, .int .u64 d, .int .u64 a, .int .u64 b, .int .u64 sq, .int .u64 ak, .slice ao m cap]] x fun e w' => e = .returned (.bool true) ∧ Grow x w') (hkd : (kd != 1) = true) (ha0 : (a == 0) = false) (hd0 : (d == 0) = false) :
    Calls Try.prog 17 #[.agg #[.int .i64 kd, .int .i64 nd, .int .u64 0, .int .u64 d, .int .u64 a, .int .u64 b, .int .u64 sq, .int .u64 ak, .slice ao m cap], .agg #[.int .u64 a, .int .u64 b], .agg #[.int .u64 0, .int .u64 d]] w fun e w' => e = .returned (.bool true) ∧ Grow w w' := by
  unfold maxLen at hc
  have HMh := Lib.hid HM
  clear HM
  have HG : Hid (Grow w ((((w.alloc (.cells #[.int .i64 kd, .int .i64 nd, .int .u64 0, .int .u64 d, .int .u64 a, .int .u64 b, .int .u64 sq, .int .u64 ak, .slice ao m cap] 28)).alloc (.cells #[.int .u64 a, .int .u64 b] 25)).alloc (.cells #[.int .u64 0, .int .u64 d] 25)).alloc (.cells #[.int .u64 0, .int .u64 0] 25))) := ((((Grow.refl w).alloc _).alloc _).alloc _).alloc _
  have HF : Hid (∀ x, Grow ((((w.alloc (.cells #[.int .i64 kd, .int .i64 nd, .int .u64 0, .int .u64 d, .int .u64 a, .int .u64 b, .int .u64 sq, .int .u64 ak, .slice ao m cap] 28)).alloc (.cells #[.int .u64 a, .int .u64 b] 25)).alloc (.cells #[.int .u64 0, .int .u64 d] 25)).alloc (.cells #[.int .u64 0, .int .u64 0] 25)) x → _) := fun x hx => four _ _ _ _ hx
  go_enter Try.func17, Try.ntmps17
  go_wp2_with fail
  refine (HMh.out _ HG.out).mono ?_
  rintro e w1 ⟨rfl, hg⟩
  obtain ⟨x1, x2, x3, x4⟩ := HF.out _ hg
  obtain ⟨⟨f0, f1, f2, f3, f4⟩, f5, f6, f7, f8⟩ := blkF x1
  obtain ⟨a0, a1⟩ := blk2 x2
  obtain ⟨c0, c1⟩ := blk2 x3
  obtain ⟨n0, n1⟩ := blk2 x4
  have HG1 := Lib.hid (HG.out.trans hg)
  clear hg x1 x2 x3 x4
  go_wp2_with fail
  go_ret
  exact ⟨rfl, HG1.out⟩

set_option maxRecDepth 20000 in
set_option maxHeartbeats 1000000 in
theorem ses_M2N {ak b kd mb mt nd sq tb tt : Int} {ao : Option Addr} {m cap : Nat} (w : World) (hm : m ≤ cap) (hc : cap ≤ maxLen) (HM : ∀ x, Grow w x → Calls Try.prog 10 #[.agg #[.int .i64 kd, .int .i64 nd, .int .u64 mb, .int .u64 mt, .int .u64 tb, .int .u64 tt, .int .u64 sq, .int .u64 ak, .slice ao m cap]] x fun e w' => e = .returned (.bool true) ∧ Grow x w') (hkd : (kd != 1) = true) (hb0 : (b == 0) = false) :
    Calls Try.prog 17 #[.agg #[.int .i64 kd, .int .i64 nd, .int .u64 mb, .int .u64 mt, .int .u64 tb, .int .u64 tt, .int .u64 sq, .int .u64 ak, .slice ao m cap], .agg #[.int .u64 0, .int .u64 b], .agg #[.int .u64 0, .int .u64 0]] w fun e w' => e = .returned (.bool false) ∧ Grow w w' := by
  unfold maxLen at hc
  have HMh := Lib.hid HM
  clear HM
  have HG : Hid (Grow w ((((w.alloc (.cells #[.int .i64 kd, .int .i64 nd, .int .u64 mb, .int .u64 mt, .int .u64 tb, .int .u64 tt, .int .u64 sq, .int .u64 ak, .slice ao m cap] 28)).alloc (.cells #[.int .u64 0, .int .u64 b] 25)).alloc (.cells #[.int .u64 0, .int .u64 0] 25)).alloc (.cells #[.int .u64 0, .int .u64 0] 25))) := ((((Grow.refl w).alloc _).alloc _).alloc _).alloc _
  have HF : Hid (∀ x, Grow ((((w.alloc (.cells #[.int .i64 kd, .int .i64 nd, .int .u64 mb, .int .u64 mt, .int .u64 tb, .int .u64 tt, .int .u64 sq, .int .u64 ak, .slice ao m cap] 28)).alloc (.cells #[.int .u64 0, .int .u64 b] 25)).alloc (.cells #[.int .u64 0, .int .u64 0] 25)).alloc (.cells #[.int .u64 0, .int .u64 0] 25)) x → _) := fun x hx => four _ _ _ _ hx
  go_enter Try.func17, Try.ntmps17
  go_wp2_with fail
  refine (HMh.out _ HG.out).mono ?_
  rintro e w1 ⟨rfl, hg⟩
  obtain ⟨x1, x2, x3, x4⟩ := HF.out _ hg
  obtain ⟨⟨f0, f1, f2, f3, f4⟩, f5, f6, f7, f8⟩ := blkF x1
  obtain ⟨a0, a1⟩ := blk2 x2
  obtain ⟨c0, c1⟩ := blk2 x3
  obtain ⟨n0, n1⟩ := blk2 x4
  have HG1 := Lib.hid (HG.out.trans hg)
  clear hg x1 x2 x3 x4
  go_wp2_with fail
  go_ret
  exact ⟨rfl, HG1.out⟩

set_option maxRecDepth 20000 in
set_option maxHeartbeats 1000000 in
theorem ses_M2T1a {ak b c d kd mb mt nd sq tb tt : Int} {ao : Option Addr} {m cap : Nat} (w : World) (hm : m ≤ cap) (hc : cap ≤ maxLen) (HM : ∀ x, Grow w x → Calls Try.prog 10 #[.agg #[.int .i64 kd, .int .i64 nd, .int .u64 mb, .int .u64 mt, .int .u64 tb, .int .u64 tt, .int .u64 sq, .int .u64 ak, .slice ao m cap]] x fun e w' => e = .returned (.bool true) ∧ Grow x w') (hkd : (kd != 1) = true) (hb0 : (b == 0) = false) (hc0 : (c == 0) = false) (hmbc : (mb == c) = false) :
    Calls Try.prog 17 #[.agg #[.int .i64 kd, .int .i64 nd, .int .u64 mb, .int .u64 mt, .int .u64 tb, .int .u64 tt, .int .u64 sq, .int .u64 ak, .slice ao m cap], .agg #[.int .u64 0, .int .u64 b], .agg #[.int .u64 c, .int .u64 d]] w fun e w' => e = .returned (.bool false) ∧ Grow w w' := by
  unfold maxLen at hc
  have HMh := Lib.hid HM
  clear HM
  have HG : Hid (Grow w ((((w.alloc (.cells #[.int .i64 kd, .int .i64 nd, .int .u64 mb, .int .u64 mt, .int .u64 tb, .int .u64 tt, .int .u64 sq, .int .u64 ak, .slice ao m cap] 28)).alloc (.cells #[.int .u64 0, .int .u64 b] 25)).alloc (.cells #[.int .u64 c, .int .u64 d] 25)).alloc (.cells #[.int .u64 0, .int .u64 0] 25))) := ((((Grow.refl w).alloc _).alloc _).alloc _).alloc _
  have HF : Hid (∀ x, Grow ((((w.alloc (.cells #[.int .i64 kd, .int .i64 nd, .int .u64 mb, .int .u64 mt, .int .u64 tb, .int .u64 tt, .int .u64 sq, .int .u64 ak, .slice ao m cap] 28)).alloc (.cells #[.int .u64 0, .int .u64 b] 25)).alloc (.cells #[.int .u64 c, .int .u64 d] 25)).alloc (.cells #[.int .u64 0, .int .u64 0] 25)) x → _) := fun x hx => four _ _ _ _ hx
  go_enter Try.func17, Try.ntmps17
  go_wp2_with fail
  refine (HMh.out _ HG.out).mono ?_
  rintro e w1 ⟨rfl, hg⟩
  obtain ⟨x1, x2, x3, x4⟩ := HF.out _ hg
  obtain ⟨⟨f0, f1, f2, f3, f4⟩, f5, f6, f7, f8⟩ := blkF x1
  obtain ⟨a0, a1⟩ := blk2 x2
  obtain ⟨c0, c1⟩ := blk2 x3
  obtain ⟨n0, n1⟩ := blk2 x4
  have HG1 := Lib.hid (HG.out.trans hg)
  clear hg x1 x2 x3 x4
  go_wp2_with fail
  go_ret
  exact ⟨rfl, HG1.out⟩

set_option maxRecDepth 20000 in
set_option maxHeartbeats 1000000 in
theorem ses_M2T1b {ak b c d kd mt nd sq tb tt : Int} {ao : Option Addr} {m cap : Nat} (w : World) (hm : m ≤ cap) (hc : cap ≤ maxLen) (HM : ∀ x, Grow w x → Calls Try.prog 10 #[.agg #[.int .i64 kd, .int .i64 nd, .int .u64 c, .int .u64 mt, .int .u64 tb, .int .u64 tt, .int .u64 sq, .int .u64 ak, .slice ao m cap]] x fun e w' => e = .returned (.bool true) ∧ Grow x w') (hkd : (kd != 1) = true) (hb0 : (b == 0) = false) (hc0 : (c == 0) = false) (hmtd : (mt == d) = false) :
    Calls Try.prog 17 #[.agg #[.int .i64 kd, .int .i64 nd, .int .u64 c, .int .u64 mt, .int .u64 tb, .int .u64 tt, .int .u64 sq, .int .u64 ak, .slice ao m cap], .agg #[.int .u64 0, .int .u64 b], .agg #[.int .u64 c, .int .u64 d]] w fun e w' => e = .returned (.bool false) ∧ Grow w w' := by
  unfold maxLen at hc
  have HMh := Lib.hid HM
  clear HM
  have HG : Hid (Grow w ((((w.alloc (.cells #[.int .i64 kd, .int .i64 nd, .int .u64 c, .int .u64 mt, .int .u64 tb, .int .u64 tt, .int .u64 sq, .int .u64 ak, .slice ao m cap] 28)).alloc (.cells #[.int .u64 0, .int .u64 b] 25)).alloc (.cells #[.int .u64 c, .int .u64 d] 25)).alloc (.cells #[.int .u64 0, .int .u64 0] 25))) := ((((Grow.refl w).alloc _).alloc _).alloc _).alloc _
  have HF : Hid (∀ x, Grow ((((w.alloc (.cells #[.int .i64 kd, .int .i64 nd, .int .u64 c, .int .u64 mt, .int .u64 tb, .int .u64 tt, .int .u64 sq, .int .u64 ak, .slice ao m cap] 28)).alloc (.cells #[.int .u64 0, .int .u64 b] 25)).alloc (.cells #[.int .u64 c, .int .u64 d] 25)).alloc (.cells #[.int .u64 0, .int .u64 0] 25)) x → _) := fun x hx => four _ _ _ _ hx
  go_enter Try.func17, Try.ntmps17
  go_wp2_with fail
  refine (HMh.out _ HG.out).mono ?_
  rintro e w1 ⟨rfl, hg⟩
  obtain ⟨x1, x2, x3, x4⟩ := HF.out _ hg
  obtain ⟨⟨f0, f1, f2, f3, f4⟩, f5, f6, f7, f8⟩ := blkF x1
  obtain ⟨a0, a1⟩ := blk2 x2
  obtain ⟨c0, c1⟩ := blk2 x3
  obtain ⟨n0, n1⟩ := blk2 x4
  have HG1 := Lib.hid (HG.out.trans hg)
  clear hg x1 x2 x3 x4
  go_wp2_with fail
  go_ret
  exact ⟨rfl, HG1.out⟩

set_option maxRecDepth 20000 in
set_option maxHeartbeats 1000000 in
theorem ses_M2T1c {ak b c d kd nd sq tb tt : Int} {ao : Option Addr} {m cap : Nat} (w : World) (hm : m ≤ cap) (hc : cap ≤ maxLen) (HM : ∀ x, Grow w x → Calls Try.prog 10 #[.agg #[.int .i64 kd, .int .i64 nd, .int .u64 c, .int .u64 d, .int .u64 tb, .int .u64 tt, .int .u64 sq, .int .u64 ak, .slice ao m cap]] x fun e w' => e = .returned (.bool true) ∧ Grow x w') (hkd : (kd != 1) = true) (hb0 : (b == 0) = false) (hc0 : (c == 0) = false) (htb0 : (tb == 0) = false) :
    Calls Try.prog 17 #[.agg #[.int .i64 kd, .int .i64 nd, .int .u64 c, .int .u64 d, .int .u64 tb, .int .u64 tt, .int .u64 sq, .int .u64 ak, .slice ao m cap], .agg #[.int .u64 0, .int .u64 b], .agg #[.int .u64 c, .int .u64 d]] w fun e w' => e = .returned (.bool false) ∧ Grow w w' := by
  unfold maxLen at hc
  have HMh := Lib.hid HM
  clear HM
  have HG : Hid (Grow w ((((w.alloc (.cells #[.int .i64 kd, .int .i64 nd, .int .u64 c, .int .u64 d, .int .u64 tb, .int .u64 tt, .int .u64 sq, .int .u64 ak, .slice ao m cap] 28)).alloc (.cells #[.int .u64 0, .int .u64 b] 25)).alloc (.cells #[.int .u64 c, .int .u64 d] 25)).alloc (.cells #[.int .u64 0, .int .u64 0] 25))) := ((((Grow.refl w).alloc _).alloc _).alloc _).alloc _
  have HF : Hid (∀ x, Grow ((((w.alloc (.cells #[.int .i64 kd, .int .i64 nd, .int .u64 c, .int .u64 d, .int .u64 tb, .int .u64 tt, .int .u64 sq, .int .u64 ak, .slice ao m cap] 28)).alloc (.cells #[.int .u64 0, .int .u64 b] 25)).alloc (.cells #[.int .u64 c, .int .u64 d] 25)).alloc (.cells #[.int .u64 0, .int .u64 0] 25)) x → _) := fun x hx => four _ _ _ _ hx
  go_enter Try.func17, Try.ntmps17
  go_wp2_with fail
  refine (HMh.out _ HG.out).mono ?_
  rintro e w1 ⟨rfl, hg⟩
  obtain ⟨x1, x2, x3, x4⟩ := HF.out _ hg
  obtain ⟨⟨f0, f1, f2, f3, f4⟩, f5, f6, f7, f8⟩ := blkF x1
  obtain ⟨a0, a1⟩ := blk2 x2
  obtain ⟨c0, c1⟩ := blk2 x3
  obtain ⟨n0, n1⟩ := blk2 x4
  have HG1 := Lib.hid (HG.out.trans hg)
  clear hg x1 x2 x3 x4
  go_wp2_with fail
  go_ret
  exact ⟨rfl, HG1.out⟩

set_option maxRecDepth 20000 in
set_option maxHeartbeats 1000000 in
theorem ses_M2T1d {ak b c d kd nd sq tt : Int} {ao : Option Addr} {m cap : Nat} (w : World) (hm : m ≤ cap) (hc : cap ≤ maxLen) (HM : ∀ x, Grow w x → Calls Try.prog 10 #[.agg #[.int .i64 kd, .int .i64 nd, .int .u64 c, .int .u64 d, .int .u64 0, .int .u64 tt, .int .u64 sq, .int .u64 ak, .slice ao m cap]] x fun e w' => e = .returned (.bool true) ∧ Grow x w') (hkd : (kd != 1) = true) (hb0 : (b == 0) = false) (hc0 : (c == 0) = false) (httb : (tt == b) = false) :
    Calls Try.prog 17 #[.agg #[.int .i64 kd, .int .i64 nd, .int .u64 c, .int .u64 d, .int .u64 0, .int .u64 tt, .int .u64 sq, .int .u64 ak, .slice ao m cap], .agg #[.int .u64 0, .int .u64 b], .agg #[.int .u64 c, .int .u64 d]] w fun e w' => e = .returned (.bool false) ∧ Grow w w' := by
  unfold maxLen at hc
  have HMh := Lib.hid HM
  clear HM
  have HG : Hid (Grow w ((((w.alloc (.cells #[.int .i64 kd, .int .i64 nd, .int .u64 c, .int .u64 d, .int .u64 0, .int .u64 tt, .int .u64 sq, .int .u64 ak, .slice ao m cap] 28)).alloc (.cells #[.int .u64 0, .int .u64 b] 25)).alloc (.cells #[.int .u64 c, .int .u64 d] 25)).alloc (.cells #[.int .u64 0, .int .u64 0] 25))) := ((((Grow.refl w).alloc _).alloc _).alloc _).alloc _
  have HF : Hid (∀ x, Grow ((((w.alloc (.cells #[.int .i64 kd, .int .i64 nd, .int .u64 c, .int .u64 d, .int .u64 0, .int .u64 tt, .int .u64 sq, .int .u64 ak, .slice ao m cap] 28)).alloc (.cells #[.int .u64 0, .int .u64 b] 25)).alloc (.cells #[.int .u64 c, .int .u64 d] 25)).alloc (.cells #[.int .u64 0, .int .u64 0] 25)) x → _) := fun x hx => four _ _ _ _ hx
  go_enter Try.func17, Try.ntmps17
  go_wp2_with fail
  refine (HMh.out _ HG.out).mono ?_
  rintro e w1 ⟨rfl, hg⟩
  obtain ⟨x1, x2, x3, x4⟩ := HF.out _ hg
  obtain ⟨⟨f0, f1, f2, f3, f4⟩, f5, f6, f7, f8⟩ := blkF x1
  obtain ⟨a0, a1⟩ := blk2 x2
  obtain ⟨c0, c1⟩ := blk2 x3
  obtain ⟨n0, n1⟩ := blk2 x4
  have HG1 := Lib.hid (HG.out.trans hg)
  clear hg x1 x2 x3 x4
  go_wp2_with fail
  go_ret
  exact ⟨rfl, HG1.out⟩

set_option maxRecDepth 20000 in
set_option maxHeartbeats 1000000 in
theorem ses_M2T1e {ak b c d kd nd sq : Int} {ao : Option Addr} {m cap : Nat} (w : World) (hm : m ≤ cap) (hc : cap ≤ maxLen) (HM : ∀ x, Grow w x → Calls Try.prog 10 #[.agg #[.int .i64 kd, .int .i64 nd, .int .u64 c, .int .u64 d, .int .u64 0, .int .u64 b, .int .u64 sq, .int .u64 ak, .slice ao m cap]] x fun e w' => e = .returned (.bool true) ∧ Grow x w') (hkd : (kd != 1) = true) (hb0 : (b == 0) = false) (hc0 : (c == 0) = false) :
    Calls Try.prog 17 #[.agg #[.int .i64 kd, .int .i64 nd, .int .u64 c, .int .u64 d, .int .u64 0, .int .u64 b, .int .u64 sq, .int .u64 ak, .slice ao m cap], .agg #[.int .u64 0, .int .u64 b], .agg #[.int .u64 c, .int .u64 d]] w fun e w' => e = .returned (.bool true) ∧ Grow w w' := by
  unfold maxLen at hc
  have HMh := Lib.hid HM
  clear HM
  have HG : Hid (Grow w ((((w.alloc (.cells #[.int .i64 kd, .int .i64 nd, .int .u64 c, .int .u64 d, .int .u64 0, .int .u64 b, .int .u64 sq, .int .u64 ak, .slice ao m cap] 28)).alloc (.cells #[.int .u64 0, .int .u64 b] 25)).alloc (.cells #[.int .u64 c, .int .u64 d] 25)).alloc (.cells #[.int .u64 0, .int .u64 0] 25))) := ((((Grow.refl w).alloc _).alloc _).alloc _).alloc _
  have HF : Hid (∀ x, Grow ((((w.alloc (.cells #[.int .i64 kd, .int .i64 nd, .int .u64 c, .int .u64 d, .int .u64 0, .int .u64 b, .int .u64 sq, .int .u64 ak, .slice ao m cap] 28)).alloc (.cells #[.int .u64 0, .int .u64 b] 25)).alloc (.cells #[.int .u64 c, .int .u64 d] 25)).alloc (.cells #[.int .u64 0, .int .u64 0] 25)) x → _) := fun x hx => four _ _ _ _ hx
  go_enter Try.func17, Try.ntmps17
  go_wp2_with fail
  refine (HMh.out _ HG.out).mono ?_
  rintro e w1 ⟨rfl, hg⟩
  obtain ⟨x1, x2, x3, x4⟩ := HF.out _ hg
  obtain ⟨⟨f0, f1, f2, f3, f4⟩, f5, f6, f7, f8⟩ := blkF x1
  obtain ⟨a0, a1⟩ := blk2 x2
  obtain ⟨c0, c1⟩ := blk2 x3
  obtain ⟨n0, n1⟩ := blk2 x4
  have HG1 := Lib.hid (HG.out.trans hg)
  clear hg x1 x2 x3 x4
  go_wp2_with fail
  go_ret
  exact ⟨rfl, HG1.out⟩

set_option maxRecDepth 20000 in
set_option maxHeartbeats 1000000 in
theorem ses_M2T2a {ak b d kd mb mt nd sq tb tt : Int} {ao : Option Addr} {m cap : Nat} (w : World) (hm : m ≤ cap) (hc : cap ≤ maxLen) (HM : ∀ x, Grow w x → Calls Try.prog 10 #[.agg #[.int .i64 kd, .int .i64 nd, .int .u64 mb, .int .u64 mt, .int .u64 tb, .int .u64 tt, .int .u64 sq, .int .u64 ak, .slice ao m cap]] x fun e w' => e = .returned (.bool true) ∧ Grow x w') (hkd : (kd != 1) = true) (hb0 : (b == 0) = false) (hd0 : (d == 0) = false) (hmb0 : (mb == 0) = false) :
    Calls Try.prog 17 #[.agg #[.int .i64 kd, .int .i64 nd, .int .u64 mb, .int .u64 mt, .int .u64 tb, .int .u64 tt, .int .u64 sq, .int .u64 ak, .slice ao m cap], .agg #[.int .u64 0, .int .u64 b], .agg #[.int .u64 0, .int .u64 d]] w fun e w' => e = .returned (.bool false) ∧ Grow w w' := by
  unfold maxLen at hc
  have HMh := Lib.hid HM
  clear HM
  have HG : Hid (Grow w ((((w.alloc (.cells #[.int .i64 kd, .int .i64 nd, .int .u64 mb, .int .u64 mt, .int .u64 tb, .int .u64 tt, .int .u64 sq, .int .u64 ak, .slice ao m cap] 28)).alloc (.cells #[.int .u64 0, .int .u64 b] 25)).alloc (.cells #[.int .u64 0, .int .u64 d] 25)).alloc (.cells #[.int .u64 0, .int .u64 0] 25))) := ((((Grow.refl w).alloc _).alloc _).alloc _).alloc _
  have HF : Hid (∀ x, Grow ((((w.alloc (.cells #[.int .i64 kd, .int .i64 nd, .int .u64 mb, .int .u64 mt, .int .u64 tb, .int .u64 tt, .int .u64 sq, .int .u64 ak, .slice ao m cap] 28)).alloc (.cells #[.int .u64 0, .int .u64 b] 25)).alloc (.cells #[.int .u64 0, .int .u64 d] 25)).alloc (.cells #[.int .u64 0, .int .u64 0] 25)) x → _) := fun x hx => four _ _ _ _ hx
  go_enter Try.func17, Try.ntmps17
  go_wp2_with fail
  refine (HMh.out _ HG.out).mono ?_
  rintro e w1 ⟨rfl, hg⟩
  obtain ⟨x1, x2, x3, x4⟩ := HF.out _ hg
  obtain ⟨⟨f0, f1, f2, f3, f4⟩, f5, f6, f7, f8⟩ := blkF x1
  obtain ⟨a0, a1⟩ := blk2 x2
  obtain ⟨c0, c1⟩ := blk2 x3
  obtain ⟨n0, n1⟩ := blk2 x4
  have HG1 := Lib.hid (HG.out.trans hg)
  clear hg x1 x2 x3 x4
  go_wp2_with fail
  go_ret
  exact ⟨rfl, HG1.out⟩

set_option maxRecDepth 20000 in
set_option maxHeartbeats 1000000 in
theorem ses_M2T2b {ak b d kd mt nd sq tb tt : Int} {ao : Option Addr} {m cap : Nat} (w : World) (hm : m ≤ cap) (hc : cap ≤ maxLen) (HM : ∀ x, Grow w x → Calls Try.prog 10 #[.agg #[.int .i64 kd, .int .i64 nd, .int .u64 0, .int .u64 mt, .int .u64 tb, .int .u64 tt, .int .u64 sq, .int .u64 ak, .slice ao m cap]] x fun e w' => e = .returned (.bool true) ∧ Grow x w') (hkd : (kd != 1) = true) (hb0 : (b == 0) = false) (hd0 : (d == 0) = false) (hmtd : (mt == d) = false) :
    Calls Try.prog 17 #[.agg #[.int .i64 kd, .int .i64 nd, .int .u64 0, .int .u64 mt, .int .u64 tb, .int .u64 tt, .int .u64 sq, .int .u64 ak, .slice ao m cap], .agg #[.int .u64 0, .int .u64 b], .agg #[.int .u64 0, .int .u64 d]] w fun e w' => e = .returned (.bool false) ∧ Grow w w' := by
  unfold maxLen at hc
  have HMh := Lib.hid HM
  clear HM
  have HG : Hid (Grow w ((((w.alloc (.cells #[.int .i64 kd, .int .i64 nd, .int .u64 0, .int .u64 mt, .int .u64 tb, .int .u64 tt, .int .u64 sq, .int .u64 ak, .slice ao m cap] 28)).alloc (.cells #[.int .u64 0, .int .u64 b] 25)).alloc (.cells #[.int .u64 0, .int .u64 d] 25)).alloc (.cells #[.int .u64 0, .int .u64 0] 25))) := ((((Grow.refl w).alloc _).alloc _).alloc _).alloc _
  have HF : Hid (∀ x, Grow ((((w.alloc (.cells #[.int .i64 kd, .int .i64 nd, .int .u64 0, .int .u64 mt, .int .u64 tb, .int .u64 tt, .int .u64 sq, .int .u64 ak, .slice ao m cap] 28)).alloc (.cells #[.int .u64 0, .int .u64 b] 25)).alloc (.cells #[.int .u64 0, .int .u64 d] 25)).alloc (.cells #[.int .u64 0, .int .u64 0] 25)) x → _) := fun x hx => four _ _ _ _ hx
  go_enter Try.func17, Try.ntmps17
  go_wp2_with fail
  refine (HMh.out _ HG.out).mono ?_
  rintro e w1 ⟨rfl, hg⟩
  obtain ⟨x1, x2, x3, x4⟩ := HF.out _ hg
  obtain ⟨⟨f0, f1, f2, f3, f4⟩, f5, f6, f7, f8⟩ := blkF x1
  obtain ⟨a0, a1⟩ := blk2 x2
  obtain ⟨c0, c1⟩ := blk2 x3
  obtain ⟨n0, n1⟩ := blk2 x4
  have HG1 := Lib.hid (HG.out.trans hg)
  clear hg x1 x2 x3 x4
  go_wp2_with fail
  go_ret
  exact ⟨rfl, HG1.out⟩

set_option maxRecDepth 20000 in
set_option maxHeartbeats 1000000 in
theorem ses_M2T2c {ak b d kd nd sq tb tt : Int} {ao : Option Addr} {m cap : Nat} (w : World) (hm : m ≤ cap) (hc : cap ≤ maxLen) (HM : ∀ x, Grow w x → Calls Try.prog 10 #[.agg #[.int .i64 kd, .int .i64 nd, .int .u64 0, .int .u64 d, .int .u64 tb, .int .u64 tt, .int .u64 sq, .int .u64 ak, .slice ao m cap]] x fun e w' => e = .returned (.bool true) ∧ Grow x w') (hkd : (kd != 1) = true) (hb0 : (b == 0) = false) (hd0 : (d == 0) = false) (htb0 : (tb == 0) = false) :
    Calls Try.prog 17 #[.agg #[.int .i64 kd, .int .i64 nd, .int .u64 0, .int .u64 d, .int .u64 tb, .int .u64 tt, .int .u64 sq, .int .u64 ak, .slice ao m cap], .agg #[.int .u64 0, .int .u64 b], .agg #[.int .u64 0, .int .u64 d]] w fun e w' => e = .returned (.bool false) ∧ Grow w w' := by
  unfold maxLen at hc
  have HMh := Lib.hid HM
  clear HM
  have HG : Hid (Grow w ((((w.alloc (.cells #[.int .i64 kd, .int .i64 nd, .int .u64 0, .int .u64 d, .int .u64 tb, .int .u64 tt, .int .u64 sq, .int .u64 ak, .slice ao m cap] 28)).alloc (.cells #[.int .u64 0, .int .u64 b] 25)).alloc (.cells #[.int .u64 0, .int .u64 d] 25)).alloc (.cells #[.int .u64 0, .int .u64 0] 25))) := ((((Grow.refl w).alloc _).alloc _).alloc _).alloc _
  have HF : Hid (∀ x, Grow ((((w.alloc (.cells #[.int .i64 kd, .int .i64 nd, .int .u64 0, .int .u64 d, .int .u64 tb, .int .u64 tt, .int .u64 sq, .int .u64 ak, .slice ao m cap] 28)).alloc (.cells #[.int .u64 0, .int .u64 b] 25)).alloc (.cells #[.int .u64 0, .int .u64 d] 25)).alloc (.cells #[.int .u64 0, .int .u64 0] 25)) x → _) := fun x hx => four _ _ _ _ hx
  go_enter Try.func17, Try.ntmps17
  go_wp2_with fail
  refine (HMh.out _ HG.out).mono ?_
  rintro e w1 ⟨rfl, hg⟩
  obtain ⟨x1, x2, x3, x4⟩ := HF.out _ hg
  obtain ⟨⟨f0, f1, f2, f3, f4⟩, f5, f6, f7, f8⟩ := blkF x1
  obtain ⟨a0, a1⟩ := blk2 x2
  obtain ⟨c0, c1⟩ := blk2 x3
  obtain ⟨n0, n1⟩ := blk2 x4
  have HG1 := Lib.hid (HG.out.trans hg)
  clear hg x1 x2 x3 x4
  go_wp2_with fail
  go_ret
  exact ⟨rfl, HG1.out⟩

set_option maxRecDepth 20000 in
set_option maxHeartbeats 1000000 in
theorem ses_M2T2d {ak b d kd nd sq tt : Int} {ao : Option Addr} {m cap : Nat} (w : World) (hm : m ≤ cap) (hc : cap ≤ maxLen) (HM : ∀ x, Grow w x → Calls Try.prog 10 #[.agg #[.int .i64 kd, .int .i64 nd, .int .u64 0, .int .u64 d, .int .u64 0, .int .u64 tt, .int .u64 sq, .int .u64 ak, .slice ao m cap]] x fun e w' => e = .returned (.bool true) ∧ Grow x w') (hkd : (kd != 1) = true) (hb0 : (b == 0) = false) (hd0 : (d == 0) = false) (httb : (tt == b) = false) :
    Calls Try.prog 17 #[.agg #[.int .i64 kd, .int .i64 nd, .int .u64 0, .int .u64 d, .int .u64 0, .int .u64 tt, .int .u64 sq, .int .u64 ak, .slice ao m cap], .agg #[.int .u64 0, .int .u64 b], .agg #[.int .u64 0, .int .u64 d]] w fun e w' => e = .returned (.bool false) ∧ Grow w w' := by
  unfold maxLen at hc
  have HMh := Lib.hid HM
  clear HM
  have HG : Hid (Grow w ((((w.alloc (.cells #[.int .i64 kd, .int .i64 nd, .int .u64 0, .int .u64 d, .int .u64 0, .int .u64 tt, .int .u64 sq, .int .u64 ak, .slice ao m cap] 28)).alloc (.cells #[.int .u64 0, .int .u64 b] 25)).alloc (.cells #[.int .u64 0, .int .u64 d] 25)).alloc (.cells #[.int .u64 0, .int .u64 0] 25))) := ((((Grow.refl w).alloc _).alloc _).alloc _).alloc _
  have HF : Hid (∀ x, Grow ((((w.alloc (.cells #[.int .i64 kd, .int .i64 nd, .int .u64 0, .int .u64 d, .int .u64 0, .int .u64 tt, .int .u64 sq, .int .u64 ak, .slice ao m cap] 28)).alloc (.cells #[.int .u64 0, .int .u64 b] 25)).alloc (.cells #[.int .u64 0, .int .u64 d] 25)).alloc (.cells #[.int .u64 0, .int .u64 0] 25)) x → _) := fun x hx => four _ _ _ _ hx
  go_enter Try.func17, Try.ntmps17
  go_wp2_with fail
  refine (HMh.out _ HG.out).mono ?_
  rintro e w1 ⟨rfl, hg⟩
  obtain ⟨x1, x2, x3, x4⟩ := HF.out _ hg
  obtain ⟨⟨f0, f1, f2, f3, f4⟩, f5, f6, f7, f8⟩ := blkF x1
  obtain ⟨a0, a1⟩ := blk2 x2
  obtain ⟨c0, c1⟩ := blk2 x3
  obtain ⟨n0, n1⟩ := blk2 x4
  have HG1 := Lib.hid (HG.out.trans hg)
  clear hg x1 x2 x3 x4
  go_wp2_with fail
  go_ret
  exact ⟨rfl, HG1.out⟩

set_option maxRecDepth 20000 in
set_option maxHeartbeats 1000000 in
theorem ses_M2T2e {ak b d kd nd sq : Int} {ao : Option Addr} {m cap : Nat} (w : World) (hm : m ≤ cap) (hc : cap ≤ maxLen) (HM : ∀ x, Grow w x → Calls Try.prog 10 #[.agg #[.int .i64 kd, .int .i64 nd, .int .u64 0, .int .u64 d, .int .u64 0, .int .u64 b, .int .u64 sq, .int .u64 ak, .slice ao m cap]] x fun e w' => e = .returned (.bool true) ∧ Grow x w') (hkd : (kd != 1) = true) (hb0 : (b == 0) = false) (hd0 : (d == 0) = false) :
    Calls Try.prog 17 #[.agg #[.int .i64 kd, .int .i64 nd, .int .u64 0, .int .u64 d, .int .u64 0, .int .u64 b, .int .u64 sq, .int .u64 ak, .slice ao m cap], .agg #[.int .u64 0, .int .u64 b], .agg #[.int .u64 0, .int .u64 d]] w fun e w' => e = .returned (.bool true) ∧ Grow w w' := by
  unfold maxLen at hc
  have HMh := Lib.hid HM
  clear HM
  have HG : Hid (Grow w ((((w.alloc (.cells #[.int .i64 kd, .int .i64 nd, .int .u64 0, .int .u64 d, .int .u64 0, .int .u64 b, .int .u64 sq, .int .u64 ak, .slice ao m cap] 28)).alloc (.cells #[.int .u64 0, .int .u64 b] 25)).alloc (.cells #[.int .u64 0, .int .u64 d] 25)).alloc (.cells #[.int .u64 0, .int .u64 0] 25))) := ((((Grow.refl w).alloc _).alloc _).alloc _).alloc _
  have HF : Hid (∀ x, Grow ((((w.alloc (.cells #[.int .i64 kd, .int .i64 nd, .int .u64 0, .int .u64 d, .int .u64 0, .int .u64 b, .int .u64 sq, .int .u64 ak, .slice ao m cap] 28)).alloc (.cells #[.int .u64 0, .int .u64 b] 25)).alloc (.cells #[.int .u64 0, .int .u64 d] 25)).alloc (.cells #[.int .u64 0, .int .u64 0] 25)) x → _) := fun x hx => four _ _ _ _ hx
  go_enter Try.func17, Try.ntmps17
  go_wp2_with fail
  refine (HMh.out _ HG.out).mono ?_
  rintro e w1 ⟨rfl, hg⟩
  obtain ⟨x1, x2, x3, x4⟩ := HF.out _ hg
  obtain ⟨⟨f0, f1, f2, f3, f4⟩, f5, f6, f7, f8⟩ := blkF x1
  obtain ⟨a0, a1⟩ := blk2 x2
  obtain ⟨c0, c1⟩ := blk2 x3
  obtain ⟨n0, n1⟩ := blk2 x4
  have HG1 := Lib.hid (HG.out.trans hg)
  clear hg x1 x2 x3 x4
  go_wp2_with fail
  go_ret
  exact ⟨rfl, HG1.out⟩
end Go.Proofs.Ytiphhjipgjpepaa
