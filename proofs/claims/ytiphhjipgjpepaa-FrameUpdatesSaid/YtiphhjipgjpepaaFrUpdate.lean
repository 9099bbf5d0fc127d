/- The update of a frame: frame.Update, ref.Update. -/
import Derived.Test.YtiphhjipgjpepaaFrRMay
import Derived.Test.YtiphhjipgjpepaaFrMayAll
set_option linter.unusedVariables false
set_option linter.unusedSimpArgs false
namespace Go.Proofs.Ytiphhjipgjpepaa
open Go.RowKit

def zeroU : Value := .agg #[.int .u32 0, .int .i64 0, .int .i64 0]
def updOk (f : Fr) : Bool := mayF f && (f.kind == 2) && isU f.zs
def updR (f : Fr) : Value := if (mayF f && (f.kind == 2)) = true then updV f.zs else zeroU
def SomeUpdF (f : Fr) (w : World) (e : Ending) (w' : World) : Prop := e = .returned (.tuple #[updR f, .bool (updOk f)]) ∧ Grow w w'

theorem twoF {w x : World} (o1 o2 : Obj) (h : Grow ((w.alloc o1).alloc o2) x) : x.heap[w.heap.size]? = some o1 ∧ x.heap[w.heap.size + 1]? = some o2 := by
  have e1 := heap_alloc_new w o1
  have e2 := heap_alloc_new (w.alloc o1) o2
  have k1 := (h.block _ (lt_of_block (((Grow.refl (w.alloc o1)).alloc o2).block _ (lt_of_block e1) |>.trans e1))).trans (((Grow.refl (w.alloc o1)).alloc o2).block _ (lt_of_block e1) |>.trans e1)
  have k2 := (h.block _ (lt_of_block e2)).trans e2
  simp only [World.size_alloc] at k1 k2
  exact ⟨k1, k2⟩

set_option maxRecDepth 20000 in
set_option maxHeartbeats 1000000 in
theorem fupd_N0 {kd nd mb mt tb tt sq ak : Int} {ao : Option Addr} {m cap : Nat} (w : World) (hm : m ≤ cap) (hc : cap ≤ maxLen) (HM : ∀ x, Grow w x → Calls Try.prog 10 #[.agg #[.int .i64 kd, .int .i64 nd, .int .u64 mb, .int .u64 mt, .int .u64 tb, .int .u64 tt, .int .u64 sq, .int .u64 ak, .slice ao m cap]] x fun e w' => e = .returned (.bool false) ∧ Grow x w') :
    Calls Try.prog 22 #[.agg #[.int .i64 kd, .int .i64 nd, .int .u64 mb, .int .u64 mt, .int .u64 tb, .int .u64 tt, .int .u64 sq, .int .u64 ak, .slice ao m cap]] w fun e w' => e = .returned (.tuple #[.agg #[.int .u32 0, .int .i64 0, .int .i64 0], .bool false]) ∧ Grow w w' := by
  unfold maxLen at hc
  have HMh := Lib.hid HM
  clear HM
  have HG : Hid (Grow w ((w.alloc (.cells #[.int .i64 kd, .int .i64 nd, .int .u64 mb, .int .u64 mt, .int .u64 tb, .int .u64 tt, .int .u64 sq, .int .u64 ak, .slice ao m cap] 28)).alloc (.cells #[.int .u32 0, .int .i64 0, .int .i64 0] 52))) := ((Grow.refl w).alloc _).alloc _
  have HF : Hid (∀ x, Grow ((w.alloc (.cells #[.int .i64 kd, .int .i64 nd, .int .u64 mb, .int .u64 mt, .int .u64 tb, .int .u64 tt, .int .u64 sq, .int .u64 ak, .slice ao m cap] 28)).alloc (.cells #[.int .u32 0, .int .i64 0, .int .i64 0] 52)) x → _) := fun x hx => twoF _ _ hx
  go_enter Try.func22, Try.ntmps22
  go_wp2_with fail
  refine (HMh.out _ HG.out).mono ?_
  rintro e w1 ⟨rfl, hg⟩
  obtain ⟨x1, x2⟩ := HF.out _ hg
  obtain ⟨⟨f0, f1, f2, f3, f4⟩, f5, f6, f7, f8⟩ := blkF x1
  have hG1 := HG.out.trans hg
  have HG1 := Lib.hid hG1
  obtain ⟨⟨c0, c1, c2⟩, z0, z1, z2⟩ := blk3 x2
  clear hg hG1 x1 x2
  go_wp2_with fail
  refine bodyPost_ret (v := .tuple #[.agg #[.int .u32 0, .int .i64 0, .int .i64 0], .bool false]) (by simp [results, Try.results22, go_sem, c0, c1, c2]) rfl ⟨rfl, ?_⟩
  exact grow3 HG1.out (Nat.le_succ _) _ _ _

set_option maxRecDepth 20000 in
set_option maxHeartbeats 1000000 in
theorem fupd_N1 {kd nd mb mt tb tt sq ak : Int} {ao : Option Addr} {m cap : Nat} (w : World) (hm : m ≤ cap) (hc : cap ≤ maxLen) (HM : ∀ x, Grow w x → Calls Try.prog 10 #[.agg #[.int .i64 kd, .int .i64 nd, .int .u64 mb, .int .u64 mt, .int .u64 tb, .int .u64 tt, .int .u64 sq, .int .u64 ak, .slice ao m cap]] x fun e w' => e = .returned (.bool true) ∧ Grow x w') (hkd : (kd != 2) = true) :
    Calls Try.prog 22 #[.agg #[.int .i64 kd, .int .i64 nd, .int .u64 mb, .int .u64 mt, .int .u64 tb, .int .u64 tt, .int .u64 sq, .int .u64 ak, .slice ao m cap]] w fun e w' => e = .returned (.tuple #[.agg #[.int .u32 0, .int .i64 0, .int .i64 0], .bool false]) ∧ Grow w w' := by
  unfold maxLen at hc
  have HMh := Lib.hid HM
  clear HM
  have HG : Hid (Grow w ((w.alloc (.cells #[.int .i64 kd, .int .i64 nd, .int .u64 mb, .int .u64 mt, .int .u64 tb, .int .u64 tt, .int .u64 sq, .int .u64 ak, .slice ao m cap] 28)).alloc (.cells #[.int .u32 0, .int .i64 0, .int .i64 0] 52))) := ((Grow.refl w).alloc _).alloc _
  have HF : Hid (∀ x, Grow ((w.alloc (.cells #[.int .i64 kd, .int .i64 nd, .int .u64 mb, .int .u64 mt, .int .u64 tb, .int .u64 tt, .int .u64 sq, .int .u64 ak, .slice ao m cap] 28)).alloc (.cells #[.int .u32 0, .int .i64 0, .int .i64 0] 52)) x → _) := fun x hx => twoF _ _ hx
  go_enter Try.func22, Try.ntmps22
  go_wp2_with fail
  refine (HMh.out _ HG.out).mono ?_
  rintro e w1 ⟨rfl, hg⟩
  obtain ⟨x1, x2⟩ := HF.out _ hg
  obtain ⟨⟨f0, f1, f2, f3, f4⟩, f5, f6, f7, f8⟩ := blkF x1
  have hG1 := HG.out.trans hg
  have HG1 := Lib.hid hG1
  obtain ⟨⟨c0, c1, c2⟩, z0, z1, z2⟩ := blk3 x2
  clear hg hG1 x1 x2
  go_wp2_with fail
  refine bodyPost_ret (v := .tuple #[.agg #[.int .u32 0, .int .i64 0, .int .i64 0], .bool false]) (by simp [results, Try.results22, go_sem, c0, c1, c2]) rfl ⟨rfl, ?_⟩
  exact grow3 HG1.out (Nat.le_succ _) _ _ _

set_option maxRecDepth 20000 in
set_option maxHeartbeats 1000000 in
theorem fupd_N2 {nd mb mt tb tt sq ak : Int} {ao : Option Addr} {m cap : Nat} (w : World) (hm : m ≤ cap) (hc : cap ≤ maxLen) (HM : ∀ x, Grow w x → Calls Try.prog 10 #[.agg #[.int .i64 2, .int .i64 nd, .int .u64 mb, .int .u64 mt, .int .u64 tb, .int .u64 tt, .int .u64 sq, .int .u64 ak, .slice ao m cap]] x fun e w' => e = .returned (.bool true) ∧ Grow x w') (hz : ((m : Int) == 0) = true) :
    Calls Try.prog 22 #[.agg #[.int .i64 2, .int .i64 nd, .int .u64 mb, .int .u64 mt, .int .u64 tb, .int .u64 tt, .int .u64 sq, .int .u64 ak, .slice ao m cap]] w fun e w' => e = .returned (.tuple #[.agg #[.int .u32 0, .int .i64 0, .int .i64 0], .bool false]) ∧ Grow w w' := by
  unfold maxLen at hc
  have HMh := Lib.hid HM
  clear HM
  have HG : Hid (Grow w ((w.alloc (.cells #[.int .i64 2, .int .i64 nd, .int .u64 mb, .int .u64 mt, .int .u64 tb, .int .u64 tt, .int .u64 sq, .int .u64 ak, .slice ao m cap] 28)).alloc (.cells #[.int .u32 0, .int .i64 0, .int .i64 0] 52))) := ((Grow.refl w).alloc _).alloc _
  have HF : Hid (∀ x, Grow ((w.alloc (.cells #[.int .i64 2, .int .i64 nd, .int .u64 mb, .int .u64 mt, .int .u64 tb, .int .u64 tt, .int .u64 sq, .int .u64 ak, .slice ao m cap] 28)).alloc (.cells #[.int .u32 0, .int .i64 0, .int .i64 0] 52)) x → _) := fun x hx => twoF _ _ hx
  go_enter Try.func22, Try.ntmps22
  go_wp2_with fail
  refine (HMh.out _ HG.out).mono ?_
  rintro e w1 ⟨rfl, hg⟩
  obtain ⟨x1, x2⟩ := HF.out _ hg
  obtain ⟨⟨f0, f1, f2, f3, f4⟩, f5, f6, f7, f8⟩ := blkF x1
  have hG1 := HG.out.trans hg
  have HG1 := Lib.hid hG1
  obtain ⟨⟨c0, c1, c2⟩, z0, z1, z2⟩ := blk3 x2
  clear hg hG1 x1 x2
  go_wp2_with fail
  refine bodyPost_ret (v := .tuple #[.agg #[.int .u32 0, .int .i64 0, .int .i64 0], .bool false]) (by simp [results, Try.results22, go_sem, c0, c1, c2]) rfl ⟨rfl, ?_⟩
  exact grow3 HG1.out (Nat.le_succ _) _ _ _

set_option maxRecDepth 20000 in
set_option maxHeartbeats 1000000 in
theorem fupd_Y {nd mb mt tb tt sq ak a l d : Int} {u : Bool} {ao : Option Addr} {m cap : Nat} (w : World) (hm : m ≤ cap) (hc : cap ≤ maxLen) (HM : ∀ x, Grow w x → Calls Try.prog 10 #[.agg #[.int .i64 2, .int .i64 nd, .int .u64 mb, .int .u64 mt, .int .u64 tb, .int .u64 tt, .int .u64 sq, .int .u64 ak, .slice ao m cap]] x fun e w' => e = .returned (.bool true) ∧ Grow x w') (HU : ∀ x, Grow w x → Calls Try.prog 29 #[.slice ao m cap] x fun e w' => e = .returned (.tuple #[.agg #[.int .u32 a, .int .i64 l, .int .i64 d], .bool u]) ∧ Grow x w') (hz : ((m : Int) == 0) = false) :
    Calls Try.prog 22 #[.agg #[.int .i64 2, .int .i64 nd, .int .u64 mb, .int .u64 mt, .int .u64 tb, .int .u64 tt, .int .u64 sq, .int .u64 ak, .slice ao m cap]] w fun e w' => e = .returned (.tuple #[.agg #[.int .u32 a, .int .i64 l, .int .i64 d], .bool u]) ∧ Grow w w' := by
  unfold maxLen at hc
  have HMh := Lib.hid HM
  clear HM
  have HUh := Lib.hid HU
  clear HU
  have HG : Hid (Grow w ((w.alloc (.cells #[.int .i64 2, .int .i64 nd, .int .u64 mb, .int .u64 mt, .int .u64 tb, .int .u64 tt, .int .u64 sq, .int .u64 ak, .slice ao m cap] 28)).alloc (.cells #[.int .u32 0, .int .i64 0, .int .i64 0] 52))) := ((Grow.refl w).alloc _).alloc _
  have HF : Hid (∀ x, Grow ((w.alloc (.cells #[.int .i64 2, .int .i64 nd, .int .u64 mb, .int .u64 mt, .int .u64 tb, .int .u64 tt, .int .u64 sq, .int .u64 ak, .slice ao m cap] 28)).alloc (.cells #[.int .u32 0, .int .i64 0, .int .i64 0] 52)) x → _) := fun x hx => twoF _ _ hx
  go_enter Try.func22, Try.ntmps22
  go_wp2_with fail
  refine (HMh.out _ HG.out).mono ?_
  rintro e w1 ⟨rfl, hg⟩
  obtain ⟨x1, x2⟩ := HF.out _ hg
  obtain ⟨⟨f0, f1, f2, f3, f4⟩, f5, f6, f7, f8⟩ := blkF x1
  have hG1 := HG.out.trans hg
  have HG1 := Lib.hid hG1
  have X2 := Lib.hid x2
  clear hg hG1 x1 x2
  go_wp2_with fail
  refine (HUh.out _ HG1.out).mono ?_
  rintro e w2 ⟨rfl, hg⟩
  have x2 := (hg.block _ (lt_of_block X2.out)).trans X2.out
  obtain ⟨⟨c0, c1, c2⟩, z0, z1, z2⟩ := blk3 x2
  have HG2 := Lib.hid (HG1.out.trans hg)
  clear hg x2 f0 f1 f2 f3 f4 f5 f6 f7 f8
  go_wp2_with fail
  refine bodyPost_ret (v := .tuple #[.agg #[.int .u32 a, .int .i64 l, .int .i64 d], .bool u]) (by simp [results, Try.results22, go_sem, c0, c1, c2]) rfl ⟨rfl, ?_⟩
  exact grow3 HG2.out (Nat.le_succ _) _ _ _

set_option maxRecDepth 20000 in
set_option maxHeartbeats 1000000 in
theorem rupd_N0 {kd nd mb mt tb tt sq ak : Int} {ao : Option Addr} {m cap : Nat} (w : World) (hm : m ≤ cap) (hc : cap ≤ maxLen) (HM : ∀ x, Grow w x → Calls Try.prog 11 #[.agg #[.int .i64 kd, .int .i64 nd, .int .u64 mb, .int .u64 mt, .int .u64 tb, .int .u64 tt, .int .u64 sq, .int .u64 ak, .slice ao m cap]] x fun e w' => e = .returned (.bool false) ∧ Grow x w') :
    Calls Try.prog 24 #[.agg #[.int .i64 kd, .int .i64 nd, .int .u64 mb, .int .u64 mt, .int .u64 tb, .int .u64 tt, .int .u64 sq, .int .u64 ak, .slice ao m cap]] w fun e w' => e = .returned (.tuple #[.agg #[.int .u32 0, .int .i64 0, .int .i64 0], .bool false]) ∧ Grow w w' := by
  unfold maxLen at hc
  have HMh := Lib.hid HM
  clear HM
  have HG : Hid (Grow w ((w.alloc (.cells #[.int .i64 kd, .int .i64 nd, .int .u64 mb, .int .u64 mt, .int .u64 tb, .int .u64 tt, .int .u64 sq, .int .u64 ak, .slice ao m cap] 28)).alloc (.cells #[.int .u32 0, .int .i64 0, .int .i64 0] 52))) := ((Grow.refl w).alloc _).alloc _
  have HF : Hid (∀ x, Grow ((w.alloc (.cells #[.int .i64 kd, .int .i64 nd, .int .u64 mb, .int .u64 mt, .int .u64 tb, .int .u64 tt, .int .u64 sq, .int .u64 ak, .slice ao m cap] 28)).alloc (.cells #[.int .u32 0, .int .i64 0, .int .i64 0] 52)) x → _) := fun x hx => twoF _ _ hx
  go_enter Try.func24, Try.ntmps24
  go_wp2_with fail
  refine (HMh.out _ HG.out).mono ?_
  rintro e w1 ⟨rfl, hg⟩
  obtain ⟨x1, x2⟩ := HF.out _ hg
  obtain ⟨⟨f0, f1, f2, f3, f4⟩, f5, f6, f7, f8⟩ := blkF x1
  have hG1 := HG.out.trans hg
  have HG1 := Lib.hid hG1
  obtain ⟨⟨c0, c1, c2⟩, z0, z1, z2⟩ := blk3 x2
  clear hg hG1 x1 x2
  go_wp2_with fail
  refine bodyPost_ret (v := .tuple #[.agg #[.int .u32 0, .int .i64 0, .int .i64 0], .bool false]) (by simp [results, Try.results24, go_sem, c0, c1, c2]) rfl ⟨rfl, ?_⟩
  exact grow3 HG1.out (Nat.le_succ _) _ _ _

set_option maxRecDepth 20000 in
set_option maxHeartbeats 1000000 in
theorem rupd_N1 {kd nd mb mt tb tt sq ak : Int} {ao : Option Addr} {m cap : Nat} (w : World) (hm : m ≤ cap) (hc : cap ≤ maxLen) (HM : ∀ x, Grow w x → Calls Try.prog 11 #[.agg #[.int .i64 kd, .int .i64 nd, .int .u64 mb, .int .u64 mt, .int .u64 tb, .int .u64 tt, .int .u64 sq, .int .u64 ak, .slice ao m cap]] x fun e w' => e = .returned (.bool true) ∧ Grow x w') (hkd : (kd != 2) = true) :
    Calls Try.prog 24 #[.agg #[.int .i64 kd, .int .i64 nd, .int .u64 mb, .int .u64 mt, .int .u64 tb, .int .u64 tt, .int .u64 sq, .int .u64 ak, .slice ao m cap]] w fun e w' => e = .returned (.tuple #[.agg #[.int .u32 0, .int .i64 0, .int .i64 0], .bool false]) ∧ Grow w w' := by
  unfold maxLen at hc
  have HMh := Lib.hid HM
  clear HM
  have HG : Hid (Grow w ((w.alloc (.cells #[.int .i64 kd, .int .i64 nd, .int .u64 mb, .int .u64 mt, .int .u64 tb, .int .u64 tt, .int .u64 sq, .int .u64 ak, .slice ao m cap] 28)).alloc (.cells #[.int .u32 0, .int .i64 0, .int .i64 0] 52))) := ((Grow.refl w).alloc _).alloc _
  have HF : Hid (∀ x, Grow ((w.alloc (.cells #[.int .i64 kd, .int .i64 nd, .int .u64 mb, .int .u64 mt, .int .u64 tb, .int .u64 tt, .int .u64 sq, .int .u64 ak, .slice ao m cap] 28)).alloc (.cells #[.int .u32 0, .int .i64 0, .int .i64 0] 52)) x → _) := fun x hx => twoF _ _ hx
  go_enter Try.func24, Try.ntmps24
  go_wp2_with fail
  refine (HMh.out _ HG.out).mono ?_
  rintro e w1 ⟨rfl, hg⟩
  obtain ⟨x1, x2⟩ := HF.out _ hg
  obtain ⟨⟨f0, f1, f2, f3, f4⟩, f5, f6, f7, f8⟩ := blkF x1
  have hG1 := HG.out.trans hg
  have HG1 := Lib.hid hG1
  obtain ⟨⟨c0, c1, c2⟩, z0, z1, z2⟩ := blk3 x2
  clear hg hG1 x1 x2
  go_wp2_with fail
  refine bodyPost_ret (v := .tuple #[.agg #[.int .u32 0, .int .i64 0, .int .i64 0], .bool false]) (by simp [results, Try.results24, go_sem, c0, c1, c2]) rfl ⟨rfl, ?_⟩
  exact grow3 HG1.out (Nat.le_succ _) _ _ _

set_option maxRecDepth 20000 in
set_option maxHeartbeats 1000000 in
theorem rupd_Y {nd mb mt tb tt sq ak a l d : Int} {u : Bool} {ao : Option Addr} {m cap : Nat} (w : World) (hm : m ≤ cap) (hc : cap ≤ maxLen) (HM : ∀ x, Grow w x → Calls Try.prog 11 #[.agg #[.int .i64 2, .int .i64 nd, .int .u64 mb, .int .u64 mt, .int .u64 tb, .int .u64 tt, .int .u64 sq, .int .u64 ak, .slice ao m cap]] x fun e w' => e = .returned (.bool true) ∧ Grow x w') (HU : ∀ x, Grow w x → Calls Try.prog 30 #[.slice ao m cap] x fun e w' => e = .returned (.tuple #[.agg #[.int .u32 a, .int .i64 l, .int .i64 d], .bool u]) ∧ Grow x w') :
    Calls Try.prog 24 #[.agg #[.int .i64 2, .int .i64 nd, .int .u64 mb, .int .u64 mt, .int .u64 tb, .int .u64 tt, .int .u64 sq, .int .u64 ak, .slice ao m cap]] w fun e w' => e = .returned (.tuple #[.agg #[.int .u32 a, .int .i64 l, .int .i64 d], .bool u]) ∧ Grow w w' := by
  unfold maxLen at hc
  have HMh := Lib.hid HM
  clear HM
  have HUh := Lib.hid HU
  clear HU
  have HG : Hid (Grow w ((w.alloc (.cells #[.int .i64 2, .int .i64 nd, .int .u64 mb, .int .u64 mt, .int .u64 tb, .int .u64 tt, .int .u64 sq, .int .u64 ak, .slice ao m cap] 28)).alloc (.cells #[.int .u32 0, .int .i64 0, .int .i64 0] 52))) := ((Grow.refl w).alloc _).alloc _
  have HF : Hid (∀ x, Grow ((w.alloc (.cells #[.int .i64 2, .int .i64 nd, .int .u64 mb, .int .u64 mt, .int .u64 tb, .int .u64 tt, .int .u64 sq, .int .u64 ak, .slice ao m cap] 28)).alloc (.cells #[.int .u32 0, .int .i64 0, .int .i64 0] 52)) x → _) := fun x hx => twoF _ _ hx
  go_enter Try.func24, Try.ntmps24
  go_wp2_with fail
  refine (HMh.out _ HG.out).mono ?_
  rintro e w1 ⟨rfl, hg⟩
  obtain ⟨x1, x2⟩ := HF.out _ hg
  obtain ⟨⟨f0, f1, f2, f3, f4⟩, f5, f6, f7, f8⟩ := blkF x1
  have hG1 := HG.out.trans hg
  have HG1 := Lib.hid hG1
  have X2 := Lib.hid x2
  clear hg hG1 x1 x2
  go_wp2_with fail
  refine (HUh.out _ HG1.out).mono ?_
  rintro e w2 ⟨rfl, hg⟩
  have x2 := (hg.block _ (lt_of_block X2.out)).trans X2.out
  obtain ⟨⟨c0, c1, c2⟩, z0, z1, z2⟩ := blk3 x2
  have HG2 := Lib.hid (HG1.out.trans hg)
  clear hg x2 f0 f1 f2 f3 f4 f5 f6 f7 f8
  go_wp2_with fail
  refine bodyPost_ret (v := .tuple #[.agg #[.int .u32 a, .int .i64 l, .int .i64 d], .bool u]) (by simp [results, Try.results24, go_sem, c0, c1, c2]) rfl ⟨rfl, ?_⟩
  exact grow3 HG2.out (Nat.le_succ _) _ _ _

theorem fupd_any (f : Fr) (w : World) (hok : FrOk w f) : Calls Try.prog 22 #[f.val] w (SomeUpdF f w) := by
  have HM : ∀ x, Grow w x → Calls Try.prog 10 #[f.val] x fun e w' => e = .returned (.bool (mayF f)) ∧ Grow x w' := fun x hx => may_any f x (hok.mono hx)
  have HU : ∀ x, Grow w x → Calls Try.prog 29 #[f.v] x fun e w' => e = .returned (.tuple #[updV f.zs, .bool (isU f.zs)]) ∧ Grow x w' := fun x hx => update_any f.v f.zs x (hok.body.mono hx)
  have key : ∀ (V : Value) (b : Bool), updR f = V → updOk f = b → (Calls Try.prog 22 #[f.val] w fun e w' => e = .returned (.tuple #[V, .bool b]) ∧ Grow w w') → Calls Try.prog 22 #[f.val] w (SomeUpdF f w) := fun V b hV hb h => by
    unfold SomeUpdF; rw [hV, hb]; exact h
  have dR : updR f = if (mayF f && (f.kind == 2)) = true then updV f.zs else zeroU := rfl
  have dO : updOk f = (mayF f && (f.kind == 2) && isU f.zs) := rfl
  obtain ⟨ca, cl, cd, hu⟩ := updCells3 f.zs
  have hV : updV f.zs = .agg #[.int .u32 ca, .int .i64 cl, .int .i64 cd] := by unfold updV; rw [hu]
  clear hu
  rw [hV] at HU dR
  have hnil : f.zs.length = 0 → isU f.zs = false ∧ updV f.zs = zeroU := fun h => by
    have e : f.zs = [] := List.eq_nil_of_length_eq_zero h
    rw [e]
    exact ⟨rfl, rfl⟩
  rw [hV] at hnil
  obtain ⟨ao, cap, hv, hlc, hcm⟩ := hok.body.shape
  clear hok hV
  generalize mayF f = M at *
  generalize updR f = R at *
  generalize updOk f = O at *
  obtain ⟨k, n, mb, mt, tb, tt, sq, ak, v, zs⟩ := f
  dsimp only at *
  subst hv
  simp only [Fr.val, Fr.cells, frCells] at *
  generalize isU zs = iu at *
  generalize zs.length = m at *
  cases M
  · exact key _ false (by rw [dR]; rfl) (by rw [dO]; rfl) (fupd_N0 w hlc hcm HM)
  by_cases k2 : k = 2
  · subst k2
    by_cases hz : m = 0
    · obtain ⟨i1, i2⟩ := hnil hz
      exact key _ false (by rw [dR, i2]; rfl) (by rw [dO, i1]; rfl) (fupd_N2 w hlc hcm HM (leq0 hz))
    · exact key _ iu (by rw [dR]; rfl) (by rw [dO]; simp) (fupd_Y w hlc hcm HM HU (lne0 hz))
  · have e : (k == 2) = false := by simpa using k2
    have hk : (k != 2) = true := by simpa using k2
    exact key _ false (by rw [dR, e]; rfl) (by rw [dO, e]; rfl) (fupd_N1 w hlc hcm HM hk)

theorem rupd_any (f : Fr) (w : World) (hok : FrOk w f) : Calls Try.prog 24 #[f.val] w (SomeUpdF f w) := by
  have HM : ∀ x, Grow w x → Calls Try.prog 11 #[f.val] x fun e w' => e = .returned (.bool (mayF f)) ∧ Grow x w' := fun x hx => rmay_any f x (hok.mono hx)
  have HU : ∀ x, Grow w x → Calls Try.prog 30 #[f.v] x fun e w' => e = .returned (.tuple #[updV f.zs, .bool (isU f.zs)]) ∧ Grow x w' := fun x hx => rof_any f.v f.zs x (hok.body.mono hx)
  have key : ∀ (V : Value) (b : Bool), updR f = V → updOk f = b → (Calls Try.prog 24 #[f.val] w fun e w' => e = .returned (.tuple #[V, .bool b]) ∧ Grow w w') → Calls Try.prog 24 #[f.val] w (SomeUpdF f w) := fun V b hV hb h => by
    unfold SomeUpdF; rw [hV, hb]; exact h
  have dR : updR f = if (mayF f && (f.kind == 2)) = true then updV f.zs else zeroU := rfl
  have dO : updOk f = (mayF f && (f.kind == 2) && isU f.zs) := rfl
  obtain ⟨ca, cl, cd, hu⟩ := updCells3 f.zs
  have hV : updV f.zs = .agg #[.int .u32 ca, .int .i64 cl, .int .i64 cd] := by unfold updV; rw [hu]
  clear hu
  rw [hV] at HU dR
  have hnil : f.zs.length = 0 → isU f.zs = false ∧ updV f.zs = zeroU := fun h => by
    have e : f.zs = [] := List.eq_nil_of_length_eq_zero h
    rw [e]
    exact ⟨rfl, rfl⟩
  rw [hV] at hnil
  obtain ⟨ao, cap, hv, hlc, hcm⟩ := hok.body.shape
  clear hok hV
  generalize mayF f = M at *
  generalize updR f = R at *
  generalize updOk f = O at *
  obtain ⟨k, n, mb, mt, tb, tt, sq, ak, v, zs⟩ := f
  dsimp only at *
  subst hv
  simp only [Fr.val, Fr.cells, frCells] at *
  generalize isU zs = iu at *
  generalize zs.length = m at *
  cases M
  · exact key _ false (by rw [dR]; rfl) (by rw [dO]; rfl) (rupd_N0 w hlc hcm HM)
  by_cases k2 : k = 2
  · subst k2
    exact key _ iu (by rw [dR]; rfl) (by rw [dO]; simp) (rupd_Y w hlc hcm HM HU)
  · have e : (k == 2) = false := by simpa using k2
    have hk : (k != 2) = true := by simpa using k2
    exact key _ false (by rw [dR, e]; rfl) (by rw [dO, e]; rfl) (rupd_N1 w hlc hcm HM hk)
end Go.Proofs.Ytiphhjipgjpepaa
