/- Which frames may be, as the document has it. -/
import Derived.Test.YtiphhjipgjpepaaFrTag
set_option linter.unusedVariables false
set_option linter.unusedSimpArgs false
namespace Go.Proofs.Ytiphhjipgjpepaa
open Go.RowKit

set_option maxRecDepth 20000 in
set_option maxHeartbeats 1000000 in
theorem rmay_S1 {ak k mb mt n sq tb tt : Int} {ao : Option Addr} {m cap : Nat} (w : World) (hm : m ≤ cap) (hc : cap ≤ maxLen) (n1 : n < 1) :
    Calls Try.prog 11 #[.agg #[.int .i64 k, .int .i64 n, .int .u64 mb, .int .u64 mt, .int .u64 tb, .int .u64 tt, .int .u64 sq, .int .u64 ak, .slice ao m cap]] w fun e w' => e = .returned (.bool false) ∧ Grow w w' := by
  unfold maxLen at hc
  go_enter Try.func11, Try.ntmps11
  go_wp2_with fail
  go_ret
  exact ⟨by first | rfl | (simp; done) | (simp; omega), by repeat (first | exact Grow.refl _ | refine Grow.alloc ?_ _)⟩

set_option maxRecDepth 20000 in
set_option maxHeartbeats 1000000 in
theorem rmay_S2 {ak k mb mt n sq tb tt : Int} {ao : Option Addr} {m cap : Nat} (w : World) (hm : m ≤ cap) (hc : cap ≤ maxLen) (n1 : 1 ≤ n) (n2 : 16 < n) :
    Calls Try.prog 11 #[.agg #[.int .i64 k, .int .i64 n, .int .u64 mb, .int .u64 mt, .int .u64 tb, .int .u64 tt, .int .u64 sq, .int .u64 ak, .slice ao m cap]] w fun e w' => e = .returned (.bool false) ∧ Grow w w' := by
  unfold maxLen at hc
  go_enter Try.func11, Try.ntmps11
  go_wp2_with fail
  go_ret
  exact ⟨by first | rfl | (simp; done) | (simp; omega), by repeat (first | exact Grow.refl _ | refine Grow.alloc ?_ _)⟩

set_option maxRecDepth 20000 in
set_option maxHeartbeats 1000000 in
theorem rmay_S3 {ak k mb mt n sq tb tt : Int} {ao : Option Addr} {m cap : Nat} (w : World) (hm : m ≤ cap) (hc : cap ≤ maxLen) (t1 : tagOk mb mt = false) (u1 : 0 ≤ mb) (u2 : 0 ≤ mt) (n1 : 1 ≤ n) (n2 : n ≤ 16) :
    Calls Try.prog 11 #[.agg #[.int .i64 k, .int .i64 n, .int .u64 mb, .int .u64 mt, .int .u64 tb, .int .u64 tt, .int .u64 sq, .int .u64 ak, .slice ao m cap]] w fun e w' => e = .returned (.bool false) ∧ Grow w w' := by
  unfold maxLen at hc
  have HT1 := Lib.hid (fun x => rmaytag_any mb mt x u1 u2)
  rw [t1] at HT1
  clear t1
  go_enter Try.func11, Try.ntmps11
  go_wp2_with fail
  refine (HT1.out _).mono ?_
  rintro e w' ⟨rfl, rfl⟩
  go_wp2_with fail
  go_ret
  exact ⟨by first | rfl | (simp; done) | (simp; omega), by repeat (first | exact Grow.refl _ | refine Grow.alloc ?_ _)⟩

set_option maxRecDepth 20000 in
set_option maxHeartbeats 1000000 in
theorem rmay_S4 {ak k mb mt n sq tb tt : Int} {ao : Option Addr} {m cap : Nat} (w : World) (hm : m ≤ cap) (hc : cap ≤ maxLen) (t1 : tagOk mb mt = true) (t2 : tagOk tb tt = false) (u1 : 0 ≤ mb) (u2 : 0 ≤ mt) (u3 : 0 ≤ tb) (u4 : 0 ≤ tt) (n1 : 1 ≤ n) (n2 : n ≤ 16) :
    Calls Try.prog 11 #[.agg #[.int .i64 k, .int .i64 n, .int .u64 mb, .int .u64 mt, .int .u64 tb, .int .u64 tt, .int .u64 sq, .int .u64 ak, .slice ao m cap]] w fun e w' => e = .returned (.bool false) ∧ Grow w w' := by
  unfold maxLen at hc
  have HT1 := Lib.hid (fun x => rmaytag_any mb mt x u1 u2)
  rw [t1] at HT1
  have HT2 := Lib.hid (fun x => rmaytag_any tb tt x u3 u4)
  rw [t2] at HT2
  clear t1 t2
  go_enter Try.func11, Try.ntmps11
  go_wp2_with fail
  refine (HT1.out _).mono ?_
  rintro e w' ⟨rfl, rfl⟩
  go_wp2_with fail
  refine (HT2.out _).mono ?_
  rintro e w' ⟨rfl, rfl⟩
  go_wp2_with fail
  go_ret
  exact ⟨by first | rfl | (simp; done) | (simp; omega), by repeat (first | exact Grow.refl _ | refine Grow.alloc ?_ _)⟩

set_option maxRecDepth 20000 in
set_option maxHeartbeats 1000000 in
theorem rmay_S5 {ak k mb mt n sq tb tt : Int} {ao : Option Addr} {m cap : Nat} (w : World) (hm : m ≤ cap) (hc : cap ≤ maxLen) (t1 : tagOk mb mt = true) (t2 : tagOk tb tt = true) (u1 : 0 ≤ mb) (u2 : 0 ≤ mt) (u3 : 0 ≤ tb) (u4 : 0 ≤ tt) (n1 : 1 ≤ n) (n2 : n ≤ 16) (q1 : noneT mb mt = true) :
    Calls Try.prog 11 #[.agg #[.int .i64 k, .int .i64 n, .int .u64 mb, .int .u64 mt, .int .u64 tb, .int .u64 tt, .int .u64 sq, .int .u64 ak, .slice ao m cap]] w fun e w' => e = .returned (.bool false) ∧ Grow w w' := by
  unfold maxLen at hc
  have HT1 := Lib.hid (fun x => rmaytag_any mb mt x u1 u2)
  rw [t1] at HT1
  have HT2 := Lib.hid (fun x => rmaytag_any tb tt x u3 u4)
  rw [t2] at HT2
  have HQ1 := Lib.hid (fun x => none_any mb mt x)
  rw [q1] at HQ1
  clear t1 t2 q1
  go_enter Try.func11, Try.ntmps11
  go_wp2_with fail
  refine (HT1.out _).mono ?_
  rintro e w' ⟨rfl, rfl⟩
  go_wp2_with fail
  refine (HT2.out _).mono ?_
  rintro e w' ⟨rfl, rfl⟩
  go_wp2_with fail
  refine (HQ1.out _).mono ?_
  rintro e w' ⟨rfl, rfl⟩
  go_wp2_with fail
  go_ret
  exact ⟨by first | rfl | (simp; done) | (simp; omega), by repeat (first | exact Grow.refl _ | refine Grow.alloc ?_ _)⟩

set_option maxRecDepth 20000 in
set_option maxHeartbeats 1000000 in
theorem rmay_H1 {ak mb mt n sq tb tt : Int} {ao : Option Addr} {m cap : Nat} {u : Bool} (w : World) (hm : m ≤ cap) (hc : cap ≤ maxLen) (t1 : tagOk mb mt = true) (t2 : tagOk tb tt = true) (u1 : 0 ≤ mb) (u2 : 0 ≤ mt) (u3 : 0 ≤ tb) (u4 : 0 ≤ tt) (n1 : 1 ≤ n) (n2 : n ≤ 16) (s1 : (sq == 0) = false) (q1 : noneT mb mt = false) (HU : ∀ x, Grow w x → Calls Try.prog 30 #[.slice ao m cap] x fun e w' => (∃ a l d : Int, e = .returned (.tuple #[.agg #[.int .u32 a, .int .i64 l, .int .i64 d], .bool u])) ∧ Grow x w') :
    Calls Try.prog 11 #[.agg #[.int .i64 1, .int .i64 n, .int .u64 mb, .int .u64 mt, .int .u64 tb, .int .u64 tt, .int .u64 sq, .int .u64 ak, .slice ao m cap]] w fun e w' => e = .returned (.bool false) ∧ Grow w w' := by
  unfold maxLen at hc
  have HUh := Lib.hid HU
  clear HU
  have HF : Hid (∀ x, Grow (w.alloc (.cells #[.int .i64 1, .int .i64 n, .int .u64 mb, .int .u64 mt, .int .u64 tb, .int .u64 tt, .int .u64 sq, .int .u64 ak, .slice ao m cap] 28)) x → x.heap[w.heap.size]? = some (.cells #[.int .i64 1, .int .i64 n, .int .u64 mb, .int .u64 mt, .int .u64 tb, .int .u64 tt, .int .u64 sq, .int .u64 ak, .slice ao m cap] 28 (0, 0))) := fun x hx => (hx.block _ (lt_of_block (heap_alloc_new w _))).trans (heap_alloc_new w _)
  have HT1 := Lib.hid (fun x => rmaytag_any mb mt x u1 u2)
  rw [t1] at HT1
  have HT2 := Lib.hid (fun x => rmaytag_any tb tt x u3 u4)
  rw [t2] at HT2
  have HQ1 := Lib.hid (fun x => none_any mb mt x)
  rw [q1] at HQ1
  clear t1 t2 q1
  go_enter Try.func11, Try.ntmps11
  go_wp2_with fail
  refine (HT1.out _).mono ?_
  rintro e w' ⟨rfl, rfl⟩
  go_wp2_with fail
  refine (HT2.out _).mono ?_
  rintro e w' ⟨rfl, rfl⟩
  go_wp2_with fail
  refine (HQ1.out _).mono ?_
  rintro e w' ⟨rfl, rfl⟩
  go_wp2_with fail
  refine (HUh.out _ (by repeat (first | exact Grow.refl _ | refine Grow.alloc ?_ _))).mono ?_
  rintro e w1 ⟨⟨ua, ul, ud, rfl⟩, hg⟩
  have hgx : Grow (w.alloc (.cells #[.int .i64 1, .int .i64 n, .int .u64 mb, .int .u64 mt, .int .u64 tb, .int .u64 tt, .int .u64 sq, .int .u64 ak, .slice ao m cap] 28)) w1 := Grow.trans (by repeat (first | exact Grow.refl _ | refine Grow.alloc ?_ _)) hg
  have hgy := hgx.alloc (.cells #[.int .u32 ua, .int .i64 ul, .int .i64 ud] 52)
  obtain ⟨⟨f0, f1, f2, f3, f4⟩, f5, f6, f7, f8⟩ := blkF (HF.out _ hgy)
  have HGY : Hid (Grow w _) := Grow.trans (by repeat (first | exact Grow.refl _ | refine Grow.alloc ?_ _)) hgy
  clear hgx hgy hg
  go_wp2_with fail
  go_ret
  exact ⟨by first | rfl | (simp; done) | (simp; omega), by repeat (first | exact HGY.out | refine Grow.alloc ?_ _)⟩

set_option maxRecDepth 20000 in
set_option maxHeartbeats 1000000 in
theorem rmay_H2 {ak mb mt n tb tt : Int} {ao : Option Addr} {m cap : Nat} {u : Bool} (w : World) (hm : m ≤ cap) (hc : cap ≤ maxLen) (t1 : tagOk mb mt = true) (t2 : tagOk tb tt = true) (u1 : 0 ≤ mb) (u2 : 0 ≤ mt) (u3 : 0 ≤ tb) (u4 : 0 ≤ tt) (n1 : 1 ≤ n) (n2 : n ≤ 16) (s2 : (ak == 0) = false) (q1 : noneT mb mt = false) (HU : ∀ x, Grow w x → Calls Try.prog 30 #[.slice ao m cap] x fun e w' => (∃ a l d : Int, e = .returned (.tuple #[.agg #[.int .u32 a, .int .i64 l, .int .i64 d], .bool u])) ∧ Grow x w') :
    Calls Try.prog 11 #[.agg #[.int .i64 1, .int .i64 n, .int .u64 mb, .int .u64 mt, .int .u64 tb, .int .u64 tt, .int .u64 0, .int .u64 ak, .slice ao m cap]] w fun e w' => e = .returned (.bool false) ∧ Grow w w' := by
  unfold maxLen at hc
  have HUh := Lib.hid HU
  clear HU
  have HF : Hid (∀ x, Grow (w.alloc (.cells #[.int .i64 1, .int .i64 n, .int .u64 mb, .int .u64 mt, .int .u64 tb, .int .u64 tt, .int .u64 0, .int .u64 ak, .slice ao m cap] 28)) x → x.heap[w.heap.size]? = some (.cells #[.int .i64 1, .int .i64 n, .int .u64 mb, .int .u64 mt, .int .u64 tb, .int .u64 tt, .int .u64 0, .int .u64 ak, .slice ao m cap] 28 (0, 0))) := fun x hx => (hx.block _ (lt_of_block (heap_alloc_new w _))).trans (heap_alloc_new w _)
  have HT1 := Lib.hid (fun x => rmaytag_any mb mt x u1 u2)
  rw [t1] at HT1
  have HT2 := Lib.hid (fun x => rmaytag_any tb tt x u3 u4)
  rw [t2] at HT2
  have HQ1 := Lib.hid (fun x => none_any mb mt x)
  rw [q1] at HQ1
  clear t1 t2 q1
  go_enter Try.func11, Try.ntmps11
  go_wp2_with fail
  refine (HT1.out _).mono ?_
  rintro e w' ⟨rfl, rfl⟩
  go_wp2_with fail
  refine (HT2.out _).mono ?_
  rintro e w' ⟨rfl, rfl⟩
  go_wp2_with fail
  refine (HQ1.out _).mono ?_
  rintro e w' ⟨rfl, rfl⟩
  go_wp2_with fail
  refine (HUh.out _ (by repeat (first | exact Grow.refl _ | refine Grow.alloc ?_ _))).mono ?_
  rintro e w1 ⟨⟨ua, ul, ud, rfl⟩, hg⟩
  have hgx : Grow (w.alloc (.cells #[.int .i64 1, .int .i64 n, .int .u64 mb, .int .u64 mt, .int .u64 tb, .int .u64 tt, .int .u64 0, .int .u64 ak, .slice ao m cap] 28)) w1 := Grow.trans (by repeat (first | exact Grow.refl _ | refine Grow.alloc ?_ _)) hg
  have hgy := hgx.alloc (.cells #[.int .u32 ua, .int .i64 ul, .int .i64 ud] 52)
  obtain ⟨⟨f0, f1, f2, f3, f4⟩, f5, f6, f7, f8⟩ := blkF (HF.out _ hgy)
  have HGY : Hid (Grow w _) := Grow.trans (by repeat (first | exact Grow.refl _ | refine Grow.alloc ?_ _)) hgy
  clear hgx hgy hg
  go_wp2_with fail
  go_ret
  exact ⟨by first | rfl | (simp; done) | (simp; omega), by repeat (first | exact HGY.out | refine Grow.alloc ?_ _)⟩

set_option maxRecDepth 20000 in
set_option maxHeartbeats 1000000 in
theorem rmay_H3 {mb mt n tb tt : Int} {ao : Option Addr} {m cap : Nat} {u : Bool} (w : World) (hm : m ≤ cap) (hc : cap ≤ maxLen) (t1 : tagOk mb mt = true) (t2 : tagOk tb tt = true) (u1 : 0 ≤ mb) (u2 : 0 ≤ mt) (u3 : 0 ≤ tb) (u4 : 0 ≤ tt) (n1 : 1 ≤ n) (n2 : n ≤ 16) (s3 : ((m : Int) == 0) = false) (q1 : noneT mb mt = false) (HU : ∀ x, Grow w x → Calls Try.prog 30 #[.slice ao m cap] x fun e w' => (∃ a l d : Int, e = .returned (.tuple #[.agg #[.int .u32 a, .int .i64 l, .int .i64 d], .bool u])) ∧ Grow x w') :
    Calls Try.prog 11 #[.agg #[.int .i64 1, .int .i64 n, .int .u64 mb, .int .u64 mt, .int .u64 tb, .int .u64 tt, .int .u64 0, .int .u64 0, .slice ao m cap]] w fun e w' => e = .returned (.bool false) ∧ Grow w w' := by
  unfold maxLen at hc
  have HUh := Lib.hid HU
  clear HU
  have HF : Hid (∀ x, Grow (w.alloc (.cells #[.int .i64 1, .int .i64 n, .int .u64 mb, .int .u64 mt, .int .u64 tb, .int .u64 tt, .int .u64 0, .int .u64 0, .slice ao m cap] 28)) x → x.heap[w.heap.size]? = some (.cells #[.int .i64 1, .int .i64 n, .int .u64 mb, .int .u64 mt, .int .u64 tb, .int .u64 tt, .int .u64 0, .int .u64 0, .slice ao m cap] 28 (0, 0))) := fun x hx => (hx.block _ (lt_of_block (heap_alloc_new w _))).trans (heap_alloc_new w _)
  have HT1 := Lib.hid (fun x => rmaytag_any mb mt x u1 u2)
  rw [t1] at HT1
  have HT2 := Lib.hid (fun x => rmaytag_any tb tt x u3 u4)
  rw [t2] at HT2
  have HQ1 := Lib.hid (fun x => none_any mb mt x)
  rw [q1] at HQ1
  clear t1 t2 q1
  go_enter Try.func11, Try.ntmps11
  go_wp2_with fail
  refine (HT1.out _).mono ?_
  rintro e w' ⟨rfl, rfl⟩
  go_wp2_with fail
  refine (HT2.out _).mono ?_
  rintro e w' ⟨rfl, rfl⟩
  go_wp2_with fail
  refine (HQ1.out _).mono ?_
  rintro e w' ⟨rfl, rfl⟩
  go_wp2_with fail
  refine (HUh.out _ (by repeat (first | exact Grow.refl _ | refine Grow.alloc ?_ _))).mono ?_
  rintro e w1 ⟨⟨ua, ul, ud, rfl⟩, hg⟩
  have hgx : Grow (w.alloc (.cells #[.int .i64 1, .int .i64 n, .int .u64 mb, .int .u64 mt, .int .u64 tb, .int .u64 tt, .int .u64 0, .int .u64 0, .slice ao m cap] 28)) w1 := Grow.trans (by repeat (first | exact Grow.refl _ | refine Grow.alloc ?_ _)) hg
  have hgy := hgx.alloc (.cells #[.int .u32 ua, .int .i64 ul, .int .i64 ud] 52)
  obtain ⟨⟨f0, f1, f2, f3, f4⟩, f5, f6, f7, f8⟩ := blkF (HF.out _ hgy)
  have HGY : Hid (Grow w _) := Grow.trans (by repeat (first | exact Grow.refl _ | refine Grow.alloc ?_ _)) hgy
  clear hgx hgy hg
  go_wp2_with fail
  go_ret
  exact ⟨by first | rfl | (simp; done) | (simp; omega), by repeat (first | exact HGY.out | refine Grow.alloc ?_ _)⟩

set_option maxRecDepth 20000 in
set_option maxHeartbeats 1000000 in
theorem rmay_H4 {mb mt n tb tt : Int} {ao : Option Addr} {m cap : Nat} {u : Bool} (w : World) (hm : m ≤ cap) (hc : cap ≤ maxLen) (t1 : tagOk mb mt = true) (t2 : tagOk tb tt = true) (u1 : 0 ≤ mb) (u2 : 0 ≤ mt) (u3 : 0 ≤ tb) (u4 : 0 ≤ tt) (n1 : 1 ≤ n) (n2 : n ≤ 16) (s3 : ((m : Int) == 0) = true) (q1 : noneT mb mt = false) (HU : ∀ x, Grow w x → Calls Try.prog 30 #[.slice ao m cap] x fun e w' => (∃ a l d : Int, e = .returned (.tuple #[.agg #[.int .u32 a, .int .i64 l, .int .i64 d], .bool u])) ∧ Grow x w') :
    Calls Try.prog 11 #[.agg #[.int .i64 1, .int .i64 n, .int .u64 mb, .int .u64 mt, .int .u64 tb, .int .u64 tt, .int .u64 0, .int .u64 0, .slice ao m cap]] w fun e w' => e = .returned (.bool true) ∧ Grow w w' := by
  unfold maxLen at hc
  have HUh := Lib.hid HU
  clear HU
  have HF : Hid (∀ x, Grow (w.alloc (.cells #[.int .i64 1, .int .i64 n, .int .u64 mb, .int .u64 mt, .int .u64 tb, .int .u64 tt, .int .u64 0, .int .u64 0, .slice ao m cap] 28)) x → x.heap[w.heap.size]? = some (.cells #[.int .i64 1, .int .i64 n, .int .u64 mb, .int .u64 mt, .int .u64 tb, .int .u64 tt, .int .u64 0, .int .u64 0, .slice ao m cap] 28 (0, 0))) := fun x hx => (hx.block _ (lt_of_block (heap_alloc_new w _))).trans (heap_alloc_new w _)
  have HT1 := Lib.hid (fun x => rmaytag_any mb mt x u1 u2)
  rw [t1] at HT1
  have HT2 := Lib.hid (fun x => rmaytag_any tb tt x u3 u4)
  rw [t2] at HT2
  have HQ1 := Lib.hid (fun x => none_any mb mt x)
  rw [q1] at HQ1
  clear t1 t2 q1
  go_enter Try.func11, Try.ntmps11
  go_wp2_with fail
  refine (HT1.out _).mono ?_
  rintro e w' ⟨rfl, rfl⟩
  go_wp2_with fail
  refine (HT2.out _).mono ?_
  rintro e w' ⟨rfl, rfl⟩
  go_wp2_with fail
  refine (HQ1.out _).mono ?_
  rintro e w' ⟨rfl, rfl⟩
  go_wp2_with fail
  refine (HUh.out _ (by repeat (first | exact Grow.refl _ | refine Grow.alloc ?_ _))).mono ?_
  rintro e w1 ⟨⟨ua, ul, ud, rfl⟩, hg⟩
  have hgx : Grow (w.alloc (.cells #[.int .i64 1, .int .i64 n, .int .u64 mb, .int .u64 mt, .int .u64 tb, .int .u64 tt, .int .u64 0, .int .u64 0, .slice ao m cap] 28)) w1 := Grow.trans (by repeat (first | exact Grow.refl _ | refine Grow.alloc ?_ _)) hg
  have hgy := hgx.alloc (.cells #[.int .u32 ua, .int .i64 ul, .int .i64 ud] 52)
  obtain ⟨⟨f0, f1, f2, f3, f4⟩, f5, f6, f7, f8⟩ := blkF (HF.out _ hgy)
  have HGY : Hid (Grow w _) := Grow.trans (by repeat (first | exact Grow.refl _ | refine Grow.alloc ?_ _)) hgy
  clear hgx hgy hg
  go_wp2_with fail
  go_ret
  exact ⟨by first | rfl | (simp; done) | (simp; omega), by repeat (first | exact HGY.out | refine Grow.alloc ?_ _)⟩

set_option maxRecDepth 20000 in
set_option maxHeartbeats 1000000 in
theorem rmay_D5 {ak mb mt n sq tb tt : Int} {ao : Option Addr} {m cap : Nat} {u : Bool} (w : World) (hm : m ≤ cap) (hc : cap ≤ maxLen) (t1 : tagOk mb mt = true) (t2 : tagOk tb tt = true) (u1 : 0 ≤ mb) (u2 : 0 ≤ mt) (u3 : 0 ≤ tb) (u4 : 0 ≤ tt) (n1 : 1 ≤ n) (n2 : n ≤ 16) (q1 : noneT mb mt = false) (q2 : noneT tb tt = true) (HU : ∀ x, Grow w x → Calls Try.prog 30 #[.slice ao m cap] x fun e w' => (∃ a l d : Int, e = .returned (.tuple #[.agg #[.int .u32 a, .int .i64 l, .int .i64 d], .bool u])) ∧ Grow x w') :
    Calls Try.prog 11 #[.agg #[.int .i64 3, .int .i64 n, .int .u64 mb, .int .u64 mt, .int .u64 tb, .int .u64 tt, .int .u64 sq, .int .u64 ak, .slice ao m cap]] w fun e w' => e = .returned (.bool false) ∧ Grow w w' := by
  unfold maxLen at hc
  have HUh := Lib.hid HU
  clear HU
  have HF : Hid (∀ x, Grow (w.alloc (.cells #[.int .i64 3, .int .i64 n, .int .u64 mb, .int .u64 mt, .int .u64 tb, .int .u64 tt, .int .u64 sq, .int .u64 ak, .slice ao m cap] 28)) x → x.heap[w.heap.size]? = some (.cells #[.int .i64 3, .int .i64 n, .int .u64 mb, .int .u64 mt, .int .u64 tb, .int .u64 tt, .int .u64 sq, .int .u64 ak, .slice ao m cap] 28 (0, 0))) := fun x hx => (hx.block _ (lt_of_block (heap_alloc_new w _))).trans (heap_alloc_new w _)
  have HT1 := Lib.hid (fun x => rmaytag_any mb mt x u1 u2)
  rw [t1] at HT1
  have HT2 := Lib.hid (fun x => rmaytag_any tb tt x u3 u4)
  rw [t2] at HT2
  have HQ1 := Lib.hid (fun x => none_any mb mt x)
  rw [q1] at HQ1
  have HQ2 := Lib.hid (fun x => none_any tb tt x)
  rw [q2] at HQ2
  clear t1 t2 q1 q2
  go_enter Try.func11, Try.ntmps11
  go_wp2_with fail
  refine (HT1.out _).mono ?_
  rintro e w' ⟨rfl, rfl⟩
  go_wp2_with fail
  refine (HT2.out _).mono ?_
  rintro e w' ⟨rfl, rfl⟩
  go_wp2_with fail
  refine (HQ1.out _).mono ?_
  rintro e w' ⟨rfl, rfl⟩
  go_wp2_with fail
  refine (HUh.out _ (by repeat (first | exact Grow.refl _ | refine Grow.alloc ?_ _))).mono ?_
  rintro e w1 ⟨⟨ua, ul, ud, rfl⟩, hg⟩
  have hgx : Grow (w.alloc (.cells #[.int .i64 3, .int .i64 n, .int .u64 mb, .int .u64 mt, .int .u64 tb, .int .u64 tt, .int .u64 sq, .int .u64 ak, .slice ao m cap] 28)) w1 := Grow.trans (by repeat (first | exact Grow.refl _ | refine Grow.alloc ?_ _)) hg
  have hgy := hgx.alloc (.cells #[.int .u32 ua, .int .i64 ul, .int .i64 ud] 52)
  obtain ⟨⟨f0, f1, f2, f3, f4⟩, f5, f6, f7, f8⟩ := blkF (HF.out _ hgy)
  have HGY : Hid (Grow w _) := Grow.trans (by repeat (first | exact Grow.refl _ | refine Grow.alloc ?_ _)) hgy
  have hgz := hgy.alloc (.cells #[.int .u64 tb, .int .u64 tt] 25)
  clear hgx hg
  go_wp2_with fail
  refine (HQ2.out _).mono ?_
  rintro e w' ⟨rfl, rfl⟩
  obtain ⟨⟨g0, g1, g2, g3, g4⟩, g5, g6, g7, g8⟩ := blkF (HF.out _ hgz)
  clear hgy hgz f0 f1 f2 f3 f4 f5 f6 f7 f8
  go_wp2_with fail
  go_ret
  exact ⟨by first | rfl | (simp; done) | (simp; omega), by repeat (first | exact HGY.out | refine Grow.alloc ?_ _)⟩

set_option maxRecDepth 20000 in
set_option maxHeartbeats 1000000 in
theorem rmay_D1 {ak mb mt n sq tb tt : Int} {ao : Option Addr} {m cap : Nat} {u : Bool} (w : World) (hm : m ≤ cap) (hc : cap ≤ maxLen) (t1 : tagOk mb mt = true) (t2 : tagOk tb tt = true) (u1 : 0 ≤ mb) (u2 : 0 ≤ mt) (u3 : 0 ≤ tb) (u4 : 0 ≤ tt) (n1 : 1 ≤ n) (n2 : n ≤ 16) (s1 : (sq == 0) = false) (q1 : noneT mb mt = false) (q2 : noneT tb tt = false) (HU : ∀ x, Grow w x → Calls Try.prog 30 #[.slice ao m cap] x fun e w' => (∃ a l d : Int, e = .returned (.tuple #[.agg #[.int .u32 a, .int .i64 l, .int .i64 d], .bool u])) ∧ Grow x w') :
    Calls Try.prog 11 #[.agg #[.int .i64 3, .int .i64 n, .int .u64 mb, .int .u64 mt, .int .u64 tb, .int .u64 tt, .int .u64 sq, .int .u64 ak, .slice ao m cap]] w fun e w' => e = .returned (.bool false) ∧ Grow w w' := by
  unfold maxLen at hc
  have HUh := Lib.hid HU
  clear HU
  have HF : Hid (∀ x, Grow (w.alloc (.cells #[.int .i64 3, .int .i64 n, .int .u64 mb, .int .u64 mt, .int .u64 tb, .int .u64 tt, .int .u64 sq, .int .u64 ak, .slice ao m cap] 28)) x → x.heap[w.heap.size]? = some (.cells #[.int .i64 3, .int .i64 n, .int .u64 mb, .int .u64 mt, .int .u64 tb, .int .u64 tt, .int .u64 sq, .int .u64 ak, .slice ao m cap] 28 (0, 0))) := fun x hx => (hx.block _ (lt_of_block (heap_alloc_new w _))).trans (heap_alloc_new w _)
  have HT1 := Lib.hid (fun x => rmaytag_any mb mt x u1 u2)
  rw [t1] at HT1
  have HT2 := Lib.hid (fun x => rmaytag_any tb tt x u3 u4)
  rw [t2] at HT2
  have HQ1 := Lib.hid (fun x => none_any mb mt x)
  rw [q1] at HQ1
  have HQ2 := Lib.hid (fun x => none_any tb tt x)
  rw [q2] at HQ2
  clear t1 t2 q1 q2
  go_enter Try.func11, Try.ntmps11
  go_wp2_with fail
  refine (HT1.out _).mono ?_
  rintro e w' ⟨rfl, rfl⟩
  go_wp2_with fail
  refine (HT2.out _).mono ?_
  rintro e w' ⟨rfl, rfl⟩
  go_wp2_with fail
  refine (HQ1.out _).mono ?_
  rintro e w' ⟨rfl, rfl⟩
  go_wp2_with fail
  refine (HUh.out _ (by repeat (first | exact Grow.refl _ | refine Grow.alloc ?_ _))).mono ?_
  rintro e w1 ⟨⟨ua, ul, ud, rfl⟩, hg⟩
  have hgx : Grow (w.alloc (.cells #[.int .i64 3, .int .i64 n, .int .u64 mb, .int .u64 mt, .int .u64 tb, .int .u64 tt, .int .u64 sq, .int .u64 ak, .slice ao m cap] 28)) w1 := Grow.trans (by repeat (first | exact Grow.refl _ | refine Grow.alloc ?_ _)) hg
  have hgy := hgx.alloc (.cells #[.int .u32 ua, .int .i64 ul, .int .i64 ud] 52)
  obtain ⟨⟨f0, f1, f2, f3, f4⟩, f5, f6, f7, f8⟩ := blkF (HF.out _ hgy)
  have HGY : Hid (Grow w _) := Grow.trans (by repeat (first | exact Grow.refl _ | refine Grow.alloc ?_ _)) hgy
  have hgz := hgy.alloc (.cells #[.int .u64 tb, .int .u64 tt] 25)
  clear hgx hg
  go_wp2_with fail
  refine (HQ2.out _).mono ?_
  rintro e w' ⟨rfl, rfl⟩
  obtain ⟨⟨g0, g1, g2, g3, g4⟩, g5, g6, g7, g8⟩ := blkF (HF.out _ hgz)
  clear hgy hgz f0 f1 f2 f3 f4 f5 f6 f7 f8
  go_wp2_with fail
  go_ret
  exact ⟨by first | rfl | (simp; done) | (simp; omega), by repeat (first | exact HGY.out | refine Grow.alloc ?_ _)⟩

set_option maxRecDepth 20000 in
set_option maxHeartbeats 1000000 in
theorem rmay_D2 {ak mb mt n tb tt : Int} {ao : Option Addr} {m cap : Nat} {u : Bool} (w : World) (hm : m ≤ cap) (hc : cap ≤ maxLen) (t1 : tagOk mb mt = true) (t2 : tagOk tb tt = true) (u1 : 0 ≤ mb) (u2 : 0 ≤ mt) (u3 : 0 ≤ tb) (u4 : 0 ≤ tt) (n1 : 1 ≤ n) (n2 : n ≤ 16) (s2 : (ak == 0) = false) (q1 : noneT mb mt = false) (q2 : noneT tb tt = false) (HU : ∀ x, Grow w x → Calls Try.prog 30 #[.slice ao m cap] x fun e w' => (∃ a l d : Int, e = .returned (.tuple #[.agg #[.int .u32 a, .int .i64 l, .int .i64 d], .bool u])) ∧ Grow x w') :
    Calls Try.prog 11 #[.agg #[.int .i64 3, .int .i64 n, .int .u64 mb, .int .u64 mt, .int .u64 tb, .int .u64 tt, .int .u64 0, .int .u64 ak, .slice ao m cap]] w fun e w' => e = .returned (.bool false) ∧ Grow w w' := by
  unfold maxLen at hc
  have HUh := Lib.hid HU
  clear HU
  have HF : Hid (∀ x, Grow (w.alloc (.cells #[.int .i64 3, .int .i64 n, .int .u64 mb, .int .u64 mt, .int .u64 tb, .int .u64 tt, .int .u64 0, .int .u64 ak, .slice ao m cap] 28)) x → x.heap[w.heap.size]? = some (.cells #[.int .i64 3, .int .i64 n, .int .u64 mb, .int .u64 mt, .int .u64 tb, .int .u64 tt, .int .u64 0, .int .u64 ak, .slice ao m cap] 28 (0, 0))) := fun x hx => (hx.block _ (lt_of_block (heap_alloc_new w _))).trans (heap_alloc_new w _)
  have HT1 := Lib.hid (fun x => rmaytag_any mb mt x u1 u2)
  rw [t1] at HT1
  have HT2 := Lib.hid (fun x => rmaytag_any tb tt x u3 u4)
  rw [t2] at HT2
  have HQ1 := Lib.hid (fun x => none_any mb mt x)
  rw [q1] at HQ1
  have HQ2 := Lib.hid (fun x => none_any tb tt x)
  rw [q2] at HQ2
  clear t1 t2 q1 q2
  go_enter Try.func11, Try.ntmps11
  go_wp2_with fail
  refine (HT1.out _).mono ?_
  rintro e w' ⟨rfl, rfl⟩
  go_wp2_with fail
  refine (HT2.out _).mono ?_
  rintro e w' ⟨rfl, rfl⟩
  go_wp2_with fail
  refine (HQ1.out _).mono ?_
  rintro e w' ⟨rfl, rfl⟩
  go_wp2_with fail
  refine (HUh.out _ (by repeat (first | exact Grow.refl _ | refine Grow.alloc ?_ _))).mono ?_
  rintro e w1 ⟨⟨ua, ul, ud, rfl⟩, hg⟩
  have hgx : Grow (w.alloc (.cells #[.int .i64 3, .int .i64 n, .int .u64 mb, .int .u64 mt, .int .u64 tb, .int .u64 tt, .int .u64 0, .int .u64 ak, .slice ao m cap] 28)) w1 := Grow.trans (by repeat (first | exact Grow.refl _ | refine Grow.alloc ?_ _)) hg
  have hgy := hgx.alloc (.cells #[.int .u32 ua, .int .i64 ul, .int .i64 ud] 52)
  obtain ⟨⟨f0, f1, f2, f3, f4⟩, f5, f6, f7, f8⟩ := blkF (HF.out _ hgy)
  have HGY : Hid (Grow w _) := Grow.trans (by repeat (first | exact Grow.refl _ | refine Grow.alloc ?_ _)) hgy
  have hgz := hgy.alloc (.cells #[.int .u64 tb, .int .u64 tt] 25)
  clear hgx hg
  go_wp2_with fail
  refine (HQ2.out _).mono ?_
  rintro e w' ⟨rfl, rfl⟩
  obtain ⟨⟨g0, g1, g2, g3, g4⟩, g5, g6, g7, g8⟩ := blkF (HF.out _ hgz)
  clear hgy hgz f0 f1 f2 f3 f4 f5 f6 f7 f8
  go_wp2_with fail
  go_ret
  exact ⟨by first | rfl | (simp; done) | (simp; omega), by repeat (first | exact HGY.out | refine Grow.alloc ?_ _)⟩

set_option maxRecDepth 20000 in
set_option maxHeartbeats 1000000 in
theorem rmay_D3 {mb mt n tb tt : Int} {ao : Option Addr} {m cap : Nat} {u : Bool} (w : World) (hm : m ≤ cap) (hc : cap ≤ maxLen) (t1 : tagOk mb mt = true) (t2 : tagOk tb tt = true) (u1 : 0 ≤ mb) (u2 : 0 ≤ mt) (u3 : 0 ≤ tb) (u4 : 0 ≤ tt) (n1 : 1 ≤ n) (n2 : n ≤ 16) (s3 : (m : Int) ≤ 0) (s4 : decide ((0 : Int) < (m : Int)) = false) (q1 : noneT mb mt = false) (q2 : noneT tb tt = false) (HU : ∀ x, Grow w x → Calls Try.prog 30 #[.slice ao m cap] x fun e w' => (∃ a l d : Int, e = .returned (.tuple #[.agg #[.int .u32 a, .int .i64 l, .int .i64 d], .bool u])) ∧ Grow x w') :
    Calls Try.prog 11 #[.agg #[.int .i64 3, .int .i64 n, .int .u64 mb, .int .u64 mt, .int .u64 tb, .int .u64 tt, .int .u64 0, .int .u64 0, .slice ao m cap]] w fun e w' => e = .returned (.bool false) ∧ Grow w w' := by
  unfold maxLen at hc
  have HUh := Lib.hid HU
  clear HU
  have HF : Hid (∀ x, Grow (w.alloc (.cells #[.int .i64 3, .int .i64 n, .int .u64 mb, .int .u64 mt, .int .u64 tb, .int .u64 tt, .int .u64 0, .int .u64 0, .slice ao m cap] 28)) x → x.heap[w.heap.size]? = some (.cells #[.int .i64 3, .int .i64 n, .int .u64 mb, .int .u64 mt, .int .u64 tb, .int .u64 tt, .int .u64 0, .int .u64 0, .slice ao m cap] 28 (0, 0))) := fun x hx => (hx.block _ (lt_of_block (heap_alloc_new w _))).trans (heap_alloc_new w _)
  have HT1 := Lib.hid (fun x => rmaytag_any mb mt x u1 u2)
  rw [t1] at HT1
  have HT2 := Lib.hid (fun x => rmaytag_any tb tt x u3 u4)
  rw [t2] at HT2
  have HQ1 := Lib.hid (fun x => none_any mb mt x)
  rw [q1] at HQ1
  have HQ2 := Lib.hid (fun x => none_any tb tt x)
  rw [q2] at HQ2
  clear t1 t2 q1 q2
  go_enter Try.func11, Try.ntmps11
  go_wp2_with fail
  refine (HT1.out _).mono ?_
  rintro e w' ⟨rfl, rfl⟩
  go_wp2_with fail
  refine (HT2.out _).mono ?_
  rintro e w' ⟨rfl, rfl⟩
  go_wp2_with fail
  refine (HQ1.out _).mono ?_
  rintro e w' ⟨rfl, rfl⟩
  go_wp2_with fail
  refine (HUh.out _ (by repeat (first | exact Grow.refl _ | refine Grow.alloc ?_ _))).mono ?_
  rintro e w1 ⟨⟨ua, ul, ud, rfl⟩, hg⟩
  have hgx : Grow (w.alloc (.cells #[.int .i64 3, .int .i64 n, .int .u64 mb, .int .u64 mt, .int .u64 tb, .int .u64 tt, .int .u64 0, .int .u64 0, .slice ao m cap] 28)) w1 := Grow.trans (by repeat (first | exact Grow.refl _ | refine Grow.alloc ?_ _)) hg
  have hgy := hgx.alloc (.cells #[.int .u32 ua, .int .i64 ul, .int .i64 ud] 52)
  obtain ⟨⟨f0, f1, f2, f3, f4⟩, f5, f6, f7, f8⟩ := blkF (HF.out _ hgy)
  have HGY : Hid (Grow w _) := Grow.trans (by repeat (first | exact Grow.refl _ | refine Grow.alloc ?_ _)) hgy
  have hgz := hgy.alloc (.cells #[.int .u64 tb, .int .u64 tt] 25)
  clear hgx hg
  go_wp2_with fail
  refine (HQ2.out _).mono ?_
  rintro e w' ⟨rfl, rfl⟩
  obtain ⟨⟨g0, g1, g2, g3, g4⟩, g5, g6, g7, g8⟩ := blkF (HF.out _ hgz)
  clear hgy hgz f0 f1 f2 f3 f4 f5 f6 f7 f8
  go_wp2_with fail
  go_ret
  exact ⟨by first | rfl | (simp; done) | (simp; omega), by repeat (first | exact HGY.out | refine Grow.alloc ?_ _)⟩

set_option maxRecDepth 20000 in
set_option maxHeartbeats 1000000 in
theorem rmay_D4 {mb mt n tb tt : Int} {ao : Option Addr} {m cap : Nat} {u : Bool} (w : World) (hm : m ≤ cap) (hc : cap ≤ maxLen) (t1 : tagOk mb mt = true) (t2 : tagOk tb tt = true) (u1 : 0 ≤ mb) (u2 : 0 ≤ mt) (u3 : 0 ≤ tb) (u4 : 0 ≤ tt) (n1 : 1 ≤ n) (n2 : n ≤ 16) (s3 : (0 : Int) < (m : Int)) (s4 : (2048 : Int) < (m : Int)) (s5 : decide ((m : Int) ≤ 2048) = false) (q1 : noneT mb mt = false) (q2 : noneT tb tt = false) (HU : ∀ x, Grow w x → Calls Try.prog 30 #[.slice ao m cap] x fun e w' => (∃ a l d : Int, e = .returned (.tuple #[.agg #[.int .u32 a, .int .i64 l, .int .i64 d], .bool u])) ∧ Grow x w') :
    Calls Try.prog 11 #[.agg #[.int .i64 3, .int .i64 n, .int .u64 mb, .int .u64 mt, .int .u64 tb, .int .u64 tt, .int .u64 0, .int .u64 0, .slice ao m cap]] w fun e w' => e = .returned (.bool false) ∧ Grow w w' := by
  unfold maxLen at hc
  have HUh := Lib.hid HU
  clear HU
  have HF : Hid (∀ x, Grow (w.alloc (.cells #[.int .i64 3, .int .i64 n, .int .u64 mb, .int .u64 mt, .int .u64 tb, .int .u64 tt, .int .u64 0, .int .u64 0, .slice ao m cap] 28)) x → x.heap[w.heap.size]? = some (.cells #[.int .i64 3, .int .i64 n, .int .u64 mb, .int .u64 mt, .int .u64 tb, .int .u64 tt, .int .u64 0, .int .u64 0, .slice ao m cap] 28 (0, 0))) := fun x hx => (hx.block _ (lt_of_block (heap_alloc_new w _))).trans (heap_alloc_new w _)
  have HT1 := Lib.hid (fun x => rmaytag_any mb mt x u1 u2)
  rw [t1] at HT1
  have HT2 := Lib.hid (fun x => rmaytag_any tb tt x u3 u4)
  rw [t2] at HT2
  have HQ1 := Lib.hid (fun x => none_any mb mt x)
  rw [q1] at HQ1
  have HQ2 := Lib.hid (fun x => none_any tb tt x)
  rw [q2] at HQ2
  clear t1 t2 q1 q2
  go_enter Try.func11, Try.ntmps11
  go_wp2_with fail
  refine (HT1.out _).mono ?_
  rintro e w' ⟨rfl, rfl⟩
  go_wp2_with fail
  refine (HT2.out _).mono ?_
  rintro e w' ⟨rfl, rfl⟩
  go_wp2_with fail
  refine (HQ1.out _).mono ?_
  rintro e w' ⟨rfl, rfl⟩
  go_wp2_with fail
  refine (HUh.out _ (by repeat (first | exact Grow.refl _ | refine Grow.alloc ?_ _))).mono ?_
  rintro e w1 ⟨⟨ua, ul, ud, rfl⟩, hg⟩
  have hgx : Grow (w.alloc (.cells #[.int .i64 3, .int .i64 n, .int .u64 mb, .int .u64 mt, .int .u64 tb, .int .u64 tt, .int .u64 0, .int .u64 0, .slice ao m cap] 28)) w1 := Grow.trans (by repeat (first | exact Grow.refl _ | refine Grow.alloc ?_ _)) hg
  have hgy := hgx.alloc (.cells #[.int .u32 ua, .int .i64 ul, .int .i64 ud] 52)
  obtain ⟨⟨f0, f1, f2, f3, f4⟩, f5, f6, f7, f8⟩ := blkF (HF.out _ hgy)
  have HGY : Hid (Grow w _) := Grow.trans (by repeat (first | exact Grow.refl _ | refine Grow.alloc ?_ _)) hgy
  have hgz := hgy.alloc (.cells #[.int .u64 tb, .int .u64 tt] 25)
  clear hgx hg
  go_wp2_with fail
  refine (HQ2.out _).mono ?_
  rintro e w' ⟨rfl, rfl⟩
  obtain ⟨⟨g0, g1, g2, g3, g4⟩, g5, g6, g7, g8⟩ := blkF (HF.out _ hgz)
  clear hgy hgz f0 f1 f2 f3 f4 f5 f6 f7 f8
  go_wp2_with fail
  go_ret
  exact ⟨by first | rfl | (simp; done) | (simp; omega), by repeat (first | exact HGY.out | refine Grow.alloc ?_ _)⟩

set_option maxRecDepth 20000 in
set_option maxHeartbeats 1000000 in
theorem rmay_D6 {mb mt n tb tt : Int} {ao : Option Addr} {m cap : Nat} {u : Bool} (w : World) (hm : m ≤ cap) (hc : cap ≤ maxLen) (t1 : tagOk mb mt = true) (t2 : tagOk tb tt = true) (u1 : 0 ≤ mb) (u2 : 0 ≤ mt) (u3 : 0 ≤ tb) (u4 : 0 ≤ tt) (n1 : 1 ≤ n) (n2 : n ≤ 16) (s3 : (0 : Int) < (m : Int)) (s4 : (m : Int) ≤ 2048) (q1 : noneT mb mt = false) (q2 : noneT tb tt = false) (HU : ∀ x, Grow w x → Calls Try.prog 30 #[.slice ao m cap] x fun e w' => (∃ a l d : Int, e = .returned (.tuple #[.agg #[.int .u32 a, .int .i64 l, .int .i64 d], .bool u])) ∧ Grow x w') :
    Calls Try.prog 11 #[.agg #[.int .i64 3, .int .i64 n, .int .u64 mb, .int .u64 mt, .int .u64 tb, .int .u64 tt, .int .u64 0, .int .u64 0, .slice ao m cap]] w fun e w' => e = .returned (.bool true) ∧ Grow w w' := by
  unfold maxLen at hc
  have HUh := Lib.hid HU
  clear HU
  have HF : Hid (∀ x, Grow (w.alloc (.cells #[.int .i64 3, .int .i64 n, .int .u64 mb, .int .u64 mt, .int .u64 tb, .int .u64 tt, .int .u64 0, .int .u64 0, .slice ao m cap] 28)) x → x.heap[w.heap.size]? = some (.cells #[.int .i64 3, .int .i64 n, .int .u64 mb, .int .u64 mt, .int .u64 tb, .int .u64 tt, .int .u64 0, .int .u64 0, .slice ao m cap] 28 (0, 0))) := fun x hx => (hx.block _ (lt_of_block (heap_alloc_new w _))).trans (heap_alloc_new w _)
  have HT1 := Lib.hid (fun x => rmaytag_any mb mt x u1 u2)
  rw [t1] at HT1
  have HT2 := Lib.hid (fun x => rmaytag_any tb tt x u3 u4)
  rw [t2] at HT2
  have HQ1 := Lib.hid (fun x => none_any mb mt x)
  rw [q1] at HQ1
  have HQ2 := Lib.hid (fun x => none_any tb tt x)
  rw [q2] at HQ2
  clear t1 t2 q1 q2
  go_enter Try.func11, Try.ntmps11
  go_wp2_with fail
  refine (HT1.out _).mono ?_
  rintro e w' ⟨rfl, rfl⟩
  go_wp2_with fail
  refine (HT2.out _).mono ?_
  rintro e w' ⟨rfl, rfl⟩
  go_wp2_with fail
  refine (HQ1.out _).mono ?_
  rintro e w' ⟨rfl, rfl⟩
  go_wp2_with fail
  refine (HUh.out _ (by repeat (first | exact Grow.refl _ | refine Grow.alloc ?_ _))).mono ?_
  rintro e w1 ⟨⟨ua, ul, ud, rfl⟩, hg⟩
  have hgx : Grow (w.alloc (.cells #[.int .i64 3, .int .i64 n, .int .u64 mb, .int .u64 mt, .int .u64 tb, .int .u64 tt, .int .u64 0, .int .u64 0, .slice ao m cap] 28)) w1 := Grow.trans (by repeat (first | exact Grow.refl _ | refine Grow.alloc ?_ _)) hg
  have hgy := hgx.alloc (.cells #[.int .u32 ua, .int .i64 ul, .int .i64 ud] 52)
  obtain ⟨⟨f0, f1, f2, f3, f4⟩, f5, f6, f7, f8⟩ := blkF (HF.out _ hgy)
  have HGY : Hid (Grow w _) := Grow.trans (by repeat (first | exact Grow.refl _ | refine Grow.alloc ?_ _)) hgy
  have hgz := hgy.alloc (.cells #[.int .u64 tb, .int .u64 tt] 25)
  clear hgx hg
  go_wp2_with fail
  refine (HQ2.out _).mono ?_
  rintro e w' ⟨rfl, rfl⟩
  obtain ⟨⟨g0, g1, g2, g3, g4⟩, g5, g6, g7, g8⟩ := blkF (HF.out _ hgz)
  clear hgy hgz f0 f1 f2 f3 f4 f5 f6 f7 f8
  go_wp2_with fail
  go_ret
  exact ⟨by first | rfl | (simp; done) | (simp; omega), by repeat (first | exact HGY.out | refine Grow.alloc ?_ _)⟩

set_option maxRecDepth 20000 in
set_option maxHeartbeats 1000000 in
theorem rmay_C1 {ak mb mt n sq tb tt : Int} {ao : Option Addr} {m cap : Nat} {u : Bool} (w : World) (hm : m ≤ cap) (hc : cap ≤ maxLen) (t1 : tagOk mb mt = true) (t2 : tagOk tb tt = true) (u1 : 0 ≤ mb) (u2 : 0 ≤ mt) (u3 : 0 ≤ tb) (u4 : 0 ≤ tt) (n1 : 1 ≤ n) (n2 : n ≤ 16) (q1 : noneT mb mt = false) (q2 : noneT tb tt = true) (HU : ∀ x, Grow w x → Calls Try.prog 30 #[.slice ao m cap] x fun e w' => (∃ a l d : Int, e = .returned (.tuple #[.agg #[.int .u32 a, .int .i64 l, .int .i64 d], .bool u])) ∧ Grow x w') :
    Calls Try.prog 11 #[.agg #[.int .i64 2, .int .i64 n, .int .u64 mb, .int .u64 mt, .int .u64 tb, .int .u64 tt, .int .u64 sq, .int .u64 ak, .slice ao m cap]] w fun e w' => e = .returned (.bool false) ∧ Grow w w' := by
  unfold maxLen at hc
  have HUh := Lib.hid HU
  clear HU
  have HF : Hid (∀ x, Grow (w.alloc (.cells #[.int .i64 2, .int .i64 n, .int .u64 mb, .int .u64 mt, .int .u64 tb, .int .u64 tt, .int .u64 sq, .int .u64 ak, .slice ao m cap] 28)) x → x.heap[w.heap.size]? = some (.cells #[.int .i64 2, .int .i64 n, .int .u64 mb, .int .u64 mt, .int .u64 tb, .int .u64 tt, .int .u64 sq, .int .u64 ak, .slice ao m cap] 28 (0, 0))) := fun x hx => (hx.block _ (lt_of_block (heap_alloc_new w _))).trans (heap_alloc_new w _)
  have HT1 := Lib.hid (fun x => rmaytag_any mb mt x u1 u2)
  rw [t1] at HT1
  have HT2 := Lib.hid (fun x => rmaytag_any tb tt x u3 u4)
  rw [t2] at HT2
  have HQ1 := Lib.hid (fun x => none_any mb mt x)
  rw [q1] at HQ1
  have HQ2 := Lib.hid (fun x => none_any tb tt x)
  rw [q2] at HQ2
  clear t1 t2 q1 q2
  go_enter Try.func11, Try.ntmps11
  go_wp2_with fail
  refine (HT1.out _).mono ?_
  rintro e w' ⟨rfl, rfl⟩
  go_wp2_with fail
  refine (HT2.out _).mono ?_
  rintro e w' ⟨rfl, rfl⟩
  go_wp2_with fail
  refine (HQ1.out _).mono ?_
  rintro e w' ⟨rfl, rfl⟩
  go_wp2_with fail
  refine (HUh.out _ (by repeat (first | exact Grow.refl _ | refine Grow.alloc ?_ _))).mono ?_
  rintro e w1 ⟨⟨ua, ul, ud, rfl⟩, hg⟩
  have hgx : Grow (w.alloc (.cells #[.int .i64 2, .int .i64 n, .int .u64 mb, .int .u64 mt, .int .u64 tb, .int .u64 tt, .int .u64 sq, .int .u64 ak, .slice ao m cap] 28)) w1 := Grow.trans (by repeat (first | exact Grow.refl _ | refine Grow.alloc ?_ _)) hg
  have hgy := hgx.alloc (.cells #[.int .u32 ua, .int .i64 ul, .int .i64 ud] 52)
  obtain ⟨⟨f0, f1, f2, f3, f4⟩, f5, f6, f7, f8⟩ := blkF (HF.out _ hgy)
  have HGY : Hid (Grow w _) := Grow.trans (by repeat (first | exact Grow.refl _ | refine Grow.alloc ?_ _)) hgy
  have hgz := hgy.alloc (.cells #[.int .u64 tb, .int .u64 tt] 25)
  clear hgx hg
  go_wp2_with fail
  refine (HQ2.out _).mono ?_
  rintro e w' ⟨rfl, rfl⟩
  obtain ⟨⟨g0, g1, g2, g3, g4⟩, g5, g6, g7, g8⟩ := blkF (HF.out _ hgz)
  clear hgy hgz f0 f1 f2 f3 f4 f5 f6 f7 f8
  go_wp2_with fail
  go_ret
  exact ⟨by first | rfl | (simp; done) | (simp; omega), by repeat (first | exact HGY.out | refine Grow.alloc ?_ _)⟩

set_option maxRecDepth 20000 in
set_option maxHeartbeats 1000000 in
theorem rmay_C2 {ak mb mt n sq tb tt : Int} {ao : Option Addr} {m cap : Nat} (w : World) (hm : m ≤ cap) (hc : cap ≤ maxLen) (t1 : tagOk mb mt = true) (t2 : tagOk tb tt = true) (u1 : 0 ≤ mb) (u2 : 0 ≤ mt) (u3 : 0 ≤ tb) (u4 : 0 ≤ tt) (n1 : 1 ≤ n) (n2 : n ≤ 16) (s1 : (sq == 0) = false) (s1' : (sq != 0) = true) (q1 : noneT mb mt = false) (q2 : noneT tb tt = false) (HU : ∀ x, Grow w x → Calls Try.prog 30 #[.slice ao m cap] x fun e w' => (∃ a l d : Int, e = .returned (.tuple #[.agg #[.int .u32 a, .int .i64 l, .int .i64 d], .bool true])) ∧ Grow x w') :
    Calls Try.prog 11 #[.agg #[.int .i64 2, .int .i64 n, .int .u64 mb, .int .u64 mt, .int .u64 tb, .int .u64 tt, .int .u64 sq, .int .u64 ak, .slice ao m cap]] w fun e w' => e = .returned (.bool true) ∧ Grow w w' := by
  unfold maxLen at hc
  have HUh := Lib.hid HU
  clear HU
  have HF : Hid (∀ x, Grow (w.alloc (.cells #[.int .i64 2, .int .i64 n, .int .u64 mb, .int .u64 mt, .int .u64 tb, .int .u64 tt, .int .u64 sq, .int .u64 ak, .slice ao m cap] 28)) x → x.heap[w.heap.size]? = some (.cells #[.int .i64 2, .int .i64 n, .int .u64 mb, .int .u64 mt, .int .u64 tb, .int .u64 tt, .int .u64 sq, .int .u64 ak, .slice ao m cap] 28 (0, 0))) := fun x hx => (hx.block _ (lt_of_block (heap_alloc_new w _))).trans (heap_alloc_new w _)
  have HT1 := Lib.hid (fun x => rmaytag_any mb mt x u1 u2)
  rw [t1] at HT1
  have HT2 := Lib.hid (fun x => rmaytag_any tb tt x u3 u4)
  rw [t2] at HT2
  have HQ1 := Lib.hid (fun x => none_any mb mt x)
  rw [q1] at HQ1
  have HQ2 := Lib.hid (fun x => none_any tb tt x)
  rw [q2] at HQ2
  clear t1 t2 q1 q2
  go_enter Try.func11, Try.ntmps11
  go_wp2_with fail
  refine (HT1.out _).mono ?_
  rintro e w' ⟨rfl, rfl⟩
  go_wp2_with fail
  refine (HT2.out _).mono ?_
  rintro e w' ⟨rfl, rfl⟩
  go_wp2_with fail
  refine (HQ1.out _).mono ?_
  rintro e w' ⟨rfl, rfl⟩
  go_wp2_with fail
  refine (HUh.out _ (by repeat (first | exact Grow.refl _ | refine Grow.alloc ?_ _))).mono ?_
  rintro e w1 ⟨⟨ua, ul, ud, rfl⟩, hg⟩
  have hgx : Grow (w.alloc (.cells #[.int .i64 2, .int .i64 n, .int .u64 mb, .int .u64 mt, .int .u64 tb, .int .u64 tt, .int .u64 sq, .int .u64 ak, .slice ao m cap] 28)) w1 := Grow.trans (by repeat (first | exact Grow.refl _ | refine Grow.alloc ?_ _)) hg
  have hgy := hgx.alloc (.cells #[.int .u32 ua, .int .i64 ul, .int .i64 ud] 52)
  obtain ⟨⟨f0, f1, f2, f3, f4⟩, f5, f6, f7, f8⟩ := blkF (HF.out _ hgy)
  have HGY : Hid (Grow w _) := Grow.trans (by repeat (first | exact Grow.refl _ | refine Grow.alloc ?_ _)) hgy
  have hgz := hgy.alloc (.cells #[.int .u64 tb, .int .u64 tt] 25)
  clear hgx hg
  go_wp2_with fail
  refine (HQ2.out _).mono ?_
  rintro e w' ⟨rfl, rfl⟩
  obtain ⟨⟨g0, g1, g2, g3, g4⟩, g5, g6, g7, g8⟩ := blkF (HF.out _ hgz)
  clear hgy hgz f0 f1 f2 f3 f4 f5 f6 f7 f8
  go_wp2_with fail
  go_ret
  exact ⟨by first | rfl | (simp; done) | (simp; omega), by repeat (first | exact HGY.out | refine Grow.alloc ?_ _)⟩

set_option maxRecDepth 20000 in
set_option maxHeartbeats 1000000 in
theorem rmay_C3 {ak mb mt n tb tt : Int} {ao : Option Addr} {m cap : Nat} (w : World) (hm : m ≤ cap) (hc : cap ≤ maxLen) (t1 : tagOk mb mt = true) (t2 : tagOk tb tt = true) (u1 : 0 ≤ mb) (u2 : 0 ≤ mt) (u3 : 0 ≤ tb) (u4 : 0 ≤ tt) (n1 : 1 ≤ n) (n2 : n ≤ 16) (s3 : ((m : Int) == 0) = false) (q1 : noneT mb mt = false) (q2 : noneT tb tt = false) (HU : ∀ x, Grow w x → Calls Try.prog 30 #[.slice ao m cap] x fun e w' => (∃ a l d : Int, e = .returned (.tuple #[.agg #[.int .u32 a, .int .i64 l, .int .i64 d], .bool true])) ∧ Grow x w') :
    Calls Try.prog 11 #[.agg #[.int .i64 2, .int .i64 n, .int .u64 mb, .int .u64 mt, .int .u64 tb, .int .u64 tt, .int .u64 0, .int .u64 ak, .slice ao m cap]] w fun e w' => e = .returned (.bool false) ∧ Grow w w' := by
  unfold maxLen at hc
  have HUh := Lib.hid HU
  clear HU
  have HF : Hid (∀ x, Grow (w.alloc (.cells #[.int .i64 2, .int .i64 n, .int .u64 mb, .int .u64 mt, .int .u64 tb, .int .u64 tt, .int .u64 0, .int .u64 ak, .slice ao m cap] 28)) x → x.heap[w.heap.size]? = some (.cells #[.int .i64 2, .int .i64 n, .int .u64 mb, .int .u64 mt, .int .u64 tb, .int .u64 tt, .int .u64 0, .int .u64 ak, .slice ao m cap] 28 (0, 0))) := fun x hx => (hx.block _ (lt_of_block (heap_alloc_new w _))).trans (heap_alloc_new w _)
  have HT1 := Lib.hid (fun x => rmaytag_any mb mt x u1 u2)
  rw [t1] at HT1
  have HT2 := Lib.hid (fun x => rmaytag_any tb tt x u3 u4)
  rw [t2] at HT2
  have HQ1 := Lib.hid (fun x => none_any mb mt x)
  rw [q1] at HQ1
  have HQ2 := Lib.hid (fun x => none_any tb tt x)
  rw [q2] at HQ2
  clear t1 t2 q1 q2
  go_enter Try.func11, Try.ntmps11
  go_wp2_with fail
  refine (HT1.out _).mono ?_
  rintro e w' ⟨rfl, rfl⟩
  go_wp2_with fail
  refine (HT2.out _).mono ?_
  rintro e w' ⟨rfl, rfl⟩
  go_wp2_with fail
  refine (HQ1.out _).mono ?_
  rintro e w' ⟨rfl, rfl⟩
  go_wp2_with fail
  refine (HUh.out _ (by repeat (first | exact Grow.refl _ | refine Grow.alloc ?_ _))).mono ?_
  rintro e w1 ⟨⟨ua, ul, ud, rfl⟩, hg⟩
  have hgx : Grow (w.alloc (.cells #[.int .i64 2, .int .i64 n, .int .u64 mb, .int .u64 mt, .int .u64 tb, .int .u64 tt, .int .u64 0, .int .u64 ak, .slice ao m cap] 28)) w1 := Grow.trans (by repeat (first | exact Grow.refl _ | refine Grow.alloc ?_ _)) hg
  have hgy := hgx.alloc (.cells #[.int .u32 ua, .int .i64 ul, .int .i64 ud] 52)
  obtain ⟨⟨f0, f1, f2, f3, f4⟩, f5, f6, f7, f8⟩ := blkF (HF.out _ hgy)
  have HGY : Hid (Grow w _) := Grow.trans (by repeat (first | exact Grow.refl _ | refine Grow.alloc ?_ _)) hgy
  have hgz := hgy.alloc (.cells #[.int .u64 tb, .int .u64 tt] 25)
  clear hgx hg
  go_wp2_with fail
  refine (HQ2.out _).mono ?_
  rintro e w' ⟨rfl, rfl⟩
  obtain ⟨⟨g0, g1, g2, g3, g4⟩, g5, g6, g7, g8⟩ := blkF (HF.out _ hgz)
  clear hgy hgz f0 f1 f2 f3 f4 f5 f6 f7 f8
  go_wp2_with fail
  go_ret
  exact ⟨by first | rfl | (simp; done) | (simp; omega), by repeat (first | exact HGY.out | refine Grow.alloc ?_ _)⟩

set_option maxRecDepth 20000 in
set_option maxHeartbeats 1000000 in
theorem rmay_C4 {ak mb mt n tb tt : Int} {ao : Option Addr} {m cap : Nat} (w : World) (hm : m ≤ cap) (hc : cap ≤ maxLen) (t1 : tagOk mb mt = true) (t2 : tagOk tb tt = true) (u1 : 0 ≤ mb) (u2 : 0 ≤ mt) (u3 : 0 ≤ tb) (u4 : 0 ≤ tt) (n1 : 1 ≤ n) (n2 : n ≤ 16) (s3 : ((m : Int) == 0) = true) (q1 : noneT mb mt = false) (q2 : noneT tb tt = false) (HU : ∀ x, Grow w x → Calls Try.prog 30 #[.slice ao m cap] x fun e w' => (∃ a l d : Int, e = .returned (.tuple #[.agg #[.int .u32 a, .int .i64 l, .int .i64 d], .bool false])) ∧ Grow x w') :
    Calls Try.prog 11 #[.agg #[.int .i64 2, .int .i64 n, .int .u64 mb, .int .u64 mt, .int .u64 tb, .int .u64 tt, .int .u64 0, .int .u64 ak, .slice ao m cap]] w fun e w' => e = .returned (.bool true) ∧ Grow w w' := by
  unfold maxLen at hc
  have HUh := Lib.hid HU
  clear HU
  have HF : Hid (∀ x, Grow (w.alloc (.cells #[.int .i64 2, .int .i64 n, .int .u64 mb, .int .u64 mt, .int .u64 tb, .int .u64 tt, .int .u64 0, .int .u64 ak, .slice ao m cap] 28)) x → x.heap[w.heap.size]? = some (.cells #[.int .i64 2, .int .i64 n, .int .u64 mb, .int .u64 mt, .int .u64 tb, .int .u64 tt, .int .u64 0, .int .u64 ak, .slice ao m cap] 28 (0, 0))) := fun x hx => (hx.block _ (lt_of_block (heap_alloc_new w _))).trans (heap_alloc_new w _)
  have HT1 := Lib.hid (fun x => rmaytag_any mb mt x u1 u2)
  rw [t1] at HT1
  have HT2 := Lib.hid (fun x => rmaytag_any tb tt x u3 u4)
  rw [t2] at HT2
  have HQ1 := Lib.hid (fun x => none_any mb mt x)
  rw [q1] at HQ1
  have HQ2 := Lib.hid (fun x => none_any tb tt x)
  rw [q2] at HQ2
  clear t1 t2 q1 q2
  go_enter Try.func11, Try.ntmps11
  go_wp2_with fail
  refine (HT1.out _).mono ?_
  rintro e w' ⟨rfl, rfl⟩
  go_wp2_with fail
  refine (HT2.out _).mono ?_
  rintro e w' ⟨rfl, rfl⟩
  go_wp2_with fail
  refine (HQ1.out _).mono ?_
  rintro e w' ⟨rfl, rfl⟩
  go_wp2_with fail
  refine (HUh.out _ (by repeat (first | exact Grow.refl _ | refine Grow.alloc ?_ _))).mono ?_
  rintro e w1 ⟨⟨ua, ul, ud, rfl⟩, hg⟩
  have hgx : Grow (w.alloc (.cells #[.int .i64 2, .int .i64 n, .int .u64 mb, .int .u64 mt, .int .u64 tb, .int .u64 tt, .int .u64 0, .int .u64 ak, .slice ao m cap] 28)) w1 := Grow.trans (by repeat (first | exact Grow.refl _ | refine Grow.alloc ?_ _)) hg
  have hgy := hgx.alloc (.cells #[.int .u32 ua, .int .i64 ul, .int .i64 ud] 52)
  obtain ⟨⟨f0, f1, f2, f3, f4⟩, f5, f6, f7, f8⟩ := blkF (HF.out _ hgy)
  have HGY : Hid (Grow w _) := Grow.trans (by repeat (first | exact Grow.refl _ | refine Grow.alloc ?_ _)) hgy
  have hgz := hgy.alloc (.cells #[.int .u64 tb, .int .u64 tt] 25)
  clear hgx hg
  go_wp2_with fail
  refine (HQ2.out _).mono ?_
  rintro e w' ⟨rfl, rfl⟩
  obtain ⟨⟨g0, g1, g2, g3, g4⟩, g5, g6, g7, g8⟩ := blkF (HF.out _ hgz)
  clear hgy hgz f0 f1 f2 f3 f4 f5 f6 f7 f8
  go_wp2_with fail
  go_ret
  exact ⟨by first | rfl | (simp; done) | (simp; omega), by repeat (first | exact HGY.out | refine Grow.alloc ?_ _)⟩

set_option maxRecDepth 20000 in
set_option maxHeartbeats 1000000 in
theorem rmay_C5 {ak mb mt n sq tb tt : Int} {ao : Option Addr} {m cap : Nat} (w : World) (hm : m ≤ cap) (hc : cap ≤ maxLen) (t1 : tagOk mb mt = true) (t2 : tagOk tb tt = true) (u1 : 0 ≤ mb) (u2 : 0 ≤ mt) (u3 : 0 ≤ tb) (u4 : 0 ≤ tt) (n1 : 1 ≤ n) (n2 : n ≤ 16) (s1 : (sq == 0) = false) (s3 : ((m : Int) == 0) = true) (q1 : noneT mb mt = false) (q2 : noneT tb tt = false) (HU : ∀ x, Grow w x → Calls Try.prog 30 #[.slice ao m cap] x fun e w' => (∃ a l d : Int, e = .returned (.tuple #[.agg #[.int .u32 a, .int .i64 l, .int .i64 d], .bool false])) ∧ Grow x w') :
    Calls Try.prog 11 #[.agg #[.int .i64 2, .int .i64 n, .int .u64 mb, .int .u64 mt, .int .u64 tb, .int .u64 tt, .int .u64 sq, .int .u64 ak, .slice ao m cap]] w fun e w' => e = .returned (.bool false) ∧ Grow w w' := by
  unfold maxLen at hc
  have HUh := Lib.hid HU
  clear HU
  have HF : Hid (∀ x, Grow (w.alloc (.cells #[.int .i64 2, .int .i64 n, .int .u64 mb, .int .u64 mt, .int .u64 tb, .int .u64 tt, .int .u64 sq, .int .u64 ak, .slice ao m cap] 28)) x → x.heap[w.heap.size]? = some (.cells #[.int .i64 2, .int .i64 n, .int .u64 mb, .int .u64 mt, .int .u64 tb, .int .u64 tt, .int .u64 sq, .int .u64 ak, .slice ao m cap] 28 (0, 0))) := fun x hx => (hx.block _ (lt_of_block (heap_alloc_new w _))).trans (heap_alloc_new w _)
  have HT1 := Lib.hid (fun x => rmaytag_any mb mt x u1 u2)
  rw [t1] at HT1
  have HT2 := Lib.hid (fun x => rmaytag_any tb tt x u3 u4)
  rw [t2] at HT2
  have HQ1 := Lib.hid (fun x => none_any mb mt x)
  rw [q1] at HQ1
  have HQ2 := Lib.hid (fun x => none_any tb tt x)
  rw [q2] at HQ2
  clear t1 t2 q1 q2
  go_enter Try.func11, Try.ntmps11
  go_wp2_with fail
  refine (HT1.out _).mono ?_
  rintro e w' ⟨rfl, rfl⟩
  go_wp2_with fail
  refine (HT2.out _).mono ?_
  rintro e w' ⟨rfl, rfl⟩
  go_wp2_with fail
  refine (HQ1.out _).mono ?_
  rintro e w' ⟨rfl, rfl⟩
  go_wp2_with fail
  refine (HUh.out _ (by repeat (first | exact Grow.refl _ | refine Grow.alloc ?_ _))).mono ?_
  rintro e w1 ⟨⟨ua, ul, ud, rfl⟩, hg⟩
  have hgx : Grow (w.alloc (.cells #[.int .i64 2, .int .i64 n, .int .u64 mb, .int .u64 mt, .int .u64 tb, .int .u64 tt, .int .u64 sq, .int .u64 ak, .slice ao m cap] 28)) w1 := Grow.trans (by repeat (first | exact Grow.refl _ | refine Grow.alloc ?_ _)) hg
  have hgy := hgx.alloc (.cells #[.int .u32 ua, .int .i64 ul, .int .i64 ud] 52)
  obtain ⟨⟨f0, f1, f2, f3, f4⟩, f5, f6, f7, f8⟩ := blkF (HF.out _ hgy)
  have HGY : Hid (Grow w _) := Grow.trans (by repeat (first | exact Grow.refl _ | refine Grow.alloc ?_ _)) hgy
  have hgz := hgy.alloc (.cells #[.int .u64 tb, .int .u64 tt] 25)
  clear hgx hg
  go_wp2_with fail
  refine (HQ2.out _).mono ?_
  rintro e w' ⟨rfl, rfl⟩
  obtain ⟨⟨g0, g1, g2, g3, g4⟩, g5, g6, g7, g8⟩ := blkF (HF.out _ hgz)
  clear hgy hgz f0 f1 f2 f3 f4 f5 f6 f7 f8
  go_wp2_with fail
  go_ret
  exact ⟨by first | rfl | (simp; done) | (simp; omega), by repeat (first | exact HGY.out | refine Grow.alloc ?_ _)⟩

set_option maxRecDepth 20000 in
set_option maxHeartbeats 1000000 in
theorem rmay_C6 {ak mb mt n sq tb tt : Int} {ao : Option Addr} {m cap : Nat} (w : World) (hm : m ≤ cap) (hc : cap ≤ maxLen) (t1 : tagOk mb mt = true) (t2 : tagOk tb tt = true) (u1 : 0 ≤ mb) (u2 : 0 ≤ mt) (u3 : 0 ≤ tb) (u4 : 0 ≤ tt) (n1 : 1 ≤ n) (n2 : n ≤ 16) (s3 : ((m : Int) == 0) = false) (q1 : noneT mb mt = false) (q2 : noneT tb tt = false) (HU : ∀ x, Grow w x → Calls Try.prog 30 #[.slice ao m cap] x fun e w' => (∃ a l d : Int, e = .returned (.tuple #[.agg #[.int .u32 a, .int .i64 l, .int .i64 d], .bool false])) ∧ Grow x w') :
    Calls Try.prog 11 #[.agg #[.int .i64 2, .int .i64 n, .int .u64 mb, .int .u64 mt, .int .u64 tb, .int .u64 tt, .int .u64 sq, .int .u64 ak, .slice ao m cap]] w fun e w' => e = .returned (.bool false) ∧ Grow w w' := by
  unfold maxLen at hc
  have HUh := Lib.hid HU
  clear HU
  have HF : Hid (∀ x, Grow (w.alloc (.cells #[.int .i64 2, .int .i64 n, .int .u64 mb, .int .u64 mt, .int .u64 tb, .int .u64 tt, .int .u64 sq, .int .u64 ak, .slice ao m cap] 28)) x → x.heap[w.heap.size]? = some (.cells #[.int .i64 2, .int .i64 n, .int .u64 mb, .int .u64 mt, .int .u64 tb, .int .u64 tt, .int .u64 sq, .int .u64 ak, .slice ao m cap] 28 (0, 0))) := fun x hx => (hx.block _ (lt_of_block (heap_alloc_new w _))).trans (heap_alloc_new w _)
  have HT1 := Lib.hid (fun x => rmaytag_any mb mt x u1 u2)
  rw [t1] at HT1
  have HT2 := Lib.hid (fun x => rmaytag_any tb tt x u3 u4)
  rw [t2] at HT2
  have HQ1 := Lib.hid (fun x => none_any mb mt x)
  rw [q1] at HQ1
  have HQ2 := Lib.hid (fun x => none_any tb tt x)
  rw [q2] at HQ2
  clear t1 t2 q1 q2
  go_enter Try.func11, Try.ntmps11
  go_wp2_with fail
  refine (HT1.out _).mono ?_
  rintro e w' ⟨rfl, rfl⟩
  go_wp2_with fail
  refine (HT2.out _).mono ?_
  rintro e w' ⟨rfl, rfl⟩
  go_wp2_with fail
  refine (HQ1.out _).mono ?_
  rintro e w' ⟨rfl, rfl⟩
  go_wp2_with fail
  refine (HUh.out _ (by repeat (first | exact Grow.refl _ | refine Grow.alloc ?_ _))).mono ?_
  rintro e w1 ⟨⟨ua, ul, ud, rfl⟩, hg⟩
  have hgx : Grow (w.alloc (.cells #[.int .i64 2, .int .i64 n, .int .u64 mb, .int .u64 mt, .int .u64 tb, .int .u64 tt, .int .u64 sq, .int .u64 ak, .slice ao m cap] 28)) w1 := Grow.trans (by repeat (first | exact Grow.refl _ | refine Grow.alloc ?_ _)) hg
  have hgy := hgx.alloc (.cells #[.int .u32 ua, .int .i64 ul, .int .i64 ud] 52)
  obtain ⟨⟨f0, f1, f2, f3, f4⟩, f5, f6, f7, f8⟩ := blkF (HF.out _ hgy)
  have HGY : Hid (Grow w _) := Grow.trans (by repeat (first | exact Grow.refl _ | refine Grow.alloc ?_ _)) hgy
  have hgz := hgy.alloc (.cells #[.int .u64 tb, .int .u64 tt] 25)
  clear hgx hg
  go_wp2_with fail
  refine (HQ2.out _).mono ?_
  rintro e w' ⟨rfl, rfl⟩
  obtain ⟨⟨g0, g1, g2, g3, g4⟩, g5, g6, g7, g8⟩ := blkF (HF.out _ hgz)
  clear hgy hgz f0 f1 f2 f3 f4 f5 f6 f7 f8
  go_wp2_with fail
  go_ret
  exact ⟨by first | rfl | (simp; done) | (simp; omega), by repeat (first | exact HGY.out | refine Grow.alloc ?_ _)⟩

set_option maxRecDepth 20000 in
set_option maxHeartbeats 1000000 in
theorem rmay_O {ak k mb mt n sq tb tt : Int} {ao : Option Addr} {m cap : Nat} {u : Bool} (w : World) (hm : m ≤ cap) (hc : cap ≤ maxLen) (t1 : tagOk mb mt = true) (t2 : tagOk tb tt = true) (u1 : 0 ≤ mb) (u2 : 0 ≤ mt) (u3 : 0 ≤ tb) (u4 : 0 ≤ tt) (n1 : 1 ≤ n) (n2 : n ≤ 16) (k1 : (k == 1) = false) (k2 : (k == 2) = false) (k3 : (k == 3) = false) (q1 : noneT mb mt = false) (HU : ∀ x, Grow w x → Calls Try.prog 30 #[.slice ao m cap] x fun e w' => (∃ a l d : Int, e = .returned (.tuple #[.agg #[.int .u32 a, .int .i64 l, .int .i64 d], .bool u])) ∧ Grow x w') :
    Calls Try.prog 11 #[.agg #[.int .i64 k, .int .i64 n, .int .u64 mb, .int .u64 mt, .int .u64 tb, .int .u64 tt, .int .u64 sq, .int .u64 ak, .slice ao m cap]] w fun e w' => e = .returned (.bool false) ∧ Grow w w' := by
  unfold maxLen at hc
  have HUh := Lib.hid HU
  clear HU
  have HF : Hid (∀ x, Grow (w.alloc (.cells #[.int .i64 k, .int .i64 n, .int .u64 mb, .int .u64 mt, .int .u64 tb, .int .u64 tt, .int .u64 sq, .int .u64 ak, .slice ao m cap] 28)) x → x.heap[w.heap.size]? = some (.cells #[.int .i64 k, .int .i64 n, .int .u64 mb, .int .u64 mt, .int .u64 tb, .int .u64 tt, .int .u64 sq, .int .u64 ak, .slice ao m cap] 28 (0, 0))) := fun x hx => (hx.block _ (lt_of_block (heap_alloc_new w _))).trans (heap_alloc_new w _)
  have HT1 := Lib.hid (fun x => rmaytag_any mb mt x u1 u2)
  rw [t1] at HT1
  have HT2 := Lib.hid (fun x => rmaytag_any tb tt x u3 u4)
  rw [t2] at HT2
  have HQ1 := Lib.hid (fun x => none_any mb mt x)
  rw [q1] at HQ1
  clear t1 t2 q1
  go_enter Try.func11, Try.ntmps11
  go_wp2_with fail
  refine (HT1.out _).mono ?_
  rintro e w' ⟨rfl, rfl⟩
  go_wp2_with fail
  refine (HT2.out _).mono ?_
  rintro e w' ⟨rfl, rfl⟩
  go_wp2_with fail
  refine (HQ1.out _).mono ?_
  rintro e w' ⟨rfl, rfl⟩
  go_wp2_with fail
  refine (HUh.out _ (by repeat (first | exact Grow.refl _ | refine Grow.alloc ?_ _))).mono ?_
  rintro e w1 ⟨⟨ua, ul, ud, rfl⟩, hg⟩
  have hgx : Grow (w.alloc (.cells #[.int .i64 k, .int .i64 n, .int .u64 mb, .int .u64 mt, .int .u64 tb, .int .u64 tt, .int .u64 sq, .int .u64 ak, .slice ao m cap] 28)) w1 := Grow.trans (by repeat (first | exact Grow.refl _ | refine Grow.alloc ?_ _)) hg
  have hgy := hgx.alloc (.cells #[.int .u32 ua, .int .i64 ul, .int .i64 ud] 52)
  obtain ⟨⟨f0, f1, f2, f3, f4⟩, f5, f6, f7, f8⟩ := blkF (HF.out _ hgy)
  have HGY : Hid (Grow w _) := Grow.trans (by repeat (first | exact Grow.refl _ | refine Grow.alloc ?_ _)) hgy
  clear hgx hgy hg
  go_wp2_with fail
  go_ret
  exact ⟨by first | rfl | (simp; done) | (simp; omega), by repeat (first | exact HGY.out | refine Grow.alloc ?_ _)⟩
end Go.Proofs.Ytiphhjipgjpepaa
