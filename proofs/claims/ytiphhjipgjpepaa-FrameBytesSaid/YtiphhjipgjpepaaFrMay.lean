/- Which frames may be. -/
import Derived.Test.YtiphhjipgjpepaaFrTag
set_option linter.unusedVariables false
set_option linter.unusedSimpArgs false
namespace Go.Proofs.Ytiphhjipgjpepaa
open Go.RowKit

set_option maxRecDepth 20000 in
set_option maxHeartbeats 1000000 in
theorem may_S1 {ak k mb mt n sq tb tt : Int} {ao : Option Addr} {m cap : Nat} (w : World) (hm : m ≤ cap) (hc : cap ≤ maxLen) (n1 : n < 1) :
    Calls Try.prog 10 #[.agg #[.int .i64 k, .int .i64 n, .int .u64 mb, .int .u64 mt, .int .u64 tb, .int .u64 tt, .int .u64 sq, .int .u64 ak, .slice ao m cap]] w fun e w' => e = .returned (.bool false) ∧ Grow w w' := by
  unfold maxLen at hc
  go_enter Try.func10, Try.ntmps10
  go_wp2_with fail
  go_ret
  exact ⟨by first | rfl | (simp; done) | (simp; omega), by repeat (first | exact Grow.refl _ | refine Grow.alloc ?_ _)⟩

set_option maxRecDepth 20000 in
set_option maxHeartbeats 1000000 in
theorem may_S2 {ak k mb mt n sq tb tt : Int} {ao : Option Addr} {m cap : Nat} (w : World) (hm : m ≤ cap) (hc : cap ≤ maxLen) (n1 : 1 ≤ n) (n2 : 16 < n) :
    Calls Try.prog 10 #[.agg #[.int .i64 k, .int .i64 n, .int .u64 mb, .int .u64 mt, .int .u64 tb, .int .u64 tt, .int .u64 sq, .int .u64 ak, .slice ao m cap]] w fun e w' => e = .returned (.bool false) ∧ Grow w w' := by
  unfold maxLen at hc
  go_enter Try.func10, Try.ntmps10
  go_wp2_with fail
  go_ret
  exact ⟨by first | rfl | (simp; done) | (simp; omega), by repeat (first | exact Grow.refl _ | refine Grow.alloc ?_ _)⟩

set_option maxRecDepth 20000 in
set_option maxHeartbeats 1000000 in
theorem may_S3 {ak k mb mt n sq tb tt : Int} {ao : Option Addr} {m cap : Nat} (w : World) (hm : m ≤ cap) (hc : cap ≤ maxLen) (t1 : tagOk mb mt = false) (n1 : 1 ≤ n) (n2 : n ≤ 16) :
    Calls Try.prog 10 #[.agg #[.int .i64 k, .int .i64 n, .int .u64 mb, .int .u64 mt, .int .u64 tb, .int .u64 tt, .int .u64 sq, .int .u64 ak, .slice ao m cap]] w fun e w' => e = .returned (.bool false) ∧ Grow w w' := by
  unfold maxLen at hc
  have HT1 := Lib.hid (fun x => maytag_any mb mt x)
  rw [t1] at HT1
  clear t1
  go_enter Try.func10, Try.ntmps10
  go_wp2_with fail
  refine (HT1.out _).mono ?_
  rintro e w' ⟨rfl, rfl⟩
  go_wp2_with fail
  go_ret
  exact ⟨by first | rfl | (simp; done) | (simp; omega), by repeat (first | exact Grow.refl _ | refine Grow.alloc ?_ _)⟩

set_option maxRecDepth 20000 in
set_option maxHeartbeats 1000000 in
theorem may_S4 {ak k mb mt n sq tb tt : Int} {ao : Option Addr} {m cap : Nat} (w : World) (hm : m ≤ cap) (hc : cap ≤ maxLen) (t1 : tagOk mb mt = true) (t2 : tagOk tb tt = false) (n1 : 1 ≤ n) (n2 : n ≤ 16) :
    Calls Try.prog 10 #[.agg #[.int .i64 k, .int .i64 n, .int .u64 mb, .int .u64 mt, .int .u64 tb, .int .u64 tt, .int .u64 sq, .int .u64 ak, .slice ao m cap]] w fun e w' => e = .returned (.bool false) ∧ Grow w w' := by
  unfold maxLen at hc
  have HT1 := Lib.hid (fun x => maytag_any mb mt x)
  rw [t1] at HT1
  have HT2 := Lib.hid (fun x => maytag_any tb tt x)
  rw [t2] at HT2
  clear t1 t2
  go_enter Try.func10, Try.ntmps10
  go_wp2_with fail
  refine (HT1.out _).mono ?_
  rintro e w' ⟨rfl, rfl⟩
  go_wp2_with fail
  refine (HT2.out _).mono ?_
  rintro e w' ⟨rfl, rfl⟩
  go_wp2_with fail
  go_ret
  exact ⟨by first | rfl | (simp; done) | (simp; omega), by repeat (first | exact Grow.refl _ | refine Grow.alloc ?_ _)⟩

set_option maxRecDepth 20000 in
set_option maxHeartbeats 1000000 in
theorem may_S5 {ak k n sq tb tt : Int} {ao : Option Addr} {m cap : Nat} (w : World) (hm : m ≤ cap) (hc : cap ≤ maxLen) (t1 : tagOk 0 0 = true) (t2 : tagOk tb tt = true) (n1 : 1 ≤ n) (n2 : n ≤ 16) :
    Calls Try.prog 10 #[.agg #[.int .i64 k, .int .i64 n, .int .u64 0, .int .u64 0, .int .u64 tb, .int .u64 tt, .int .u64 sq, .int .u64 ak, .slice ao m cap]] w fun e w' => e = .returned (.bool false) ∧ Grow w w' := by
  unfold maxLen at hc
  have HT1 := Lib.hid (fun x => maytag_any 0 0 x)
  rw [t1] at HT1
  have HT2 := Lib.hid (fun x => maytag_any tb tt x)
  rw [t2] at HT2
  clear t1 t2
  go_enter Try.func10, Try.ntmps10
  go_wp2_with fail
  refine (HT1.out _).mono ?_
  rintro e w' ⟨rfl, rfl⟩
  go_wp2_with fail
  refine (HT2.out _).mono ?_
  rintro e w' ⟨rfl, rfl⟩
  go_wp2_with fail
  go_ret
  exact ⟨by first | rfl | (simp; done) | (simp; omega), by repeat (first | exact Grow.refl _ | refine Grow.alloc ?_ _)⟩

set_option maxRecDepth 20000 in
set_option maxHeartbeats 1000000 in
theorem may_H1 {ak mb mt n sq tb tt : Int} {ao : Option Addr} {m cap : Nat} (w : World) (hm : m ≤ cap) (hc : cap ≤ maxLen) (t1 : tagOk mb mt = true) (t2 : tagOk tb tt = true) (n1 : 1 ≤ n) (n2 : n ≤ 16) (e1 : (mb == 0) = false) (e2 : (mt == 0) = false) (s1 : (sq == 0) = false) :
    Calls Try.prog 10 #[.agg #[.int .i64 1, .int .i64 n, .int .u64 mb, .int .u64 mt, .int .u64 tb, .int .u64 tt, .int .u64 sq, .int .u64 ak, .slice ao m cap]] w fun e w' => e = .returned (.bool false) ∧ Grow w w' := by
  unfold maxLen at hc
  have HT1 := Lib.hid (fun x => maytag_any mb mt x)
  rw [t1] at HT1
  have HT2 := Lib.hid (fun x => maytag_any tb tt x)
  rw [t2] at HT2
  clear t1 t2
  go_enter Try.func10, Try.ntmps10
  go_wp2_with fail
  refine (HT1.out _).mono ?_
  rintro e w' ⟨rfl, rfl⟩
  go_wp2_with fail
  refine (HT2.out _).mono ?_
  rintro e w' ⟨rfl, rfl⟩
  go_wp2_with fail
  go_ret
  exact ⟨by first | rfl | (simp; done) | (simp; omega), by repeat (first | exact Grow.refl _ | refine Grow.alloc ?_ _)⟩

set_option maxRecDepth 20000 in
set_option maxHeartbeats 1000000 in
theorem may_H2 {ak mb mt n tb tt : Int} {ao : Option Addr} {m cap : Nat} (w : World) (hm : m ≤ cap) (hc : cap ≤ maxLen) (t1 : tagOk mb mt = true) (t2 : tagOk tb tt = true) (n1 : 1 ≤ n) (n2 : n ≤ 16) (e1 : (mb == 0) = false) (e2 : (mt == 0) = false) (s2 : (ak == 0) = false) :
    Calls Try.prog 10 #[.agg #[.int .i64 1, .int .i64 n, .int .u64 mb, .int .u64 mt, .int .u64 tb, .int .u64 tt, .int .u64 0, .int .u64 ak, .slice ao m cap]] w fun e w' => e = .returned (.bool false) ∧ Grow w w' := by
  unfold maxLen at hc
  have HT1 := Lib.hid (fun x => maytag_any mb mt x)
  rw [t1] at HT1
  have HT2 := Lib.hid (fun x => maytag_any tb tt x)
  rw [t2] at HT2
  clear t1 t2
  go_enter Try.func10, Try.ntmps10
  go_wp2_with fail
  refine (HT1.out _).mono ?_
  rintro e w' ⟨rfl, rfl⟩
  go_wp2_with fail
  refine (HT2.out _).mono ?_
  rintro e w' ⟨rfl, rfl⟩
  go_wp2_with fail
  go_ret
  exact ⟨by first | rfl | (simp; done) | (simp; omega), by repeat (first | exact Grow.refl _ | refine Grow.alloc ?_ _)⟩

set_option maxRecDepth 20000 in
set_option maxHeartbeats 1000000 in
theorem may_H3 {mb mt n tb tt : Int} {ao : Option Addr} {m cap : Nat} (w : World) (hm : m ≤ cap) (hc : cap ≤ maxLen) (t1 : tagOk mb mt = true) (t2 : tagOk tb tt = true) (n1 : 1 ≤ n) (n2 : n ≤ 16) (e1 : (mb == 0) = false) (e2 : (mt == 0) = false) (s3 : ((m : Int) == 0) = false) :
    Calls Try.prog 10 #[.agg #[.int .i64 1, .int .i64 n, .int .u64 mb, .int .u64 mt, .int .u64 tb, .int .u64 tt, .int .u64 0, .int .u64 0, .slice ao m cap]] w fun e w' => e = .returned (.bool false) ∧ Grow w w' := by
  unfold maxLen at hc
  have HT1 := Lib.hid (fun x => maytag_any mb mt x)
  rw [t1] at HT1
  have HT2 := Lib.hid (fun x => maytag_any tb tt x)
  rw [t2] at HT2
  clear t1 t2
  go_enter Try.func10, Try.ntmps10
  go_wp2_with fail
  refine (HT1.out _).mono ?_
  rintro e w' ⟨rfl, rfl⟩
  go_wp2_with fail
  refine (HT2.out _).mono ?_
  rintro e w' ⟨rfl, rfl⟩
  go_wp2_with fail
  go_ret
  exact ⟨by first | rfl | (simp; done) | (simp; omega), by repeat (first | exact Grow.refl _ | refine Grow.alloc ?_ _)⟩

set_option maxRecDepth 20000 in
set_option maxHeartbeats 1000000 in
theorem may_H4 {mb mt n tb tt : Int} {ao : Option Addr} {m cap : Nat} (w : World) (hm : m ≤ cap) (hc : cap ≤ maxLen) (t1 : tagOk mb mt = true) (t2 : tagOk tb tt = true) (n1 : 1 ≤ n) (n2 : n ≤ 16) (e1 : (mb == 0) = false) (e2 : (mt == 0) = false) (s3 : ((m : Int) == 0) = true) :
    Calls Try.prog 10 #[.agg #[.int .i64 1, .int .i64 n, .int .u64 mb, .int .u64 mt, .int .u64 tb, .int .u64 tt, .int .u64 0, .int .u64 0, .slice ao m cap]] w fun e w' => e = .returned (.bool true) ∧ Grow w w' := by
  unfold maxLen at hc
  have HT1 := Lib.hid (fun x => maytag_any mb mt x)
  rw [t1] at HT1
  have HT2 := Lib.hid (fun x => maytag_any tb tt x)
  rw [t2] at HT2
  clear t1 t2
  go_enter Try.func10, Try.ntmps10
  go_wp2_with fail
  refine (HT1.out _).mono ?_
  rintro e w' ⟨rfl, rfl⟩
  go_wp2_with fail
  refine (HT2.out _).mono ?_
  rintro e w' ⟨rfl, rfl⟩
  go_wp2_with fail
  go_ret
  exact ⟨by first | rfl | (simp; done) | (simp; omega), by repeat (first | exact Grow.refl _ | refine Grow.alloc ?_ _)⟩

set_option maxRecDepth 20000 in
set_option maxHeartbeats 1000000 in
theorem may_D1 {ak mb mt n sq tb tt : Int} {ao : Option Addr} {m cap : Nat} (w : World) (hm : m ≤ cap) (hc : cap ≤ maxLen) (t1 : tagOk mb mt = true) (t2 : tagOk tb tt = true) (n1 : 1 ≤ n) (n2 : n ≤ 16) (e1 : (mb == 0) = false) (e2 : (mt == 0) = false) (s1 : (sq == 0) = false) :
    Calls Try.prog 10 #[.agg #[.int .i64 3, .int .i64 n, .int .u64 mb, .int .u64 mt, .int .u64 tb, .int .u64 tt, .int .u64 sq, .int .u64 ak, .slice ao m cap]] w fun e w' => e = .returned (.bool false) ∧ Grow w w' := by
  unfold maxLen at hc
  have HT1 := Lib.hid (fun x => maytag_any mb mt x)
  rw [t1] at HT1
  have HT2 := Lib.hid (fun x => maytag_any tb tt x)
  rw [t2] at HT2
  clear t1 t2
  go_enter Try.func10, Try.ntmps10
  go_wp2_with fail
  refine (HT1.out _).mono ?_
  rintro e w' ⟨rfl, rfl⟩
  go_wp2_with fail
  refine (HT2.out _).mono ?_
  rintro e w' ⟨rfl, rfl⟩
  go_wp2_with fail
  go_ret
  exact ⟨by first | rfl | (simp; done) | (simp; omega), by repeat (first | exact Grow.refl _ | refine Grow.alloc ?_ _)⟩

set_option maxRecDepth 20000 in
set_option maxHeartbeats 1000000 in
theorem may_D2 {ak mb mt n tb tt : Int} {ao : Option Addr} {m cap : Nat} (w : World) (hm : m ≤ cap) (hc : cap ≤ maxLen) (t1 : tagOk mb mt = true) (t2 : tagOk tb tt = true) (n1 : 1 ≤ n) (n2 : n ≤ 16) (e1 : (mb == 0) = false) (e2 : (mt == 0) = false) (s2 : (ak == 0) = false) :
    Calls Try.prog 10 #[.agg #[.int .i64 3, .int .i64 n, .int .u64 mb, .int .u64 mt, .int .u64 tb, .int .u64 tt, .int .u64 0, .int .u64 ak, .slice ao m cap]] w fun e w' => e = .returned (.bool false) ∧ Grow w w' := by
  unfold maxLen at hc
  have HT1 := Lib.hid (fun x => maytag_any mb mt x)
  rw [t1] at HT1
  have HT2 := Lib.hid (fun x => maytag_any tb tt x)
  rw [t2] at HT2
  clear t1 t2
  go_enter Try.func10, Try.ntmps10
  go_wp2_with fail
  refine (HT1.out _).mono ?_
  rintro e w' ⟨rfl, rfl⟩
  go_wp2_with fail
  refine (HT2.out _).mono ?_
  rintro e w' ⟨rfl, rfl⟩
  go_wp2_with fail
  go_ret
  exact ⟨by first | rfl | (simp; done) | (simp; omega), by repeat (first | exact Grow.refl _ | refine Grow.alloc ?_ _)⟩

set_option maxRecDepth 20000 in
set_option maxHeartbeats 1000000 in
theorem may_D3 {mb mt n tb tt : Int} {ao : Option Addr} {m cap : Nat} (w : World) (hm : m ≤ cap) (hc : cap ≤ maxLen) (t1 : tagOk mb mt = true) (t2 : tagOk tb tt = true) (n1 : 1 ≤ n) (n2 : n ≤ 16) (e1 : (mb == 0) = false) (e2 : (mt == 0) = false) (s3 : (m : Int) < 1) :
    Calls Try.prog 10 #[.agg #[.int .i64 3, .int .i64 n, .int .u64 mb, .int .u64 mt, .int .u64 tb, .int .u64 tt, .int .u64 0, .int .u64 0, .slice ao m cap]] w fun e w' => e = .returned (.bool false) ∧ Grow w w' := by
  unfold maxLen at hc
  have HT1 := Lib.hid (fun x => maytag_any mb mt x)
  rw [t1] at HT1
  have HT2 := Lib.hid (fun x => maytag_any tb tt x)
  rw [t2] at HT2
  clear t1 t2
  go_enter Try.func10, Try.ntmps10
  go_wp2_with fail
  refine (HT1.out _).mono ?_
  rintro e w' ⟨rfl, rfl⟩
  go_wp2_with fail
  refine (HT2.out _).mono ?_
  rintro e w' ⟨rfl, rfl⟩
  go_wp2_with fail
  go_ret
  exact ⟨by first | rfl | (simp; done) | (simp; omega), by repeat (first | exact Grow.refl _ | refine Grow.alloc ?_ _)⟩

set_option maxRecDepth 20000 in
set_option maxHeartbeats 1000000 in
theorem may_D4 {mb mt n tb tt : Int} {ao : Option Addr} {m cap : Nat} (w : World) (hm : m ≤ cap) (hc : cap ≤ maxLen) (t1 : tagOk mb mt = true) (t2 : tagOk tb tt = true) (n1 : 1 ≤ n) (n2 : n ≤ 16) (e1 : (mb == 0) = false) (e2 : (mt == 0) = false) (s3 : (1 : Int) ≤ (m : Int)) (s4 : (2048 : Int) < (m : Int)) (s5 : decide ((m : Int) ≤ 2048) = false) :
    Calls Try.prog 10 #[.agg #[.int .i64 3, .int .i64 n, .int .u64 mb, .int .u64 mt, .int .u64 tb, .int .u64 tt, .int .u64 0, .int .u64 0, .slice ao m cap]] w fun e w' => e = .returned (.bool false) ∧ Grow w w' := by
  unfold maxLen at hc
  have HT1 := Lib.hid (fun x => maytag_any mb mt x)
  rw [t1] at HT1
  have HT2 := Lib.hid (fun x => maytag_any tb tt x)
  rw [t2] at HT2
  clear t1 t2
  go_enter Try.func10, Try.ntmps10
  go_wp2_with fail
  refine (HT1.out _).mono ?_
  rintro e w' ⟨rfl, rfl⟩
  go_wp2_with fail
  refine (HT2.out _).mono ?_
  rintro e w' ⟨rfl, rfl⟩
  go_wp2_with fail
  go_ret
  exact ⟨by first | rfl | (simp; done) | (simp; omega), by repeat (first | exact Grow.refl _ | refine Grow.alloc ?_ _)⟩

set_option maxRecDepth 20000 in
set_option maxHeartbeats 1000000 in
theorem may_D5 {mb mt n : Int} {ao : Option Addr} {m cap : Nat} {u : Bool} (w : World) (hm : m ≤ cap) (hc : cap ≤ maxLen) (t1 : tagOk mb mt = true) (t2 : tagOk 0 0 = true) (n1 : 1 ≤ n) (n2 : n ≤ 16) (e1 : (mb == 0) = false) (e2 : (mt == 0) = false) (s3 : (1 : Int) ≤ (m : Int)) (s4 : (m : Int) ≤ 2048) (HU : ∀ x, Grow w x → Calls Try.prog 29 #[.slice ao m cap] x fun e w' => (∃ a l d : Int, e = .returned (.tuple #[.agg #[.int .u32 a, .int .i64 l, .int .i64 d], .bool u])) ∧ Grow x w') :
    Calls Try.prog 10 #[.agg #[.int .i64 3, .int .i64 n, .int .u64 mb, .int .u64 mt, .int .u64 0, .int .u64 0, .int .u64 0, .int .u64 0, .slice ao m cap]] w fun e w' => e = .returned (.bool false) ∧ Grow w w' := by
  unfold maxLen at hc
  have HUh := Lib.hid HU
  clear HU
  have HF : Hid (∀ x, Grow (w.alloc (.cells #[.int .i64 3, .int .i64 n, .int .u64 mb, .int .u64 mt, .int .u64 0, .int .u64 0, .int .u64 0, .int .u64 0, .slice ao m cap] 28)) x → x.heap[w.heap.size]? = some (.cells #[.int .i64 3, .int .i64 n, .int .u64 mb, .int .u64 mt, .int .u64 0, .int .u64 0, .int .u64 0, .int .u64 0, .slice ao m cap] 28 (0, 0))) := fun x hx => (hx.block _ (lt_of_block (heap_alloc_new w _))).trans (heap_alloc_new w _)
  have HN0 : Hid (∀ x, Grow ((w.alloc (.cells #[.int .i64 3, .int .i64 n, .int .u64 mb, .int .u64 mt, .int .u64 0, .int .u64 0, .int .u64 0, .int .u64 0, .slice ao m cap] 28)).alloc (.cells #[.int .u64 0, .int .u64 0] 25)) x → x.heap[w.heap.size + 1]? = some (.cells #[.int .u64 0, .int .u64 0] 25 (0, 0))) := fun x hx => by
    have hn := heap_alloc_new (w.alloc (.cells #[.int .i64 3, .int .i64 n, .int .u64 mb, .int .u64 mt, .int .u64 0, .int .u64 0, .int .u64 0, .int .u64 0, .slice ao m cap] 28)) (.cells #[.int .u64 0, .int .u64 0] 25)
    rw [World.size_alloc] at hn
    exact (hx.block _ (lt_of_block hn)).trans hn
  have HT1 := Lib.hid (fun x => maytag_any mb mt x)
  rw [t1] at HT1
  have HT2 := Lib.hid (fun x => maytag_any 0 0 x)
  rw [t2] at HT2
  clear t1 t2
  go_enter Try.func10, Try.ntmps10
  go_wp2_with fail
  refine (HT1.out _).mono ?_
  rintro e w' ⟨rfl, rfl⟩
  go_wp2_with fail
  refine (HT2.out _).mono ?_
  rintro e w' ⟨rfl, rfl⟩
  go_wp2_with fail
  refine (HUh.out _ (by repeat (first | exact Grow.refl _ | refine Grow.alloc ?_ _))).mono ?_
  rintro e w1 ⟨⟨ua, ul, ud, rfl⟩, hg⟩
  have hgx : Grow ((w.alloc (.cells #[.int .i64 3, .int .i64 n, .int .u64 mb, .int .u64 mt, .int .u64 0, .int .u64 0, .int .u64 0, .int .u64 0, .slice ao m cap] 28)).alloc (.cells #[.int .u64 0, .int .u64 0] 25)) w1 := Grow.trans (by repeat (first | exact Grow.refl _ | refine Grow.alloc ?_ _)) hg
  have hgy := hgx.alloc (.cells #[.int .u32 ua, .int .i64 ul, .int .i64 ud] 52)
  obtain ⟨⟨f0, f1, f2, f3, f4⟩, f5, f6, f7, f8⟩ := blkF (HF.out _ (Grow.trans ((Grow.refl _).alloc _) hgy))
  obtain ⟨n0, n1⟩ := blk2 (HN0.out _ hgy)
  have HGY : Hid (Grow w _) := Grow.trans (by repeat (first | exact Grow.refl _ | refine Grow.alloc ?_ _)) hgy
  clear hgx hgy hg
  go_wp2_with fail
  go_ret
  exact ⟨by first | rfl | (simp; done) | (simp; omega), by repeat (first | exact HGY.out | refine Grow.alloc ?_ _)⟩

set_option maxRecDepth 20000 in
set_option maxHeartbeats 1000000 in
theorem may_D6 {mb mt n tb tt : Int} {ao : Option Addr} {m cap : Nat} {u : Bool} (w : World) (hm : m ≤ cap) (hc : cap ≤ maxLen) (t1 : tagOk mb mt = true) (t2 : tagOk tb tt = true) (n1 : 1 ≤ n) (n2 : n ≤ 16) (e1 : (mb == 0) = false) (e2 : (mt == 0) = false) (e3 : (tb == 0) = false) (e4 : (tt == 0) = false) (s3 : (1 : Int) ≤ (m : Int)) (s4 : (m : Int) ≤ 2048) (HU : ∀ x, Grow w x → Calls Try.prog 29 #[.slice ao m cap] x fun e w' => (∃ a l d : Int, e = .returned (.tuple #[.agg #[.int .u32 a, .int .i64 l, .int .i64 d], .bool u])) ∧ Grow x w') :
    Calls Try.prog 10 #[.agg #[.int .i64 3, .int .i64 n, .int .u64 mb, .int .u64 mt, .int .u64 tb, .int .u64 tt, .int .u64 0, .int .u64 0, .slice ao m cap]] w fun e w' => e = .returned (.bool true) ∧ Grow w w' := by
  unfold maxLen at hc
  have HUh := Lib.hid HU
  clear HU
  have HF : Hid (∀ x, Grow (w.alloc (.cells #[.int .i64 3, .int .i64 n, .int .u64 mb, .int .u64 mt, .int .u64 tb, .int .u64 tt, .int .u64 0, .int .u64 0, .slice ao m cap] 28)) x → x.heap[w.heap.size]? = some (.cells #[.int .i64 3, .int .i64 n, .int .u64 mb, .int .u64 mt, .int .u64 tb, .int .u64 tt, .int .u64 0, .int .u64 0, .slice ao m cap] 28 (0, 0))) := fun x hx => (hx.block _ (lt_of_block (heap_alloc_new w _))).trans (heap_alloc_new w _)
  have HN0 : Hid (∀ x, Grow ((w.alloc (.cells #[.int .i64 3, .int .i64 n, .int .u64 mb, .int .u64 mt, .int .u64 tb, .int .u64 tt, .int .u64 0, .int .u64 0, .slice ao m cap] 28)).alloc (.cells #[.int .u64 0, .int .u64 0] 25)) x → x.heap[w.heap.size + 1]? = some (.cells #[.int .u64 0, .int .u64 0] 25 (0, 0))) := fun x hx => by
    have hn := heap_alloc_new (w.alloc (.cells #[.int .i64 3, .int .i64 n, .int .u64 mb, .int .u64 mt, .int .u64 tb, .int .u64 tt, .int .u64 0, .int .u64 0, .slice ao m cap] 28)) (.cells #[.int .u64 0, .int .u64 0] 25)
    rw [World.size_alloc] at hn
    exact (hx.block _ (lt_of_block hn)).trans hn
  have HT1 := Lib.hid (fun x => maytag_any mb mt x)
  rw [t1] at HT1
  have HT2 := Lib.hid (fun x => maytag_any tb tt x)
  rw [t2] at HT2
  clear t1 t2
  go_enter Try.func10, Try.ntmps10
  go_wp2_with fail
  refine (HT1.out _).mono ?_
  rintro e w' ⟨rfl, rfl⟩
  go_wp2_with fail
  refine (HT2.out _).mono ?_
  rintro e w' ⟨rfl, rfl⟩
  go_wp2_with fail
  refine (HUh.out _ (by repeat (first | exact Grow.refl _ | refine Grow.alloc ?_ _))).mono ?_
  rintro e w1 ⟨⟨ua, ul, ud, rfl⟩, hg⟩
  have hgx : Grow ((w.alloc (.cells #[.int .i64 3, .int .i64 n, .int .u64 mb, .int .u64 mt, .int .u64 tb, .int .u64 tt, .int .u64 0, .int .u64 0, .slice ao m cap] 28)).alloc (.cells #[.int .u64 0, .int .u64 0] 25)) w1 := Grow.trans (by repeat (first | exact Grow.refl _ | refine Grow.alloc ?_ _)) hg
  have hgy := hgx.alloc (.cells #[.int .u32 ua, .int .i64 ul, .int .i64 ud] 52)
  obtain ⟨⟨f0, f1, f2, f3, f4⟩, f5, f6, f7, f8⟩ := blkF (HF.out _ (Grow.trans ((Grow.refl _).alloc _) hgy))
  obtain ⟨n0, n1⟩ := blk2 (HN0.out _ hgy)
  have HGY : Hid (Grow w _) := Grow.trans (by repeat (first | exact Grow.refl _ | refine Grow.alloc ?_ _)) hgy
  clear hgx hgy hg
  go_wp2_with fail
  go_ret
  exact ⟨by first | rfl | (simp; done) | (simp; omega), by repeat (first | exact HGY.out | refine Grow.alloc ?_ _)⟩

set_option maxRecDepth 20000 in
set_option maxHeartbeats 1000000 in
theorem may_C1 {ak mb mt n sq : Int} {ao : Option Addr} {m cap : Nat} {u : Bool} (w : World) (hm : m ≤ cap) (hc : cap ≤ maxLen) (t1 : tagOk mb mt = true) (t2 : tagOk 0 0 = true) (n1 : 1 ≤ n) (n2 : n ≤ 16) (e1 : (mb == 0) = false) (e2 : (mt == 0) = false) (HU : ∀ x, Grow w x → Calls Try.prog 29 #[.slice ao m cap] x fun e w' => (∃ a l d : Int, e = .returned (.tuple #[.agg #[.int .u32 a, .int .i64 l, .int .i64 d], .bool u])) ∧ Grow x w') :
    Calls Try.prog 10 #[.agg #[.int .i64 2, .int .i64 n, .int .u64 mb, .int .u64 mt, .int .u64 0, .int .u64 0, .int .u64 sq, .int .u64 ak, .slice ao m cap]] w fun e w' => e = .returned (.bool false) ∧ Grow w w' := by
  unfold maxLen at hc
  have HUh := Lib.hid HU
  clear HU
  have HF : Hid (∀ x, Grow (w.alloc (.cells #[.int .i64 2, .int .i64 n, .int .u64 mb, .int .u64 mt, .int .u64 0, .int .u64 0, .int .u64 sq, .int .u64 ak, .slice ao m cap] 28)) x → x.heap[w.heap.size]? = some (.cells #[.int .i64 2, .int .i64 n, .int .u64 mb, .int .u64 mt, .int .u64 0, .int .u64 0, .int .u64 sq, .int .u64 ak, .slice ao m cap] 28 (0, 0))) := fun x hx => (hx.block _ (lt_of_block (heap_alloc_new w _))).trans (heap_alloc_new w _)
  have HN0 : Hid (∀ x, Grow ((w.alloc (.cells #[.int .i64 2, .int .i64 n, .int .u64 mb, .int .u64 mt, .int .u64 0, .int .u64 0, .int .u64 sq, .int .u64 ak, .slice ao m cap] 28)).alloc (.cells #[.int .u64 0, .int .u64 0] 25)) x → x.heap[w.heap.size + 1]? = some (.cells #[.int .u64 0, .int .u64 0] 25 (0, 0))) := fun x hx => by
    have hn := heap_alloc_new (w.alloc (.cells #[.int .i64 2, .int .i64 n, .int .u64 mb, .int .u64 mt, .int .u64 0, .int .u64 0, .int .u64 sq, .int .u64 ak, .slice ao m cap] 28)) (.cells #[.int .u64 0, .int .u64 0] 25)
    rw [World.size_alloc] at hn
    exact (hx.block _ (lt_of_block hn)).trans hn
  have HT1 := Lib.hid (fun x => maytag_any mb mt x)
  rw [t1] at HT1
  have HT2 := Lib.hid (fun x => maytag_any 0 0 x)
  rw [t2] at HT2
  clear t1 t2
  go_enter Try.func10, Try.ntmps10
  go_wp2_with fail
  refine (HT1.out _).mono ?_
  rintro e w' ⟨rfl, rfl⟩
  go_wp2_with fail
  refine (HT2.out _).mono ?_
  rintro e w' ⟨rfl, rfl⟩
  go_wp2_with fail
  refine (HUh.out _ (by repeat (first | exact Grow.refl _ | refine Grow.alloc ?_ _))).mono ?_
  rintro e w1 ⟨⟨ua, ul, ud, rfl⟩, hg⟩
  have hgx : Grow ((w.alloc (.cells #[.int .i64 2, .int .i64 n, .int .u64 mb, .int .u64 mt, .int .u64 0, .int .u64 0, .int .u64 sq, .int .u64 ak, .slice ao m cap] 28)).alloc (.cells #[.int .u64 0, .int .u64 0] 25)) w1 := Grow.trans (by repeat (first | exact Grow.refl _ | refine Grow.alloc ?_ _)) hg
  have hgy := hgx.alloc (.cells #[.int .u32 ua, .int .i64 ul, .int .i64 ud] 52)
  obtain ⟨⟨f0, f1, f2, f3, f4⟩, f5, f6, f7, f8⟩ := blkF (HF.out _ (Grow.trans ((Grow.refl _).alloc _) hgy))
  obtain ⟨n0, n1⟩ := blk2 (HN0.out _ hgy)
  have HGY : Hid (Grow w _) := Grow.trans (by repeat (first | exact Grow.refl _ | refine Grow.alloc ?_ _)) hgy
  clear hgx hgy hg
  go_wp2_with fail
  go_ret
  exact ⟨by first | rfl | (simp; done) | (simp; omega), by repeat (first | exact HGY.out | refine Grow.alloc ?_ _)⟩

set_option maxRecDepth 20000 in
set_option maxHeartbeats 1000000 in
theorem may_C2 {ak mb mt n sq tb tt : Int} {ao : Option Addr} {m cap : Nat} (w : World) (hm : m ≤ cap) (hc : cap ≤ maxLen) (t1 : tagOk mb mt = true) (t2 : tagOk tb tt = true) (n1 : 1 ≤ n) (n2 : n ≤ 16) (e1 : (mb == 0) = false) (e2 : (mt == 0) = false) (e3 : (tb == 0) = false) (e4 : (tt == 0) = false) (s1 : 0 < sq) (HU : ∀ x, Grow w x → Calls Try.prog 29 #[.slice ao m cap] x fun e w' => (∃ a l d : Int, e = .returned (.tuple #[.agg #[.int .u32 a, .int .i64 l, .int .i64 d], .bool true])) ∧ Grow x w') :
    Calls Try.prog 10 #[.agg #[.int .i64 2, .int .i64 n, .int .u64 mb, .int .u64 mt, .int .u64 tb, .int .u64 tt, .int .u64 sq, .int .u64 ak, .slice ao m cap]] w fun e w' => e = .returned (.bool true) ∧ Grow w w' := by
  unfold maxLen at hc
  have HUh := Lib.hid HU
  clear HU
  have HF : Hid (∀ x, Grow (w.alloc (.cells #[.int .i64 2, .int .i64 n, .int .u64 mb, .int .u64 mt, .int .u64 tb, .int .u64 tt, .int .u64 sq, .int .u64 ak, .slice ao m cap] 28)) x → x.heap[w.heap.size]? = some (.cells #[.int .i64 2, .int .i64 n, .int .u64 mb, .int .u64 mt, .int .u64 tb, .int .u64 tt, .int .u64 sq, .int .u64 ak, .slice ao m cap] 28 (0, 0))) := fun x hx => (hx.block _ (lt_of_block (heap_alloc_new w _))).trans (heap_alloc_new w _)
  have HN0 : Hid (∀ x, Grow ((w.alloc (.cells #[.int .i64 2, .int .i64 n, .int .u64 mb, .int .u64 mt, .int .u64 tb, .int .u64 tt, .int .u64 sq, .int .u64 ak, .slice ao m cap] 28)).alloc (.cells #[.int .u64 0, .int .u64 0] 25)) x → x.heap[w.heap.size + 1]? = some (.cells #[.int .u64 0, .int .u64 0] 25 (0, 0))) := fun x hx => by
    have hn := heap_alloc_new (w.alloc (.cells #[.int .i64 2, .int .i64 n, .int .u64 mb, .int .u64 mt, .int .u64 tb, .int .u64 tt, .int .u64 sq, .int .u64 ak, .slice ao m cap] 28)) (.cells #[.int .u64 0, .int .u64 0] 25)
    rw [World.size_alloc] at hn
    exact (hx.block _ (lt_of_block hn)).trans hn
  have HT1 := Lib.hid (fun x => maytag_any mb mt x)
  rw [t1] at HT1
  have HT2 := Lib.hid (fun x => maytag_any tb tt x)
  rw [t2] at HT2
  clear t1 t2
  go_enter Try.func10, Try.ntmps10
  go_wp2_with fail
  refine (HT1.out _).mono ?_
  rintro e w' ⟨rfl, rfl⟩
  go_wp2_with fail
  refine (HT2.out _).mono ?_
  rintro e w' ⟨rfl, rfl⟩
  go_wp2_with fail
  refine (HUh.out _ (by repeat (first | exact Grow.refl _ | refine Grow.alloc ?_ _))).mono ?_
  rintro e w1 ⟨⟨ua, ul, ud, rfl⟩, hg⟩
  have hgx : Grow ((w.alloc (.cells #[.int .i64 2, .int .i64 n, .int .u64 mb, .int .u64 mt, .int .u64 tb, .int .u64 tt, .int .u64 sq, .int .u64 ak, .slice ao m cap] 28)).alloc (.cells #[.int .u64 0, .int .u64 0] 25)) w1 := Grow.trans (by repeat (first | exact Grow.refl _ | refine Grow.alloc ?_ _)) hg
  have hgy := hgx.alloc (.cells #[.int .u32 ua, .int .i64 ul, .int .i64 ud] 52)
  obtain ⟨⟨f0, f1, f2, f3, f4⟩, f5, f6, f7, f8⟩ := blkF (HF.out _ (Grow.trans ((Grow.refl _).alloc _) hgy))
  obtain ⟨n0, n1⟩ := blk2 (HN0.out _ hgy)
  have HGY : Hid (Grow w _) := Grow.trans (by repeat (first | exact Grow.refl _ | refine Grow.alloc ?_ _)) hgy
  clear hgx hgy hg
  go_wp2_with fail
  go_ret
  exact ⟨by first | rfl | (simp; done) | (simp; omega), by repeat (first | exact HGY.out | refine Grow.alloc ?_ _)⟩

set_option maxRecDepth 20000 in
set_option maxHeartbeats 1000000 in
theorem may_C3 {ak mb mt n tb tt : Int} {ao : Option Addr} {m cap : Nat} (w : World) (hm : m ≤ cap) (hc : cap ≤ maxLen) (t1 : tagOk mb mt = true) (t2 : tagOk tb tt = true) (n1 : 1 ≤ n) (n2 : n ≤ 16) (e1 : (mb == 0) = false) (e2 : (mt == 0) = false) (e3 : (tb == 0) = false) (e4 : (tt == 0) = false) (s3 : ((m : Int) == 0) = false) (HU : ∀ x, Grow w x → Calls Try.prog 29 #[.slice ao m cap] x fun e w' => (∃ a l d : Int, e = .returned (.tuple #[.agg #[.int .u32 a, .int .i64 l, .int .i64 d], .bool true])) ∧ Grow x w') :
    Calls Try.prog 10 #[.agg #[.int .i64 2, .int .i64 n, .int .u64 mb, .int .u64 mt, .int .u64 tb, .int .u64 tt, .int .u64 0, .int .u64 ak, .slice ao m cap]] w fun e w' => e = .returned (.bool false) ∧ Grow w w' := by
  unfold maxLen at hc
  have HUh := Lib.hid HU
  clear HU
  have HF : Hid (∀ x, Grow (w.alloc (.cells #[.int .i64 2, .int .i64 n, .int .u64 mb, .int .u64 mt, .int .u64 tb, .int .u64 tt, .int .u64 0, .int .u64 ak, .slice ao m cap] 28)) x → x.heap[w.heap.size]? = some (.cells #[.int .i64 2, .int .i64 n, .int .u64 mb, .int .u64 mt, .int .u64 tb, .int .u64 tt, .int .u64 0, .int .u64 ak, .slice ao m cap] 28 (0, 0))) := fun x hx => (hx.block _ (lt_of_block (heap_alloc_new w _))).trans (heap_alloc_new w _)
  have HN0 : Hid (∀ x, Grow ((w.alloc (.cells #[.int .i64 2, .int .i64 n, .int .u64 mb, .int .u64 mt, .int .u64 tb, .int .u64 tt, .int .u64 0, .int .u64 ak, .slice ao m cap] 28)).alloc (.cells #[.int .u64 0, .int .u64 0] 25)) x → x.heap[w.heap.size + 1]? = some (.cells #[.int .u64 0, .int .u64 0] 25 (0, 0))) := fun x hx => by
    have hn := heap_alloc_new (w.alloc (.cells #[.int .i64 2, .int .i64 n, .int .u64 mb, .int .u64 mt, .int .u64 tb, .int .u64 tt, .int .u64 0, .int .u64 ak, .slice ao m cap] 28)) (.cells #[.int .u64 0, .int .u64 0] 25)
    rw [World.size_alloc] at hn
    exact (hx.block _ (lt_of_block hn)).trans hn
  have HT1 := Lib.hid (fun x => maytag_any mb mt x)
  rw [t1] at HT1
  have HT2 := Lib.hid (fun x => maytag_any tb tt x)
  rw [t2] at HT2
  clear t1 t2
  go_enter Try.func10, Try.ntmps10
  go_wp2_with fail
  refine (HT1.out _).mono ?_
  rintro e w' ⟨rfl, rfl⟩
  go_wp2_with fail
  refine (HT2.out _).mono ?_
  rintro e w' ⟨rfl, rfl⟩
  go_wp2_with fail
  refine (HUh.out _ (by repeat (first | exact Grow.refl _ | refine Grow.alloc ?_ _))).mono ?_
  rintro e w1 ⟨⟨ua, ul, ud, rfl⟩, hg⟩
  have hgx : Grow ((w.alloc (.cells #[.int .i64 2, .int .i64 n, .int .u64 mb, .int .u64 mt, .int .u64 tb, .int .u64 tt, .int .u64 0, .int .u64 ak, .slice ao m cap] 28)).alloc (.cells #[.int .u64 0, .int .u64 0] 25)) w1 := Grow.trans (by repeat (first | exact Grow.refl _ | refine Grow.alloc ?_ _)) hg
  have hgy := hgx.alloc (.cells #[.int .u32 ua, .int .i64 ul, .int .i64 ud] 52)
  obtain ⟨⟨f0, f1, f2, f3, f4⟩, f5, f6, f7, f8⟩ := blkF (HF.out _ (Grow.trans ((Grow.refl _).alloc _) hgy))
  obtain ⟨n0, n1⟩ := blk2 (HN0.out _ hgy)
  have HGY : Hid (Grow w _) := Grow.trans (by repeat (first | exact Grow.refl _ | refine Grow.alloc ?_ _)) hgy
  clear hgx hgy hg
  go_wp2_with fail
  go_ret
  exact ⟨by first | rfl | (simp; done) | (simp; omega), by repeat (first | exact HGY.out | refine Grow.alloc ?_ _)⟩

set_option maxRecDepth 20000 in
set_option maxHeartbeats 1000000 in
theorem may_C4 {ak mb mt n tb tt : Int} {ao : Option Addr} {m cap : Nat} (w : World) (hm : m ≤ cap) (hc : cap ≤ maxLen) (t1 : tagOk mb mt = true) (t2 : tagOk tb tt = true) (n1 : 1 ≤ n) (n2 : n ≤ 16) (e1 : (mb == 0) = false) (e2 : (mt == 0) = false) (e3 : (tb == 0) = false) (e4 : (tt == 0) = false) (s3 : ((m : Int) == 0) = true) (HU : ∀ x, Grow w x → Calls Try.prog 29 #[.slice ao m cap] x fun e w' => (∃ a l d : Int, e = .returned (.tuple #[.agg #[.int .u32 a, .int .i64 l, .int .i64 d], .bool false])) ∧ Grow x w') :
    Calls Try.prog 10 #[.agg #[.int .i64 2, .int .i64 n, .int .u64 mb, .int .u64 mt, .int .u64 tb, .int .u64 tt, .int .u64 0, .int .u64 ak, .slice ao m cap]] w fun e w' => e = .returned (.bool true) ∧ Grow w w' := by
  unfold maxLen at hc
  have HUh := Lib.hid HU
  clear HU
  have HF : Hid (∀ x, Grow (w.alloc (.cells #[.int .i64 2, .int .i64 n, .int .u64 mb, .int .u64 mt, .int .u64 tb, .int .u64 tt, .int .u64 0, .int .u64 ak, .slice ao m cap] 28)) x → x.heap[w.heap.size]? = some (.cells #[.int .i64 2, .int .i64 n, .int .u64 mb, .int .u64 mt, .int .u64 tb, .int .u64 tt, .int .u64 0, .int .u64 ak, .slice ao m cap] 28 (0, 0))) := fun x hx => (hx.block _ (lt_of_block (heap_alloc_new w _))).trans (heap_alloc_new w _)
  have HN0 : Hid (∀ x, Grow ((w.alloc (.cells #[.int .i64 2, .int .i64 n, .int .u64 mb, .int .u64 mt, .int .u64 tb, .int .u64 tt, .int .u64 0, .int .u64 ak, .slice ao m cap] 28)).alloc (.cells #[.int .u64 0, .int .u64 0] 25)) x → x.heap[w.heap.size + 1]? = some (.cells #[.int .u64 0, .int .u64 0] 25 (0, 0))) := fun x hx => by
    have hn := heap_alloc_new (w.alloc (.cells #[.int .i64 2, .int .i64 n, .int .u64 mb, .int .u64 mt, .int .u64 tb, .int .u64 tt, .int .u64 0, .int .u64 ak, .slice ao m cap] 28)) (.cells #[.int .u64 0, .int .u64 0] 25)
    rw [World.size_alloc] at hn
    exact (hx.block _ (lt_of_block hn)).trans hn
  have HT1 := Lib.hid (fun x => maytag_any mb mt x)
  rw [t1] at HT1
  have HT2 := Lib.hid (fun x => maytag_any tb tt x)
  rw [t2] at HT2
  clear t1 t2
  go_enter Try.func10, Try.ntmps10
  go_wp2_with fail
  refine (HT1.out _).mono ?_
  rintro e w' ⟨rfl, rfl⟩
  go_wp2_with fail
  refine (HT2.out _).mono ?_
  rintro e w' ⟨rfl, rfl⟩
  go_wp2_with fail
  refine (HUh.out _ (by repeat (first | exact Grow.refl _ | refine Grow.alloc ?_ _))).mono ?_
  rintro e w1 ⟨⟨ua, ul, ud, rfl⟩, hg⟩
  have hgx : Grow ((w.alloc (.cells #[.int .i64 2, .int .i64 n, .int .u64 mb, .int .u64 mt, .int .u64 tb, .int .u64 tt, .int .u64 0, .int .u64 ak, .slice ao m cap] 28)).alloc (.cells #[.int .u64 0, .int .u64 0] 25)) w1 := Grow.trans (by repeat (first | exact Grow.refl _ | refine Grow.alloc ?_ _)) hg
  have hgy := hgx.alloc (.cells #[.int .u32 ua, .int .i64 ul, .int .i64 ud] 52)
  obtain ⟨⟨f0, f1, f2, f3, f4⟩, f5, f6, f7, f8⟩ := blkF (HF.out _ (Grow.trans ((Grow.refl _).alloc _) hgy))
  obtain ⟨n0, n1⟩ := blk2 (HN0.out _ hgy)
  have HGY : Hid (Grow w _) := Grow.trans (by repeat (first | exact Grow.refl _ | refine Grow.alloc ?_ _)) hgy
  clear hgx hgy hg
  go_wp2_with fail
  go_ret
  exact ⟨by first | rfl | (simp; done) | (simp; omega), by repeat (first | exact HGY.out | refine Grow.alloc ?_ _)⟩

set_option maxRecDepth 20000 in
set_option maxHeartbeats 1000000 in
theorem may_C5 {ak mb mt n sq tb tt : Int} {ao : Option Addr} {m cap : Nat} (w : World) (hm : m ≤ cap) (hc : cap ≤ maxLen) (t1 : tagOk mb mt = true) (t2 : tagOk tb tt = true) (n1 : 1 ≤ n) (n2 : n ≤ 16) (e1 : (mb == 0) = false) (e2 : (mt == 0) = false) (e3 : (tb == 0) = false) (e4 : (tt == 0) = false) (s1 : (sq == 0) = false) (s3 : ((m : Int) == 0) = true) (HU : ∀ x, Grow w x → Calls Try.prog 29 #[.slice ao m cap] x fun e w' => (∃ a l d : Int, e = .returned (.tuple #[.agg #[.int .u32 a, .int .i64 l, .int .i64 d], .bool false])) ∧ Grow x w') :
    Calls Try.prog 10 #[.agg #[.int .i64 2, .int .i64 n, .int .u64 mb, .int .u64 mt, .int .u64 tb, .int .u64 tt, .int .u64 sq, .int .u64 ak, .slice ao m cap]] w fun e w' => e = .returned (.bool false) ∧ Grow w w' := by
  unfold maxLen at hc
  have HUh := Lib.hid HU
  clear HU
  have HF : Hid (∀ x, Grow (w.alloc (.cells #[.int .i64 2, .int .i64 n, .int .u64 mb, .int .u64 mt, .int .u64 tb, .int .u64 tt, .int .u64 sq, .int .u64 ak, .slice ao m cap] 28)) x → x.heap[w.heap.size]? = some (.cells #[.int .i64 2, .int .i64 n, .int .u64 mb, .int .u64 mt, .int .u64 tb, .int .u64 tt, .int .u64 sq, .int .u64 ak, .slice ao m cap] 28 (0, 0))) := fun x hx => (hx.block _ (lt_of_block (heap_alloc_new w _))).trans (heap_alloc_new w _)
  have HN0 : Hid (∀ x, Grow ((w.alloc (.cells #[.int .i64 2, .int .i64 n, .int .u64 mb, .int .u64 mt, .int .u64 tb, .int .u64 tt, .int .u64 sq, .int .u64 ak, .slice ao m cap] 28)).alloc (.cells #[.int .u64 0, .int .u64 0] 25)) x → x.heap[w.heap.size + 1]? = some (.cells #[.int .u64 0, .int .u64 0] 25 (0, 0))) := fun x hx => by
    have hn := heap_alloc_new (w.alloc (.cells #[.int .i64 2, .int .i64 n, .int .u64 mb, .int .u64 mt, .int .u64 tb, .int .u64 tt, .int .u64 sq, .int .u64 ak, .slice ao m cap] 28)) (.cells #[.int .u64 0, .int .u64 0] 25)
    rw [World.size_alloc] at hn
    exact (hx.block _ (lt_of_block hn)).trans hn
  have HT1 := Lib.hid (fun x => maytag_any mb mt x)
  rw [t1] at HT1
  have HT2 := Lib.hid (fun x => maytag_any tb tt x)
  rw [t2] at HT2
  clear t1 t2
  go_enter Try.func10, Try.ntmps10
  go_wp2_with fail
  refine (HT1.out _).mono ?_
  rintro e w' ⟨rfl, rfl⟩
  go_wp2_with fail
  refine (HT2.out _).mono ?_
  rintro e w' ⟨rfl, rfl⟩
  go_wp2_with fail
  refine (HUh.out _ (by repeat (first | exact Grow.refl _ | refine Grow.alloc ?_ _))).mono ?_
  rintro e w1 ⟨⟨ua, ul, ud, rfl⟩, hg⟩
  have hgx : Grow ((w.alloc (.cells #[.int .i64 2, .int .i64 n, .int .u64 mb, .int .u64 mt, .int .u64 tb, .int .u64 tt, .int .u64 sq, .int .u64 ak, .slice ao m cap] 28)).alloc (.cells #[.int .u64 0, .int .u64 0] 25)) w1 := Grow.trans (by repeat (first | exact Grow.refl _ | refine Grow.alloc ?_ _)) hg
  have hgy := hgx.alloc (.cells #[.int .u32 ua, .int .i64 ul, .int .i64 ud] 52)
  obtain ⟨⟨f0, f1, f2, f3, f4⟩, f5, f6, f7, f8⟩ := blkF (HF.out _ (Grow.trans ((Grow.refl _).alloc _) hgy))
  obtain ⟨n0, n1⟩ := blk2 (HN0.out _ hgy)
  have HGY : Hid (Grow w _) := Grow.trans (by repeat (first | exact Grow.refl _ | refine Grow.alloc ?_ _)) hgy
  clear hgx hgy hg
  go_wp2_with fail
  go_ret
  exact ⟨by first | rfl | (simp; done) | (simp; omega), by repeat (first | exact HGY.out | refine Grow.alloc ?_ _)⟩

set_option maxRecDepth 20000 in
set_option maxHeartbeats 1000000 in
theorem may_C6 {ak mb mt n sq tb tt : Int} {ao : Option Addr} {m cap : Nat} (w : World) (hm : m ≤ cap) (hc : cap ≤ maxLen) (t1 : tagOk mb mt = true) (t2 : tagOk tb tt = true) (n1 : 1 ≤ n) (n2 : n ≤ 16) (e1 : (mb == 0) = false) (e2 : (mt == 0) = false) (e3 : (tb == 0) = false) (e4 : (tt == 0) = false) (s3 : ((m : Int) == 0) = false) (HU : ∀ x, Grow w x → Calls Try.prog 29 #[.slice ao m cap] x fun e w' => (∃ a l d : Int, e = .returned (.tuple #[.agg #[.int .u32 a, .int .i64 l, .int .i64 d], .bool false])) ∧ Grow x w') :
    Calls Try.prog 10 #[.agg #[.int .i64 2, .int .i64 n, .int .u64 mb, .int .u64 mt, .int .u64 tb, .int .u64 tt, .int .u64 sq, .int .u64 ak, .slice ao m cap]] w fun e w' => e = .returned (.bool false) ∧ Grow w w' := by
  unfold maxLen at hc
  have HUh := Lib.hid HU
  clear HU
  have HF : Hid (∀ x, Grow (w.alloc (.cells #[.int .i64 2, .int .i64 n, .int .u64 mb, .int .u64 mt, .int .u64 tb, .int .u64 tt, .int .u64 sq, .int .u64 ak, .slice ao m cap] 28)) x → x.heap[w.heap.size]? = some (.cells #[.int .i64 2, .int .i64 n, .int .u64 mb, .int .u64 mt, .int .u64 tb, .int .u64 tt, .int .u64 sq, .int .u64 ak, .slice ao m cap] 28 (0, 0))) := fun x hx => (hx.block _ (lt_of_block (heap_alloc_new w _))).trans (heap_alloc_new w _)
  have HN0 : Hid (∀ x, Grow ((w.alloc (.cells #[.int .i64 2, .int .i64 n, .int .u64 mb, .int .u64 mt, .int .u64 tb, .int .u64 tt, .int .u64 sq, .int .u64 ak, .slice ao m cap] 28)).alloc (.cells #[.int .u64 0, .int .u64 0] 25)) x → x.heap[w.heap.size + 1]? = some (.cells #[.int .u64 0, .int .u64 0] 25 (0, 0))) := fun x hx => by
    have hn := heap_alloc_new (w.alloc (.cells #[.int .i64 2, .int .i64 n, .int .u64 mb, .int .u64 mt, .int .u64 tb, .int .u64 tt, .int .u64 sq, .int .u64 ak, .slice ao m cap] 28)) (.cells #[.int .u64 0, .int .u64 0] 25)
    rw [World.size_alloc] at hn
    exact (hx.block _ (lt_of_block hn)).trans hn
  have HT1 := Lib.hid (fun x => maytag_any mb mt x)
  rw [t1] at HT1
  have HT2 := Lib.hid (fun x => maytag_any tb tt x)
  rw [t2] at HT2
  clear t1 t2
  go_enter Try.func10, Try.ntmps10
  go_wp2_with fail
  refine (HT1.out _).mono ?_
  rintro e w' ⟨rfl, rfl⟩
  go_wp2_with fail
  refine (HT2.out _).mono ?_
  rintro e w' ⟨rfl, rfl⟩
  go_wp2_with fail
  refine (HUh.out _ (by repeat (first | exact Grow.refl _ | refine Grow.alloc ?_ _))).mono ?_
  rintro e w1 ⟨⟨ua, ul, ud, rfl⟩, hg⟩
  have hgx : Grow ((w.alloc (.cells #[.int .i64 2, .int .i64 n, .int .u64 mb, .int .u64 mt, .int .u64 tb, .int .u64 tt, .int .u64 sq, .int .u64 ak, .slice ao m cap] 28)).alloc (.cells #[.int .u64 0, .int .u64 0] 25)) w1 := Grow.trans (by repeat (first | exact Grow.refl _ | refine Grow.alloc ?_ _)) hg
  have hgy := hgx.alloc (.cells #[.int .u32 ua, .int .i64 ul, .int .i64 ud] 52)
  obtain ⟨⟨f0, f1, f2, f3, f4⟩, f5, f6, f7, f8⟩ := blkF (HF.out _ (Grow.trans ((Grow.refl _).alloc _) hgy))
  obtain ⟨n0, n1⟩ := blk2 (HN0.out _ hgy)
  have HGY : Hid (Grow w _) := Grow.trans (by repeat (first | exact Grow.refl _ | refine Grow.alloc ?_ _)) hgy
  clear hgx hgy hg
  go_wp2_with fail
  go_ret
  exact ⟨by first | rfl | (simp; done) | (simp; omega), by repeat (first | exact HGY.out | refine Grow.alloc ?_ _)⟩

set_option maxRecDepth 20000 in
set_option maxHeartbeats 1000000 in
theorem may_O {ak k mb mt n sq tb tt : Int} {ao : Option Addr} {m cap : Nat} (w : World) (hm : m ≤ cap) (hc : cap ≤ maxLen) (t1 : tagOk mb mt = true) (t2 : tagOk tb tt = true) (n1 : 1 ≤ n) (n2 : n ≤ 16) (e1 : (mb == 0) = false) (e2 : (mt == 0) = false) (k1 : (k == 1) = false) (k2 : (k == 2) = false) (k3 : (k == 3) = false) :
    Calls Try.prog 10 #[.agg #[.int .i64 k, .int .i64 n, .int .u64 mb, .int .u64 mt, .int .u64 tb, .int .u64 tt, .int .u64 sq, .int .u64 ak, .slice ao m cap]] w fun e w' => e = .returned (.bool false) ∧ Grow w w' := by
  unfold maxLen at hc
  have HT1 := Lib.hid (fun x => maytag_any mb mt x)
  rw [t1] at HT1
  have HT2 := Lib.hid (fun x => maytag_any tb tt x)
  rw [t2] at HT2
  clear t1 t2
  go_enter Try.func10, Try.ntmps10
  go_wp2_with fail
  refine (HT1.out _).mono ?_
  rintro e w' ⟨rfl, rfl⟩
  go_wp2_with fail
  refine (HT2.out _).mono ?_
  rintro e w' ⟨rfl, rfl⟩
  go_wp2_with fail
  go_ret
  exact ⟨by first | rfl | (simp; done) | (simp; omega), by repeat (first | exact Grow.refl _ | refine Grow.alloc ?_ _)⟩
end Go.Proofs.Ytiphhjipgjpepaa
