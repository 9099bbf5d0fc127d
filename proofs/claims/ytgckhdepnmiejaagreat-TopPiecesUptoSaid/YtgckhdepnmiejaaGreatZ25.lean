/- guidepostlaw18.FwdNil is true (and what stands on it). -/
import Derived.Test.YtgckhdepnmiejaaGreatZ23
import Derived.Test.YtgckhdepnmiejaaGreatZ24
set_option linter.unusedVariables false
set_option linter.unusedSimpArgs false
namespace Go.Proofs.YtgckhdepnmiejaaGreat
section
set_option maxRecDepth 100000
open Go.RowKit
set_option maxHeartbeats 1000000 in
theorem judge_nil (v : Value) (w : World) : Calls Tryz.prog 18 #[.pointer none, .int .u32 1, .slice none 0 0, v, .slice none 0 0] w fun e w' => e = .returned (.tuple #[.agg #[.int .i64 0, .int .i64 0, .slice none 0 0, .slice none 0 0], .int .i64 1]) ∧ Grow w w' := by
 have hN := heap_alloc_new w (.cells #[.int .i64 0, .int .i64 0, .slice none 0 0, .slice none 0 0] 48)
 have HG : Hid (Grow w (w.alloc (.cells #[.int .i64 0, .int .i64 0, .slice none 0 0, .slice none 0 0] 48))) := (Grow.refl w).alloc _
 obtain ⟨n0, n1, n2, n3⟩ := blkB hN
 clear hN
 go_enter Tryz.func18, Tryz.ntmps18
 go_wp2_with fail
 refine bodyPost_ret (v := .tuple #[.agg #[.int .i64 0, .int .i64 0, .slice none 0 0, .slice none 0 0], .int .i64 1]) (by simp [results, Tryz.results18, go_sem, n0, n1, n2, n3]) rfl ⟨rfl, HG.out⟩
set_option maxHeartbeats 1000000 in
theorem judge_none (F : Nat) (w : World) : Calls Tryz.prog 18 #[.pointer (some ⟨F, 0, none⟩), .int .u32 1, .slice none 0 0, .pointer none, .slice none 0 0] w fun e w' => e = .returned (.tuple #[.agg #[.int .i64 0, .int .i64 0, .slice none 0 0, .slice none 0 0], .int .i64 1]) ∧ Grow w w' := by
 have hN := heap_alloc_new w (.cells #[.int .i64 0, .int .i64 0, .slice none 0 0, .slice none 0 0] 48)
 have HG : Hid (Grow w (w.alloc (.cells #[.int .i64 0, .int .i64 0, .slice none 0 0, .slice none 0 0] 48))) := (Grow.refl w).alloc _
 have HN := Lib.hid hN
 clear hN
 go_enter Tryz.func18, Tryz.ntmps18
 go_wp2_with fail
 obtain ⟨w1, hw1⟩ : ∃ x, w.alloc (.cells #[.int .i64 0, .int .i64 0, .slice none 0 0, .slice none 0 0] 48) = x := ⟨_, rfl⟩
 rw [hw1] at HN HG ⊢
 have hq := bcopy_nil w1
 with_reducible refine hq.mono ?_
 clear hq
 rintro e w2 ⟨rfl, hg⟩
 have HG2 := Lib.hid (HG.out.trans hg)
 obtain ⟨n0, n1, n2, n3⟩ := blkB ((hg.block _ (lt_of_block HN.out)).trans HN.out)
 have z : ∀ i, w2.frozen? ⟨w.heap.size, i, none⟩ = false := fun i => by simp [World.frozen?, (hg.block _ (lt_of_block HN.out)).trans HN.out]
 have HN2 := Lib.hid ((hg.block _ (lt_of_block HN.out)).trans HN.out)
 have z0 := z 0
 have z1 := z 1
 have z2 := z 2
 have z3 := z 3
 clear hg z
 go_wp2_with fail
 generalize hw6 : (((w2.setCell ⟨w.heap.size, 0, none⟩ (.int .i64 0)).setCell ⟨w.heap.size, 1, none⟩ (.int .i64 0)).setCell ⟨w.heap.size, 2, none⟩ (.slice none 0 0)).setCell ⟨w.heap.size, 3, none⟩ (.slice none 0 0) = w6
 have HN6 : Hid (w6.heap[w.heap.size]? = some (.cells #[.int .i64 0, .int .i64 0, .slice none 0 0, .slice none 0 0] 48 (0, 0))) := by rw [← hw6]; show _ = _; simp [heap_put, HN2.out, setObj]
 have HG6 : Hid (GrowBut (Only w.heap.size) w2 w6) := by rw [← hw6]; show GrowBut _ _ _; simp only [only_put]; exact GrowBut.refl _ _
 clear hw6 n0 n1 n2 n3
 obtain ⟨n0, n1, n2, n3⟩ := blkB HN6.out
 refine bodyPost_ret (v := .tuple #[.agg #[.int .i64 0, .int .i64 0, .slice none 0 0, .slice none 0 0], .int .i64 1]) (by simp [results, Tryz.results18, go_sem, n0, n1, n2, n3]) rfl ⟨rfl, only_new HG2.out (Nat.le_refl _) HG6.out⟩
set_option maxHeartbeats 1000000 in
theorem send_nil (w : World) : Calls Tryz.prog 19 #[.pointer none, .slice none 0 0, .slice none 0 0] w fun e w' => e = .returned (.tuple #[.agg #[.int .i64 0, .int .i64 0, .slice none 0 0, .slice none 0 0], .int .i64 1]) ∧ Grow w w' := by
 have HN := Lib.hid (heap_alloc_new w (.cells #[.int .i64 0, .int .i64 0, .slice none 0 0, .slice none 0 0] 48))
 have HG : Hid (Grow w (w.alloc (.cells #[.int .i64 0, .int .i64 0, .slice none 0 0, .slice none 0 0] 48))) := (Grow.refl w).alloc _
 go_enter Tryz.func19, Tryz.ntmps19
 go_wp2_with fail
 obtain ⟨w2, hw1⟩ : ∃ x, w.alloc (.cells #[.int .i64 0, .int .i64 0, .slice none 0 0, .slice none 0 0] 48) = x := ⟨_, rfl⟩
 rw [hw1] at HN HG ⊢
 clear hw1
 have hq := fwrong_nil w2 (.slice none 0 0) (.slice none 0 0)
 with_reducible refine hq.mono ?_
 clear hq
 rintro e w3 ⟨rfl, rfl⟩
 obtain ⟨n0, n1, n2, n3⟩ := blkB HN.out
 have z : ∀ i, w3.frozen? ⟨w.heap.size, i, none⟩ = false := fun i => by simp [World.frozen?, HN.out]
 have z0 := z 0
 have z1 := z 1
 have z2 := z 2
 have z3 := z 3
 clear z
 go_wp2_with fail
 generalize hw6 : (((w3.setCell ⟨w.heap.size, 0, none⟩ (.int .i64 0)).setCell ⟨w.heap.size, 1, none⟩ (.int .i64 0)).setCell ⟨w.heap.size, 2, none⟩ (.slice none 0 0)).setCell ⟨w.heap.size, 3, none⟩ (.slice none 0 0) = w6
 have HN6 : Hid (w6.heap[w.heap.size]? = some (.cells #[.int .i64 0, .int .i64 0, .slice none 0 0, .slice none 0 0] 48 (0, 0))) := by rw [← hw6]; show _ = _; simp [heap_put, HN.out, setObj]
 have HG6 : Hid (GrowBut (Only w.heap.size) w3 w6) := by rw [← hw6]; show GrowBut _ _ _; simp only [only_put]; exact GrowBut.refl _ _
 clear hw6 n0 n1 n2 n3
 obtain ⟨n0, n1, n2, n3⟩ := blkB HN6.out
 refine bodyPost_ret (v := .tuple #[.agg #[.int .i64 0, .int .i64 0, .slice none 0 0, .slice none 0 0], .int .i64 1]) (by simp [results, Tryz.results19, go_sem, n0, n1, n2, n3]) rfl ⟨rfl, only_new HG.out (Nat.le_refl _) HG6.out⟩
set_option maxHeartbeats 1000000 in
theorem fwd_nil (w : World) : Calls Tryz.prog 6 #[] w fun e w' => e = .returned (.bool true) ∧ Grow w w' := by
 go_enter Tryz.func6, Tryz.ntmps6
 go_wp2_with fail
 with_reducible refine (simple_any w).mono ?_
 rintro e w1 ⟨rb, nb1, nb2, mb, rfl, hr, hm, hg⟩
 have HG1 := Lib.hid hg
 have HR1 := Lib.hid hr
 clear hg hr hm
 go_wp2_with fail
 have hq := laid3 (mb := mb) HR1.out
 with_reducible refine hq.mono ?_
 clear hq
 rintro e w2 ⟨F, B, rfl, _, _, _, hg⟩
 have HG2 := Lib.hid (HG1.out.trans hg)
 clear hg HR1 HG1
 go_wp2_with fail
 have hq := fun x => judge_nil (.pointer (some ⟨B, 0, none⟩)) x
 with_reducible refine (hq _).mono ?_
 clear hq
 rintro e w3 ⟨rfl, hg⟩
 have HG3 := Lib.hid ((HG2.out.trans hg).alloc (.cells #[.int .i64 0, .int .i64 0, .slice none 0 0, .slice none 0 0] 48))
 clear hg HG2
 go_upto_region 3 with fail
 obtain ⟨w4, hw4⟩ : ∃ x, w3.alloc (.cells #[.int .i64 0, .int .i64 0, .slice none 0 0, .slice none 0 0] 48) = x := ⟨_, rfl⟩
 rw [hw4] at HG3 ⊢
 clear hw4
 go_wp2_with fail
 have hq := fun x => judge_none F x
 with_reducible refine (hq _).mono ?_
 clear hq
 rintro e w5 ⟨rfl, hg⟩
 have HG5 := Lib.hid ((HG3.out.trans hg).alloc (.cells #[.int .i64 0, .int .i64 0, .slice none 0 0, .slice none 0 0] 48))
 clear hg HG3
 go_upto_region 4 with fail
 obtain ⟨w6, hw6⟩ : ∃ x, w5.alloc (.cells #[.int .i64 0, .int .i64 0, .slice none 0 0, .slice none 0 0] 48) = x := ⟨_, rfl⟩
 rw [hw6] at HG5 ⊢
 clear hw6
 go_wp2_with fail
 with_reducible refine (send_nil _).mono ?_
 rintro e w7 ⟨rfl, hg⟩
 have HG7 := Lib.hid ((HG5.out.trans hg).alloc (.cells #[.int .i64 0, .int .i64 0, .slice none 0 0, .slice none 0 0] 48))
 clear hg HG5
 go_upto_region 5 with fail
 obtain ⟨w8, hw8⟩ : ∃ x, w7.alloc (.cells #[.int .i64 0, .int .i64 0, .slice none 0 0, .slice none 0 0] 48) = x := ⟨_, rfl⟩
 rw [hw8] at HG7 ⊢
 clear hw8
 go_wp2_with fail
 with_reducible refine (chapter_known _).mono ?_
 rintro e w9 ⟨rfl, hg⟩
 have HG9 := Lib.hid (HG7.out.trans hg)
 clear hg
 go_wp2_with fail
 refine bodyPost_ret (v := .bool true) (by simp [results, Tryz.results6, go_sem]) rfl ?_
 exact ⟨rfl, HG9.out⟩
theorem nil_ok (w : World) : NilOk w := fun x _ => fwd_nil x
end
end Go.Proofs.YtgckhdepnmiejaaGreat
namespace Go.Proofs.YtgckhdepnmiejaaGreat
section
set_option maxRecDepth 100000
open Go.RowKit
set_option maxHeartbeats 2000000 in
theorem top_no1 {w : World} {tos id off ttl proto src dst : Int} {evil df mf : Bool} {va pa ma ra : Option Addr} {vc pc mc rc Lo Lp n no : Nat} {os : List Int}
  (hok : HdOk w ⟨tos, id, evil, df, mf, off, ttl, proto, src, dst, .slice va Lo vc, os⟩) (HN : Hid (NilOk w)) (hos : os.length = Lo) (hl : os.length ≤ 1048576)  (hm : mayH ⟨tos, id, evil, false, false, 0, ttl, proto, 167772165, 184549381, .slice va Lo vc, os⟩ = false) :
  Calls Tryz.prog 3 #[.agg #[.int .u8 tos, .int .u16 id, .bool evil, .bool df, .bool mf, .int .i64 off, .int .u8 ttl, .int .u8 proto, .int .u32 src, .int .u32 dst, .slice va Lo vc], .slice pa Lp pc, .slice ma n mc, .slice ra no rc] w (Yes w) := by
 have ht := hok.ttl
 have HOK : Hid (HdOk w ⟨tos, id, evil, false, false, 0, ttl, proto, 167772165, 184549381, .slice va Lo vc, os⟩) := ⟨hok.tos, hok.id, by show -9223372036854775808 ≤ (0 : Int) ∧ (0 : Int) ≤ 9223372036854775807; omega, hok.ttl, hok.proto, by show U32 167772165; unfold U32; omega, by show U32 184549381; unfold U32; omega, hok.body⟩
 have HL := Lib.hid hl
 have HM := Lib.hid hm
 clear hok hos hl hm ht
 go_enter Tryz.func3, Tryz.ntmps3
 have HMay : Hid (∀ x, Grow w x → Calls Tryz.prog 4 #[.agg #[.int .u8 tos, .int .u16 id, .bool evil, .bool false, .bool false, .int .i64 0, .int .u8 ttl, .int .u8 proto, .int .u32 167772165, .int .u32 184549381, .slice va Lo vc]] x fun e w' => e = .returned (.bool false) ∧ Grow x w') := fun x hx => by
  have := may_hdr ⟨tos, id, evil, false, false, 0, ttl, proto, 167772165, 184549381, .slice va Lo vc, os⟩ x (HOK.out.mono hx) HL.out
  rw [HM.out] at this
  exact this
 go_upto_region 2 with fail
 have hg0 : Grow w (w.alloc (.cells #[.int .u8 tos, .int .u16 id, .bool evil, .bool false, .bool false, .int .i64 0, .int .u8 ttl, .int .u8 proto, .int .u32 167772165, .int .u32 184549381, .slice va Lo vc] 27)) := (Grow.refl w).alloc _
 have hn0 := heap_alloc_new w (.cells #[.int .u8 tos, .int .u16 id, .bool evil, .bool false, .bool false, .int .i64 0, .int .u8 ttl, .int .u8 proto, .int .u32 167772165, .int .u32 184549381, .slice va Lo vc] 27)
 generalize (w.alloc (.cells #[.int .u8 tos, .int .u16 id, .bool evil, .bool false, .bool false, .int .i64 0, .int .u8 ttl, .int .u8 proto, .int .u32 167772165, .int .u32 184549381, .slice va Lo vc] 27)) = w0 at *
 obtain ⟨B, hB⟩ : ∃ B, w.heap.size = B := ⟨_, rfl⟩
 rw [hB] at hn0 ⊢
 have HG0 := Lib.hid hg0
 have HN0 := Lib.hid hn0
 obtain ⟨⟨c0, c1, c2, c3, c4, c5⟩, c6, c7, c8, c9, c10⟩ := blkH hn0
 clear hg0 hn0 hB
 go_wp2_with fail
 with_reducible refine (HMay.out _ HG0.out).mono ?_
 rintro e w1 ⟨rfl, hg⟩
 have HG1 := Lib.hid (HG0.out.trans hg)
 have HN1 := Lib.hid ((hg.block _ (lt_of_block HN0.out)).trans HN0.out)
 obtain ⟨⟨d0, d1, d2, d3, d4, d5⟩, d6, d7, d8, d9, d10⟩ := blkH HN1.out
 clear hg c0 c1 c2 c3 c4 c5 c6 c7 c8 c9 c10 HMay
 go_wp2_with fail
 have hnk := HN.out
 unfold NilOk at hnk
 have hnk := hnk _ HG1.out
 with_reducible refine hnk.mono ?_
 clear hnk
 rintro e w3 ⟨rfl, hg⟩
 have HG3 := Lib.hid (HG1.out.trans hg)
 clear hg
 go_wp2_with fail
 refine bodyPost_ret (v := .bool true) (by simp [results, Tryz.results3, go_sem]) rfl ?_
 exact ⟨rfl, HG3.out⟩
set_option maxHeartbeats 2000000 in
theorem top_no2 {w : World} {tos id off ttl proto src dst : Int} {evil df mf : Bool} {va pa ma ra : Option Addr} {vc pc mc rc Lo Lp n no : Nat} {os : List Int}
  (hok : HdOk w ⟨tos, id, evil, df, mf, off, ttl, proto, src, dst, .slice va Lo vc, os⟩) (HN : Hid (NilOk w)) (hos : os.length = Lo) (hl : os.length ≤ 1048576) (hm : mayH ⟨tos, id, evil, false, false, 0, ttl, proto, 167772165, 184549381, .slice va Lo vc, os⟩ = true) (hr : routedO os = true) :
  Calls Tryz.prog 3 #[.agg #[.int .u8 tos, .int .u16 id, .bool evil, .bool df, .bool mf, .int .i64 off, .int .u8 ttl, .int .u8 proto, .int .u32 src, .int .u32 dst, .slice va Lo vc], .slice pa Lp pc, .slice ma n mc, .slice ra no rc] w (Yes w) := by
 have ht := hok.ttl
 have HOK : Hid (HdOk w ⟨tos, id, evil, false, false, 0, ttl, proto, 167772165, 184549381, .slice va Lo vc, os⟩) := ⟨hok.tos, hok.id, by show -9223372036854775808 ≤ (0 : Int) ∧ (0 : Int) ≤ 9223372036854775807; omega, hok.ttl, hok.proto, by show U32 167772165; unfold U32; omega, by show U32 184549381; unfold U32; omega, hok.body⟩
 have HL := Lib.hid hl
 have HM := Lib.hid hm
 have HR := Lib.hid hr
 have HRaw := Lib.hid (raw_of HOK.out hm)
 clear hok hos hl hm ht hr
 go_enter Tryz.func3, Tryz.ntmps3
 have HMay : Hid (∀ x, Grow w x → Calls Tryz.prog 4 #[.agg #[.int .u8 tos, .int .u16 id, .bool evil, .bool false, .bool false, .int .i64 0, .int .u8 ttl, .int .u8 proto, .int .u32 167772165, .int .u32 184549381, .slice va Lo vc]] x fun e w' => e = .returned (.bool true) ∧ Grow x w') := fun x hx => by
  have := may_hdr ⟨tos, id, evil, false, false, 0, ttl, proto, 167772165, 184549381, .slice va Lo vc, os⟩ x (HOK.out.mono hx) HL.out
  rw [HM.out] at this
  exact this
 have HRt : Hid (∀ x, Grow w x → 0 < x.heap.size → Calls Tryz.prog 5 #[.slice va Lo vc] x fun e w' => e = .returned (.bool true) ∧ Grow x w') := fun x hx h0 => by
  have := routed_any (HOK.out.body.mono hx) h0 (by have := HRaw.out.len; dsimp only at this ⊢; omega) HRaw.out.good
  rw [show routedO (Hd.os ⟨tos, id, evil, false, false, 0, ttl, proto, 167772165, 184549381, .slice va Lo vc, os⟩) = true from HR.out] at this
  exact this
 go_upto_region 2 with fail
 have hg0 : Grow w (w.alloc (.cells #[.int .u8 tos, .int .u16 id, .bool evil, .bool false, .bool false, .int .i64 0, .int .u8 ttl, .int .u8 proto, .int .u32 167772165, .int .u32 184549381, .slice va Lo vc] 27)) := (Grow.refl w).alloc _
 have hn0 := heap_alloc_new w (.cells #[.int .u8 tos, .int .u16 id, .bool evil, .bool false, .bool false, .int .i64 0, .int .u8 ttl, .int .u8 proto, .int .u32 167772165, .int .u32 184549381, .slice va Lo vc] 27)
 generalize (w.alloc (.cells #[.int .u8 tos, .int .u16 id, .bool evil, .bool false, .bool false, .int .i64 0, .int .u8 ttl, .int .u8 proto, .int .u32 167772165, .int .u32 184549381, .slice va Lo vc] 27)) = w0 at *
 obtain ⟨B, hB⟩ : ∃ B, w.heap.size = B := ⟨_, rfl⟩
 rw [hB] at hn0 ⊢
 have HG0 := Lib.hid hg0
 have HN0 := Lib.hid hn0
 obtain ⟨⟨c0, c1, c2, c3, c4, c5⟩, c6, c7, c8, c9, c10⟩ := blkH hn0
 clear hg0 hn0 hB
 go_wp2_with fail
 with_reducible refine (HMay.out _ HG0.out).mono ?_
 rintro e w1 ⟨rfl, hg⟩
 have HG1 := Lib.hid (HG0.out.trans hg)
 have HN1 := Lib.hid ((hg.block _ (lt_of_block HN0.out)).trans HN0.out)
 obtain ⟨⟨d0, d1, d2, d3, d4, d5⟩, d6, d7, d8, d9, d10⟩ := blkH HN1.out
 clear hg c0 c1 c2 c3 c4 c5 c6 c7 c8 c9 c10 HMay
 go_wp2_with fail
 with_reducible refine (HRt.out _ HG1.out (Nat.lt_of_le_of_lt (Nat.zero_le _) (lt_of_block HN1.out))).mono ?_
 rintro e w2 ⟨rfl, hg⟩
 have HG2 := Lib.hid (HG1.out.trans hg)
 have HN2 := Lib.hid ((hg.block _ (lt_of_block HN1.out)).trans HN1.out)
 obtain ⟨⟨c0, c1, c2, c3, c4, c5⟩, c6, c7, c8, c9, c10⟩ := blkH HN2.out
 clear hg d0 d1 d2 d3 d4 d5 d6 d7 d8 d9 d10 HRt
 go_wp2_with fail
 have hnk := HN.out
 unfold NilOk at hnk
 have hnk := hnk _ HG2.out
 with_reducible refine hnk.mono ?_
 clear hnk
 rintro e w3 ⟨rfl, hg⟩
 have HG3 := Lib.hid (HG2.out.trans hg)
 clear hg
 go_wp2_with fail
 refine bodyPost_ret (v := .bool true) (by simp [results, Tryz.results3, go_sem]) rfl ?_
 exact ⟨rfl, HG3.out⟩
set_option maxHeartbeats 2000000 in
theorem top_no3 {w : World} {tos id off ttl proto src dst : Int} {evil df mf : Bool} {va pa ma ra : Option Addr} {vc pc mc rc Lo Lp n no : Nat} {os : List Int}
  (hok : HdOk w ⟨tos, id, evil, df, mf, off, ttl, proto, src, dst, .slice va Lo vc, os⟩) (HN : Hid (NilOk w)) (hos : os.length = Lo) (hl : os.length ≤ 1048576) (hm : mayH ⟨tos, id, evil, false, false, 0, ttl, proto, 167772165, 184549381, .slice va Lo vc, os⟩ = true) (hr : routedO os = false) (h1 : 1400 < Lp) :
  Calls Tryz.prog 3 #[.agg #[.int .u8 tos, .int .u16 id, .bool evil, .bool df, .bool mf, .int .i64 off, .int .u8 ttl, .int .u8 proto, .int .u32 src, .int .u32 dst, .slice va Lo vc], .slice pa Lp pc, .slice ma n mc, .slice ra no rc] w (Yes w) := by
 have ht := hok.ttl
 have HOK : Hid (HdOk w ⟨tos, id, evil, false, false, 0, ttl, proto, 167772165, 184549381, .slice va Lo vc, os⟩) := ⟨hok.tos, hok.id, by show -9223372036854775808 ≤ (0 : Int) ∧ (0 : Int) ≤ 9223372036854775807; omega, hok.ttl, hok.proto, by show U32 167772165; unfold U32; omega, by show U32 184549381; unfold U32; omega, hok.body⟩
 have HL := Lib.hid hl
 have HM := Lib.hid hm
 have HR := Lib.hid hr
 have HRaw := Lib.hid (raw_of HOK.out hm)
 have a1 : (Lp : Int) > 1400 := by omega
 clear hok hos hl hm ht hr h1
 go_enter Tryz.func3, Tryz.ntmps3
 have HMay : Hid (∀ x, Grow w x → Calls Tryz.prog 4 #[.agg #[.int .u8 tos, .int .u16 id, .bool evil, .bool false, .bool false, .int .i64 0, .int .u8 ttl, .int .u8 proto, .int .u32 167772165, .int .u32 184549381, .slice va Lo vc]] x fun e w' => e = .returned (.bool true) ∧ Grow x w') := fun x hx => by
  have := may_hdr ⟨tos, id, evil, false, false, 0, ttl, proto, 167772165, 184549381, .slice va Lo vc, os⟩ x (HOK.out.mono hx) HL.out
  rw [HM.out] at this
  exact this
 have HRt : Hid (∀ x, Grow w x → 0 < x.heap.size → Calls Tryz.prog 5 #[.slice va Lo vc] x fun e w' => e = .returned (.bool false) ∧ Grow x w') := fun x hx h0 => by
  have := routed_any (HOK.out.body.mono hx) h0 (by have := HRaw.out.len; dsimp only at this ⊢; omega) HRaw.out.good
  rw [show routedO (Hd.os ⟨tos, id, evil, false, false, 0, ttl, proto, 167772165, 184549381, .slice va Lo vc, os⟩) = false from HR.out] at this
  exact this
 go_upto_region 2 with fail
 have hg0 : Grow w (w.alloc (.cells #[.int .u8 tos, .int .u16 id, .bool evil, .bool false, .bool false, .int .i64 0, .int .u8 ttl, .int .u8 proto, .int .u32 167772165, .int .u32 184549381, .slice va Lo vc] 27)) := (Grow.refl w).alloc _
 have hn0 := heap_alloc_new w (.cells #[.int .u8 tos, .int .u16 id, .bool evil, .bool false, .bool false, .int .i64 0, .int .u8 ttl, .int .u8 proto, .int .u32 167772165, .int .u32 184549381, .slice va Lo vc] 27)
 generalize (w.alloc (.cells #[.int .u8 tos, .int .u16 id, .bool evil, .bool false, .bool false, .int .i64 0, .int .u8 ttl, .int .u8 proto, .int .u32 167772165, .int .u32 184549381, .slice va Lo vc] 27)) = w0 at *
 obtain ⟨B, hB⟩ : ∃ B, w.heap.size = B := ⟨_, rfl⟩
 rw [hB] at hn0 ⊢
 have HG0 := Lib.hid hg0
 have HN0 := Lib.hid hn0
 obtain ⟨⟨c0, c1, c2, c3, c4, c5⟩, c6, c7, c8, c9, c10⟩ := blkH hn0
 clear hg0 hn0 hB
 go_wp2_with fail
 with_reducible refine (HMay.out _ HG0.out).mono ?_
 rintro e w1 ⟨rfl, hg⟩
 have HG1 := Lib.hid (HG0.out.trans hg)
 have HN1 := Lib.hid ((hg.block _ (lt_of_block HN0.out)).trans HN0.out)
 obtain ⟨⟨d0, d1, d2, d3, d4, d5⟩, d6, d7, d8, d9, d10⟩ := blkH HN1.out
 clear hg c0 c1 c2 c3 c4 c5 c6 c7 c8 c9 c10 HMay
 go_wp2_with fail
 with_reducible refine (HRt.out _ HG1.out (Nat.lt_of_le_of_lt (Nat.zero_le _) (lt_of_block HN1.out))).mono ?_
 rintro e w2 ⟨rfl, hg⟩
 have HG2 := Lib.hid (HG1.out.trans hg)
 have HN2 := Lib.hid ((hg.block _ (lt_of_block HN1.out)).trans HN1.out)
 obtain ⟨⟨c0, c1, c2, c3, c4, c5⟩, c6, c7, c8, c9, c10⟩ := blkH HN2.out
 clear hg d0 d1 d2 d3 d4 d5 d6 d7 d8 d9 d10 HRt
 go_wp2_with fail
 have hnk := HN.out
 unfold NilOk at hnk
 have hnk := hnk _ HG2.out
 with_reducible refine hnk.mono ?_
 clear hnk
 rintro e w3 ⟨rfl, hg⟩
 have HG3 := Lib.hid (HG2.out.trans hg)
 clear hg
 go_wp2_with fail
 refine bodyPost_ret (v := .bool true) (by simp [results, Tryz.results3, go_sem]) rfl ?_
 exact ⟨rfl, HG3.out⟩
set_option maxHeartbeats 2000000 in
theorem top_no4 {w : World} {tos id off ttl proto src dst : Int} {evil df mf : Bool} {va pa ma ra : Option Addr} {vc pc mc rc Lo Lp n no : Nat} {os : List Int}
  (hok : HdOk w ⟨tos, id, evil, df, mf, off, ttl, proto, src, dst, .slice va Lo vc, os⟩) (HN : Hid (NilOk w)) (hos : os.length = Lo) (hl : os.length ≤ 1048576) (hm : mayH ⟨tos, id, evil, false, false, 0, ttl, proto, 167772165, 184549381, .slice va Lo vc, os⟩ = true) (hr : routedO os = false) (h1 : Lp ≤ 1400) (h2 : n < 1) :
  Calls Tryz.prog 3 #[.agg #[.int .u8 tos, .int .u16 id, .bool evil, .bool df, .bool mf, .int .i64 off, .int .u8 ttl, .int .u8 proto, .int .u32 src, .int .u32 dst, .slice va Lo vc], .slice pa Lp pc, .slice ma n mc, .slice ra no rc] w (Yes w) := by
 have ht := hok.ttl
 have HOK : Hid (HdOk w ⟨tos, id, evil, false, false, 0, ttl, proto, 167772165, 184549381, .slice va Lo vc, os⟩) := ⟨hok.tos, hok.id, by show -9223372036854775808 ≤ (0 : Int) ∧ (0 : Int) ≤ 9223372036854775807; omega, hok.ttl, hok.proto, by show U32 167772165; unfold U32; omega, by show U32 184549381; unfold U32; omega, hok.body⟩
 have HL := Lib.hid hl
 have HM := Lib.hid hm
 have HR := Lib.hid hr
 have HRaw := Lib.hid (raw_of HOK.out hm)
 have a1 : ¬ ((Lp : Int) > 1400) := by omega
 have a2 : (n : Int) < 1 := by omega
 clear hok hos hl hm ht hr h1 h2
 go_enter Tryz.func3, Tryz.ntmps3
 have HMay : Hid (∀ x, Grow w x → Calls Tryz.prog 4 #[.agg #[.int .u8 tos, .int .u16 id, .bool evil, .bool false, .bool false, .int .i64 0, .int .u8 ttl, .int .u8 proto, .int .u32 167772165, .int .u32 184549381, .slice va Lo vc]] x fun e w' => e = .returned (.bool true) ∧ Grow x w') := fun x hx => by
  have := may_hdr ⟨tos, id, evil, false, false, 0, ttl, proto, 167772165, 184549381, .slice va Lo vc, os⟩ x (HOK.out.mono hx) HL.out
  rw [HM.out] at this
  exact this
 have HRt : Hid (∀ x, Grow w x → 0 < x.heap.size → Calls Tryz.prog 5 #[.slice va Lo vc] x fun e w' => e = .returned (.bool false) ∧ Grow x w') := fun x hx h0 => by
  have := routed_any (HOK.out.body.mono hx) h0 (by have := HRaw.out.len; dsimp only at this ⊢; omega) HRaw.out.good
  rw [show routedO (Hd.os ⟨tos, id, evil, false, false, 0, ttl, proto, 167772165, 184549381, .slice va Lo vc, os⟩) = false from HR.out] at this
  exact this
 go_upto_region 2 with fail
 have hg0 : Grow w (w.alloc (.cells #[.int .u8 tos, .int .u16 id, .bool evil, .bool false, .bool false, .int .i64 0, .int .u8 ttl, .int .u8 proto, .int .u32 167772165, .int .u32 184549381, .slice va Lo vc] 27)) := (Grow.refl w).alloc _
 have hn0 := heap_alloc_new w (.cells #[.int .u8 tos, .int .u16 id, .bool evil, .bool false, .bool false, .int .i64 0, .int .u8 ttl, .int .u8 proto, .int .u32 167772165, .int .u32 184549381, .slice va Lo vc] 27)
 generalize (w.alloc (.cells #[.int .u8 tos, .int .u16 id, .bool evil, .bool false, .bool false, .int .i64 0, .int .u8 ttl, .int .u8 proto, .int .u32 167772165, .int .u32 184549381, .slice va Lo vc] 27)) = w0 at *
 obtain ⟨B, hB⟩ : ∃ B, w.heap.size = B := ⟨_, rfl⟩
 rw [hB] at hn0 ⊢
 have HG0 := Lib.hid hg0
 have HN0 := Lib.hid hn0
 obtain ⟨⟨c0, c1, c2, c3, c4, c5⟩, c6, c7, c8, c9, c10⟩ := blkH hn0
 clear hg0 hn0 hB
 go_wp2_with fail
 with_reducible refine (HMay.out _ HG0.out).mono ?_
 rintro e w1 ⟨rfl, hg⟩
 have HG1 := Lib.hid (HG0.out.trans hg)
 have HN1 := Lib.hid ((hg.block _ (lt_of_block HN0.out)).trans HN0.out)
 obtain ⟨⟨d0, d1, d2, d3, d4, d5⟩, d6, d7, d8, d9, d10⟩ := blkH HN1.out
 clear hg c0 c1 c2 c3 c4 c5 c6 c7 c8 c9 c10 HMay
 go_wp2_with fail
 with_reducible refine (HRt.out _ HG1.out (Nat.lt_of_le_of_lt (Nat.zero_le _) (lt_of_block HN1.out))).mono ?_
 rintro e w2 ⟨rfl, hg⟩
 have HG2 := Lib.hid (HG1.out.trans hg)
 have HN2 := Lib.hid ((hg.block _ (lt_of_block HN1.out)).trans HN1.out)
 obtain ⟨⟨c0, c1, c2, c3, c4, c5⟩, c6, c7, c8, c9, c10⟩ := blkH HN2.out
 clear hg d0 d1 d2 d3 d4 d5 d6 d7 d8 d9 d10 HRt
 go_wp2_with fail
 have hnk := HN.out
 unfold NilOk at hnk
 have hnk := hnk _ HG2.out
 with_reducible refine hnk.mono ?_
 clear hnk
 rintro e w3 ⟨rfl, hg⟩
 have HG3 := Lib.hid (HG2.out.trans hg)
 clear hg
 go_wp2_with fail
 refine bodyPost_ret (v := .bool true) (by simp [results, Tryz.results3, go_sem]) rfl ?_
 exact ⟨rfl, HG3.out⟩
set_option maxHeartbeats 2000000 in
theorem top_no5 {w : World} {tos id off ttl proto src dst : Int} {evil df mf : Bool} {va pa ma ra : Option Addr} {vc pc mc rc Lo Lp n no : Nat} {os : List Int}
  (hok : HdOk w ⟨tos, id, evil, df, mf, off, ttl, proto, src, dst, .slice va Lo vc, os⟩) (HN : Hid (NilOk w)) (hos : os.length = Lo) (hl : os.length ≤ 1048576) (hm : mayH ⟨tos, id, evil, false, false, 0, ttl, proto, 167772165, 184549381, .slice va Lo vc, os⟩ = true) (hr : routedO os = false) (h1 : Lp ≤ 1400) (h2 : 1 ≤ n) (h3 : 6 < n) :
  Calls Tryz.prog 3 #[.agg #[.int .u8 tos, .int .u16 id, .bool evil, .bool df, .bool mf, .int .i64 off, .int .u8 ttl, .int .u8 proto, .int .u32 src, .int .u32 dst, .slice va Lo vc], .slice pa Lp pc, .slice ma n mc, .slice ra no rc] w (Yes w) := by
 have ht := hok.ttl
 have HOK : Hid (HdOk w ⟨tos, id, evil, false, false, 0, ttl, proto, 167772165, 184549381, .slice va Lo vc, os⟩) := ⟨hok.tos, hok.id, by show -9223372036854775808 ≤ (0 : Int) ∧ (0 : Int) ≤ 9223372036854775807; omega, hok.ttl, hok.proto, by show U32 167772165; unfold U32; omega, by show U32 184549381; unfold U32; omega, hok.body⟩
 have HL := Lib.hid hl
 have HM := Lib.hid hm
 have HR := Lib.hid hr
 have HRaw := Lib.hid (raw_of HOK.out hm)
 have a1 : ¬ ((Lp : Int) > 1400) := by omega
 have a2 : ¬ ((n : Int) < 1) := by omega
 have a3 : (n : Int) > 6 := by omega
 clear hok hos hl hm ht hr h1 h2 h3
 go_enter Tryz.func3, Tryz.ntmps3
 have HMay : Hid (∀ x, Grow w x → Calls Tryz.prog 4 #[.agg #[.int .u8 tos, .int .u16 id, .bool evil, .bool false, .bool false, .int .i64 0, .int .u8 ttl, .int .u8 proto, .int .u32 167772165, .int .u32 184549381, .slice va Lo vc]] x fun e w' => e = .returned (.bool true) ∧ Grow x w') := fun x hx => by
  have := may_hdr ⟨tos, id, evil, false, false, 0, ttl, proto, 167772165, 184549381, .slice va Lo vc, os⟩ x (HOK.out.mono hx) HL.out
  rw [HM.out] at this
  exact this
 have HRt : Hid (∀ x, Grow w x → 0 < x.heap.size → Calls Tryz.prog 5 #[.slice va Lo vc] x fun e w' => e = .returned (.bool false) ∧ Grow x w') := fun x hx h0 => by
  have := routed_any (HOK.out.body.mono hx) h0 (by have := HRaw.out.len; dsimp only at this ⊢; omega) HRaw.out.good
  rw [show routedO (Hd.os ⟨tos, id, evil, false, false, 0, ttl, proto, 167772165, 184549381, .slice va Lo vc, os⟩) = false from HR.out] at this
  exact this
 go_upto_region 2 with fail
 have hg0 : Grow w (w.alloc (.cells #[.int .u8 tos, .int .u16 id, .bool evil, .bool false, .bool false, .int .i64 0, .int .u8 ttl, .int .u8 proto, .int .u32 167772165, .int .u32 184549381, .slice va Lo vc] 27)) := (Grow.refl w).alloc _
 have hn0 := heap_alloc_new w (.cells #[.int .u8 tos, .int .u16 id, .bool evil, .bool false, .bool false, .int .i64 0, .int .u8 ttl, .int .u8 proto, .int .u32 167772165, .int .u32 184549381, .slice va Lo vc] 27)
 generalize (w.alloc (.cells #[.int .u8 tos, .int .u16 id, .bool evil, .bool false, .bool false, .int .i64 0, .int .u8 ttl, .int .u8 proto, .int .u32 167772165, .int .u32 184549381, .slice va Lo vc] 27)) = w0 at *
 obtain ⟨B, hB⟩ : ∃ B, w.heap.size = B := ⟨_, rfl⟩
 rw [hB] at hn0 ⊢
 have HG0 := Lib.hid hg0
 have HN0 := Lib.hid hn0
 obtain ⟨⟨c0, c1, c2, c3, c4, c5⟩, c6, c7, c8, c9, c10⟩ := blkH hn0
 clear hg0 hn0 hB
 go_wp2_with fail
 with_reducible refine (HMay.out _ HG0.out).mono ?_
 rintro e w1 ⟨rfl, hg⟩
 have HG1 := Lib.hid (HG0.out.trans hg)
 have HN1 := Lib.hid ((hg.block _ (lt_of_block HN0.out)).trans HN0.out)
 obtain ⟨⟨d0, d1, d2, d3, d4, d5⟩, d6, d7, d8, d9, d10⟩ := blkH HN1.out
 clear hg c0 c1 c2 c3 c4 c5 c6 c7 c8 c9 c10 HMay
 go_wp2_with fail
 with_reducible refine (HRt.out _ HG1.out (Nat.lt_of_le_of_lt (Nat.zero_le _) (lt_of_block HN1.out))).mono ?_
 rintro e w2 ⟨rfl, hg⟩
 have HG2 := Lib.hid (HG1.out.trans hg)
 have HN2 := Lib.hid ((hg.block _ (lt_of_block HN1.out)).trans HN1.out)
 obtain ⟨⟨c0, c1, c2, c3, c4, c5⟩, c6, c7, c8, c9, c10⟩ := blkH HN2.out
 clear hg d0 d1 d2 d3 d4 d5 d6 d7 d8 d9 d10 HRt
 go_wp2_with fail
 have hnk := HN.out
 unfold NilOk at hnk
 have hnk := hnk _ HG2.out
 with_reducible refine hnk.mono ?_
 clear hnk
 rintro e w3 ⟨rfl, hg⟩
 have HG3 := Lib.hid (HG2.out.trans hg)
 clear hg
 go_wp2_with fail
 refine bodyPost_ret (v := .bool true) (by simp [results, Tryz.results3, go_sem]) rfl ?_
 exact ⟨rfl, HG3.out⟩
set_option maxHeartbeats 2000000 in
theorem top_no6 {w : World} {tos id off ttl proto src dst : Int} {evil df mf : Bool} {va pa ma ra : Option Addr} {vc pc mc rc Lo Lp n no : Nat} {os : List Int}
  (hok : HdOk w ⟨tos, id, evil, df, mf, off, ttl, proto, src, dst, .slice va Lo vc, os⟩) (HN : Hid (NilOk w)) (hos : os.length = Lo) (hl : os.length ≤ 1048576) (hm : mayH ⟨tos, id, evil, false, false, 0, ttl, proto, 167772165, 184549381, .slice va Lo vc, os⟩ = true) (hr : routedO os = false) (h1 : Lp ≤ 1400) (h2 : 1 ≤ n) (h3 : n ≤ 6) (h4 : ttl ≤ n) :
  Calls Tryz.prog 3 #[.agg #[.int .u8 tos, .int .u16 id, .bool evil, .bool df, .bool mf, .int .i64 off, .int .u8 ttl, .int .u8 proto, .int .u32 src, .int .u32 dst, .slice va Lo vc], .slice pa Lp pc, .slice ma n mc, .slice ra no rc] w (Yes w) := by
 have ht := hok.ttl
 have HOK : Hid (HdOk w ⟨tos, id, evil, false, false, 0, ttl, proto, 167772165, 184549381, .slice va Lo vc, os⟩) := ⟨hok.tos, hok.id, by show -9223372036854775808 ≤ (0 : Int) ∧ (0 : Int) ≤ 9223372036854775807; omega, hok.ttl, hok.proto, by show U32 167772165; unfold U32; omega, by show U32 184549381; unfold U32; omega, hok.body⟩
 have HL := Lib.hid hl
 have HM := Lib.hid hm
 have HR := Lib.hid hr
 have HRaw := Lib.hid (raw_of HOK.out hm)
 have a1 : ¬ ((Lp : Int) > 1400) := by omega
 have a2 : ¬ ((n : Int) < 1) := by omega
 have a3 : ¬ ((n : Int) > 6) := by omega
 have a4 : ttl ≤ (n : Int) := by omega
 have a6 : IntKind.i64.wrap ttl = ttl := IntWalk.i64_in _ (by unfold U8 at ht; dsimp only at ht; omega)
 clear hok hos hl hm ht hr h1 h2 h3 h4
 go_enter Tryz.func3, Tryz.ntmps3
 have HMay : Hid (∀ x, Grow w x → Calls Tryz.prog 4 #[.agg #[.int .u8 tos, .int .u16 id, .bool evil, .bool false, .bool false, .int .i64 0, .int .u8 ttl, .int .u8 proto, .int .u32 167772165, .int .u32 184549381, .slice va Lo vc]] x fun e w' => e = .returned (.bool true) ∧ Grow x w') := fun x hx => by
  have := may_hdr ⟨tos, id, evil, false, false, 0, ttl, proto, 167772165, 184549381, .slice va Lo vc, os⟩ x (HOK.out.mono hx) HL.out
  rw [HM.out] at this
  exact this
 have HRt : Hid (∀ x, Grow w x → 0 < x.heap.size → Calls Tryz.prog 5 #[.slice va Lo vc] x fun e w' => e = .returned (.bool false) ∧ Grow x w') := fun x hx h0 => by
  have := routed_any (HOK.out.body.mono hx) h0 (by have := HRaw.out.len; dsimp only at this ⊢; omega) HRaw.out.good
  rw [show routedO (Hd.os ⟨tos, id, evil, false, false, 0, ttl, proto, 167772165, 184549381, .slice va Lo vc, os⟩) = false from HR.out] at this
  exact this
 go_upto_region 2 with fail
 have hg0 : Grow w (w.alloc (.cells #[.int .u8 tos, .int .u16 id, .bool evil, .bool false, .bool false, .int .i64 0, .int .u8 ttl, .int .u8 proto, .int .u32 167772165, .int .u32 184549381, .slice va Lo vc] 27)) := (Grow.refl w).alloc _
 have hn0 := heap_alloc_new w (.cells #[.int .u8 tos, .int .u16 id, .bool evil, .bool false, .bool false, .int .i64 0, .int .u8 ttl, .int .u8 proto, .int .u32 167772165, .int .u32 184549381, .slice va Lo vc] 27)
 generalize (w.alloc (.cells #[.int .u8 tos, .int .u16 id, .bool evil, .bool false, .bool false, .int .i64 0, .int .u8 ttl, .int .u8 proto, .int .u32 167772165, .int .u32 184549381, .slice va Lo vc] 27)) = w0 at *
 obtain ⟨B, hB⟩ : ∃ B, w.heap.size = B := ⟨_, rfl⟩
 rw [hB] at hn0 ⊢
 have HG0 := Lib.hid hg0
 have HN0 := Lib.hid hn0
 obtain ⟨⟨c0, c1, c2, c3, c4, c5⟩, c6, c7, c8, c9, c10⟩ := blkH hn0
 clear hg0 hn0 hB
 go_wp2_with fail
 with_reducible refine (HMay.out _ HG0.out).mono ?_
 rintro e w1 ⟨rfl, hg⟩
 have HG1 := Lib.hid (HG0.out.trans hg)
 have HN1 := Lib.hid ((hg.block _ (lt_of_block HN0.out)).trans HN0.out)
 obtain ⟨⟨d0, d1, d2, d3, d4, d5⟩, d6, d7, d8, d9, d10⟩ := blkH HN1.out
 clear hg c0 c1 c2 c3 c4 c5 c6 c7 c8 c9 c10 HMay
 go_wp2_with fail
 with_reducible refine (HRt.out _ HG1.out (Nat.lt_of_le_of_lt (Nat.zero_le _) (lt_of_block HN1.out))).mono ?_
 rintro e w2 ⟨rfl, hg⟩
 have HG2 := Lib.hid (HG1.out.trans hg)
 have HN2 := Lib.hid ((hg.block _ (lt_of_block HN1.out)).trans HN1.out)
 obtain ⟨⟨c0, c1, c2, c3, c4, c5⟩, c6, c7, c8, c9, c10⟩ := blkH HN2.out
 clear hg d0 d1 d2 d3 d4 d5 d6 d7 d8 d9 d10 HRt
 go_wp2_with fail
 have hnk := HN.out
 unfold NilOk at hnk
 have hnk := hnk _ HG2.out
 with_reducible refine hnk.mono ?_
 clear hnk
 rintro e w3 ⟨rfl, hg⟩
 have HG3 := Lib.hid (HG2.out.trans hg)
 clear hg
 go_wp2_with fail
 refine bodyPost_ret (v := .bool true) (by simp [results, Tryz.results3, go_sem]) rfl ?_
 exact ⟨rfl, HG3.out⟩
set_option maxHeartbeats 2000000 in
theorem top_no7 {w : World} {tos id off ttl proto src dst : Int} {evil df mf : Bool} {va pa ma ra : Option Addr} {vc pc mc rc Lo Lp n no : Nat} {os : List Int}
  (hok : HdOk w ⟨tos, id, evil, df, mf, off, ttl, proto, src, dst, .slice va Lo vc, os⟩) (HN : Hid (NilOk w)) (hos : os.length = Lo) (hl : os.length ≤ 1048576) (hm : mayH ⟨tos, id, evil, false, false, 0, ttl, proto, 167772165, 184549381, .slice va Lo vc, os⟩ = true) (hr : routedO os = false) (h1 : Lp ≤ 1400) (h2 : 1 ≤ n) (h3 : n ≤ 6) (h4 : n < ttl) (h5 : 100 < no) :
  Calls Tryz.prog 3 #[.agg #[.int .u8 tos, .int .u16 id, .bool evil, .bool df, .bool mf, .int .i64 off, .int .u8 ttl, .int .u8 proto, .int .u32 src, .int .u32 dst, .slice va Lo vc], .slice pa Lp pc, .slice ma n mc, .slice ra no rc] w (Yes w) := by
 have ht := hok.ttl
 have HOK : Hid (HdOk w ⟨tos, id, evil, false, false, 0, ttl, proto, 167772165, 184549381, .slice va Lo vc, os⟩) := ⟨hok.tos, hok.id, by show -9223372036854775808 ≤ (0 : Int) ∧ (0 : Int) ≤ 9223372036854775807; omega, hok.ttl, hok.proto, by show U32 167772165; unfold U32; omega, by show U32 184549381; unfold U32; omega, hok.body⟩
 have HL := Lib.hid hl
 have HM := Lib.hid hm
 have HR := Lib.hid hr
 have HRaw := Lib.hid (raw_of HOK.out hm)
 have a1 : ¬ ((Lp : Int) > 1400) := by omega
 have a2 : ¬ ((n : Int) < 1) := by omega
 have a3 : ¬ ((n : Int) > 6) := by omega
 have a4 : ¬ (ttl ≤ (n : Int)) := by omega
 have a5 : (no : Int) > 100 := by omega
 have a6 : IntKind.i64.wrap ttl = ttl := IntWalk.i64_in _ (by unfold U8 at ht; dsimp only at ht; omega)
 clear hok hos hl hm ht hr h1 h2 h3 h4 h5
 go_enter Tryz.func3, Tryz.ntmps3
 have HMay : Hid (∀ x, Grow w x → Calls Tryz.prog 4 #[.agg #[.int .u8 tos, .int .u16 id, .bool evil, .bool false, .bool false, .int .i64 0, .int .u8 ttl, .int .u8 proto, .int .u32 167772165, .int .u32 184549381, .slice va Lo vc]] x fun e w' => e = .returned (.bool true) ∧ Grow x w') := fun x hx => by
  have := may_hdr ⟨tos, id, evil, false, false, 0, ttl, proto, 167772165, 184549381, .slice va Lo vc, os⟩ x (HOK.out.mono hx) HL.out
  rw [HM.out] at this
  exact this
 have HRt : Hid (∀ x, Grow w x → 0 < x.heap.size → Calls Tryz.prog 5 #[.slice va Lo vc] x fun e w' => e = .returned (.bool false) ∧ Grow x w') := fun x hx h0 => by
  have := routed_any (HOK.out.body.mono hx) h0 (by have := HRaw.out.len; dsimp only at this ⊢; omega) HRaw.out.good
  rw [show routedO (Hd.os ⟨tos, id, evil, false, false, 0, ttl, proto, 167772165, 184549381, .slice va Lo vc, os⟩) = false from HR.out] at this
  exact this
 go_upto_region 2 with fail
 have hg0 : Grow w (w.alloc (.cells #[.int .u8 tos, .int .u16 id, .bool evil, .bool false, .bool false, .int .i64 0, .int .u8 ttl, .int .u8 proto, .int .u32 167772165, .int .u32 184549381, .slice va Lo vc] 27)) := (Grow.refl w).alloc _
 have hn0 := heap_alloc_new w (.cells #[.int .u8 tos, .int .u16 id, .bool evil, .bool false, .bool false, .int .i64 0, .int .u8 ttl, .int .u8 proto, .int .u32 167772165, .int .u32 184549381, .slice va Lo vc] 27)
 generalize (w.alloc (.cells #[.int .u8 tos, .int .u16 id, .bool evil, .bool false, .bool false, .int .i64 0, .int .u8 ttl, .int .u8 proto, .int .u32 167772165, .int .u32 184549381, .slice va Lo vc] 27)) = w0 at *
 obtain ⟨B, hB⟩ : ∃ B, w.heap.size = B := ⟨_, rfl⟩
 rw [hB] at hn0 ⊢
 have HG0 := Lib.hid hg0
 have HN0 := Lib.hid hn0
 obtain ⟨⟨c0, c1, c2, c3, c4, c5⟩, c6, c7, c8, c9, c10⟩ := blkH hn0
 clear hg0 hn0 hB
 go_wp2_with fail
 with_reducible refine (HMay.out _ HG0.out).mono ?_
 rintro e w1 ⟨rfl, hg⟩
 have HG1 := Lib.hid (HG0.out.trans hg)
 have HN1 := Lib.hid ((hg.block _ (lt_of_block HN0.out)).trans HN0.out)
 obtain ⟨⟨d0, d1, d2, d3, d4, d5⟩, d6, d7, d8, d9, d10⟩ := blkH HN1.out
 clear hg c0 c1 c2 c3 c4 c5 c6 c7 c8 c9 c10 HMay
 go_wp2_with fail
 with_reducible refine (HRt.out _ HG1.out (Nat.lt_of_le_of_lt (Nat.zero_le _) (lt_of_block HN1.out))).mono ?_
 rintro e w2 ⟨rfl, hg⟩
 have HG2 := Lib.hid (HG1.out.trans hg)
 have HN2 := Lib.hid ((hg.block _ (lt_of_block HN1.out)).trans HN1.out)
 obtain ⟨⟨c0, c1, c2, c3, c4, c5⟩, c6, c7, c8, c9, c10⟩ := blkH HN2.out
 clear hg d0 d1 d2 d3 d4 d5 d6 d7 d8 d9 d10 HRt
 go_wp2_with fail
 have hnk := HN.out
 unfold NilOk at hnk
 have hnk := hnk _ HG2.out
 with_reducible refine hnk.mono ?_
 clear hnk
 rintro e w3 ⟨rfl, hg⟩
 have HG3 := Lib.hid (HG2.out.trans hg)
 clear hg
 go_wp2_with fail
 refine bodyPost_ret (v := .bool true) (by simp [results, Tryz.results3, go_sem]) rfl ?_
 exact ⟨rfl, HG3.out⟩
end
end Go.Proofs.YtgckhdepnmiejaaGreat
