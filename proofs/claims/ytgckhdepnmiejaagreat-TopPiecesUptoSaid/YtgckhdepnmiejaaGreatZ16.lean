/- Ways into a trie: Insert at a root that must be forked (and what stands on it). -/
import Derived.Test.YtgckhdepnmiejaaGreatZ09
import Derived.Test.YtgckhdepnmiejaaGreatZ14
import Derived.Test.YtgckhdepnmiejaaGreatZ15
set_option linter.unusedVariables false
set_option linter.unusedSimpArgs false
namespace Go.Proofs.YtgckhdepnmiejaaGreat
section
set_option maxRecDepth 100000
open Go.RowKit
/-- A new box of a prefix. -/
def NewPx (b0 : Nat) (u : Value) (x : World) : Prop := ∃ B, u = .pointer (some ⟨B, 0, none⟩) ∧ x.heap[B]? = some (.cells #[.int .u32 0, .int .i64 0] 35 (0, 0)) ∧ b0 ≤ B
/-- Two stores into a block that is new. -/
theorem GrowBut.putNew {M : Nat → Prop} {w w' : World} {C i : Nat} {u : Value} (h : GrowBut M w w') (hC : w.heap.size ≤ C) : GrowBut M w (w'.setCell ⟨C, i, none⟩ u) := by
 have k := (GrowBut.refl (Only C) w').setCell (a := ⟨C, i, none⟩) (show Only C C from rfl) u
 exact ⟨k.os.trans h.os, k.tape.trans h.tape, k.output.trans h.output, Nat.le_trans h.size k.size, fun j hj hm => (k.block j (Nat.lt_of_lt_of_le hj h.size) (fun e => by have e : j = C := e; omega)).trans (h.block j hj hm)⟩
theorem GrowBut.putNew2 {M : Nat → Prop} {w w' : World} {C : Nat} {u v : Value} (h : GrowBut M w w') (hC : w.heap.size ≤ C) : GrowBut M w ((w'.setCell ⟨C, 0, none⟩ u).setCell ⟨C, 1, none⟩ v) := (h.putNew hC).putNew hC
theorem node_put0 {w : World} {X : Nat} {a l k p : Int} {has : Bool} {n0 n1 : Value} (h : NodeAt w X a l k p has n0 n1) (v : Value) : NodeAt (w.setCell ⟨X, 260, none⟩ v) X a l k p has v n1 := by
 have e := heap_setCell_same _ _ 260 _ _ v h
 unfold NodeAt
 rw [e]
 congr 2
theorem node_put1 {w : World} {X : Nat} {a l k p : Int} {has : Bool} {n0 n1 : Value} (h : NodeAt w X a l k p has n0 n1) (v : Value) : NodeAt (w.setCell ⟨X, 261, none⟩ v) X a l k p has n0 v := by
 have e := heap_setCell_same _ _ 261 _ _ v h
 unfold NodeAt
 rw [e]
 congr 2
theorem node_zero (a l : Int) : (Tryz.zeroCells168.setIfInBounds 0 (.int .u32 a)).setIfInBounds 1 (.int .i64 l) = (nodeL a l 0 0 false (.pointer none) (.pointer none)).toArray := by kernel_rfl
theorem node_frozen {w : World} {X : Nat} {a l k p : Int} {has : Bool} {n0 n1 : Value} (h : NodeAt w X a l k p has n0 n1) (i : Nat) : w.frozen? ⟨X, i, none⟩ = false := by
 unfold NodeAt at h
 simp [World.frozen?, h]
set_option maxHeartbeats 1000000 in
theorem insert1_a {w : World} {T N : Nat} {k p k0 p0 : Int} {has : Bool} {m0 m1 : Value} (h : TrieAtW w T (.pointer (some ⟨N, 0, none⟩)) 3 1) (hR : NodeAt w N 167772160 8 k0 p0 has m0 m1) :
  Calls Tryz.prog 57 #[.pointer (some ⟨T, 0, none⟩), .agg #[.int .u32 184549376, .int .i64 8], wayV k p] w fun e w' => e = .returned (.int .i64 0) ∧ (∃ X Y, w.heap.size ≤ X ∧ w.heap.size ≤ Y ∧ NodeAt w' X 167772160 7 0 0 false (.pointer (some ⟨N, 0, none⟩)) (.pointer (some ⟨Y, 0, none⟩)) ∧ NodeAt w' Y 184549376 8 k p true (.pointer none) (.pointer none) ∧ TrieAtW w' T (.pointer (some ⟨X, 0, none⟩)) 3 2) ∧ GrowBut (Only T) w w' := by
 have HT : Hid (w.heap[T]? = some (.cells #[.pointer (some ⟨N, 0, none⟩), .int .i64 3, .int .i64 1, .bool true] 159 (0, 0))) := h
 have HR : Hid (NodeAt w N 167772160 8 k0 p0 has m0 m1) := hR
 have HNT : Hid (N ≠ T) := by
  have e1 := h; have e2 := hR
  unfold TrieAtW at e1; unfold NodeAt at e2
  refine Lib.hid (fun e => ?_)
  rw [e, e1] at e2
  injection e2 with e2
  injection e2 with _ e2 _
  revert e2; decide
 have hsA : (w.alloc (.cells #[.int .u32 184549376, .int .i64 8] 35)).heap.size = w.heap.size + 1 := World.size_alloc _ _
 have hV := heap_alloc_new (w.alloc (.cells #[.int .u32 184549376, .int .i64 8] 35)) (.cells (wayL k p).toArray 127)
 rw [hsA] at hV
 have hN : ((w.alloc (.cells #[.int .u32 184549376, .int .i64 8] 35)).alloc (.cells (wayL k p).toArray 127)).heap[w.heap.size]? = some (.cells #[.int .u32 184549376, .int .i64 8] 35 (0, 0)) := (Below.heap_alloc _ _ _ (by rw [hsA]; exact Nat.lt_succ_self _)).trans (heap_alloc_new w _)
 have hG : Grow w ((w.alloc (.cells #[.int .u32 184549376, .int .i64 8] 35)).alloc (.cells (wayL k p).toArray 127)) := ((Grow.refl w).alloc _).alloc _
 unfold wayV
 clear h hR hsA
 go_enter Tryz.func57, Tryz.ntmps57
 go_wp2_with fail
 obtain ⟨w0, hw0⟩ : ∃ x, (w.alloc (.cells #[.int .u32 184549376, .int .i64 8] 35)).alloc (.cells (wayL k p).toArray 127) = x := ⟨_, rfl⟩
 rw [hw0] at hV hN hG ⊢
 have HV0 := Lib.hid hV
 have HN0 := Lib.hid hN
 have HG0 := Lib.hid hG
 have HT0 := Lib.hid ((hG.block _ (lt_of_block HT.out)).trans HT.out)
 have HR0 : Hid (NodeAt w0 N 167772160 8 k0 p0 has m0 m1) := (hG.block _ (lt_of_block HR.out)).trans HR.out
 clear hw0 hV hN hG
 have hq := thereW (root := .pointer (some ⟨N, 0, none⟩)) (limit := 3) (n := 1) HT0.out
 with_reducible refine hq.mono ?_
 clear hq
 rintro e w1 ⟨rfl, rfl⟩
 obtain ⟨d0, d1⟩ := blk2c HN0.out
 go_wp2_with fail
 with_reducible refine (may_184549376 _).mono ?_
 rintro e w2 ⟨rfl, hg⟩
 have HT1 := Lib.hid ((hg.block _ (lt_of_block HT0.out)).trans HT0.out)
 have HR1 : Hid (NodeAt _ N 167772160 8 k0 p0 has m0 m1) := (hg.block _ (lt_of_block HR0.out)).trans HR0.out
 have H2 := Lib.hid ((hg.block _ (lt_of_block HN0.out)).trans HN0.out)
 have HV1 := Lib.hid ((hg.block _ (lt_of_block HV0.out)).trans HV0.out)
 have HG1 := Lib.hid (HG0.out.trans hg)
 clear hg HT0 HR0 HN0 HV0 HG0 d0 d1
 obtain ⟨d0, d1⟩ := blk2c H2.out
 go_wp2_with fail
 have hq := place1_a (lim := 3) (n := 1) HT1.out HR1.out
 with_reducible refine hq.mono ?_
 clear hq
 rintro e w3 ⟨rfl, hg⟩
 have HT2 := Lib.hid ((hg.block _ (lt_of_block HT1.out)).trans HT1.out)
 have HR2 : Hid (NodeAt _ N 167772160 8 k0 p0 has m0 m1) := (hg.block _ (lt_of_block HR1.out)).trans HR1.out
 have HN2 := Lib.hid ((hg.block _ (lt_of_block H2.out)).trans H2.out)
 have HV2 := Lib.hid ((hg.block _ (lt_of_block HV1.out)).trans HV1.out)
 have HG2 := Lib.hid (HG1.out.trans hg)
 clear hg HT1 HR1 H2 HV1 HG1 d0 d1
 obtain ⟨⟨c0, c1, c2, c3⟩, _⟩ := blk4 HT2.out
 go_wp2_with fail
 clear c0 c1 c2 c3
 refine wpRg 16 ?_
 simp only [List.take_succ_cons, List.take_zero, List.drop_succ_cons, List.drop_zero]
 repeat (refine wpHp fun K hK => ?_; go_simp; refine hK _ ?_; clear hK K)
 refine wpHd (.agg #[.int .u32 167772160, .int .i64 8]) (fun w' hg => ?_) ?_
 ·obtain ⟨⟨y0, y1, y2, y3, y4⟩, _⟩ := blkN ((hg.below.block _ (lt_of_block HR2.out)).trans HR2.out)
  clear hg
  go_simp
  exact Below.refl _ _
 try go_simp
 refine wpHd (.agg #[.int .u32 184549376, .int .i64 8]) (fun w' hg => ?_) ?_
 ·obtain ⟨y0, y1⟩ := blk2c ((hg.below.block _ (lt_of_block HN2.out)).trans HN2.out)
  clear hg
  go_simp
  exact Below.refl _ _
 try go_simp
 repeat (refine wpHp fun K hK => ?_; go_simp; refine hK _ ?_; clear hK K)
 refine wpH_nil ?_
 intro xs w4 hg hx1 hx2
 have HT3 := Lib.hid ((hg.below.block _ (lt_of_block HT2.out)).trans HT2.out)
 have HR3 : Hid (NodeAt _ N 167772160 8 k0 p0 has m0 m1) := (hg.below.block _ (lt_of_block HR2.out)).trans HR2.out
 have HN3 := Lib.hid ((hg.below.block _ (lt_of_block HN2.out)).trans HN2.out)
 have HV3 := Lib.hid ((hg.below.block _ (lt_of_block HV2.out)).trans HV2.out)
 have HG3 := Lib.hid (HG2.out.trans hg.below)
 clear hg hx1 hx2 HT2 HR2 HN2 HV2 HG2
 simp only [fill]
 go_simp
 go_wp2_with fail
 refine wpRg 9 ?_
 simp only [List.take_succ_cons, List.take_zero, List.drop_succ_cons, List.drop_zero]
 repeat (refine wpHp fun K hK => ?_; go_simp; refine hK _ ?_; clear hK K)
 refine wpHd (.int .i64 1) (fun w' hg => ?_) ?_
 ·obtain ⟨⟨y0, y1, y2, y3⟩, _⟩ := blk4 ((hg.below.block _ (lt_of_block HT3.out)).trans HT3.out)
  clear hg
  go_simp
  exact Below.refl _ _
 try go_simp
 repeat (refine wpHp fun K hK => ?_; go_simp; refine hK _ ?_; clear hK K)
 refine wpHd (.int .i64 3) (fun w' hg => ?_) ?_
 ·obtain ⟨⟨y0, y1, y2, y3⟩, _⟩ := blk4 ((hg.below.block _ (lt_of_block HT3.out)).trans HT3.out)
  clear hg
  go_simp
  exact Below.refl _ _
 try go_simp
 repeat (refine wpHp fun K hK => ?_; go_simp; refine hK _ ?_; clear hK K)
 refine wpH_nil ?_
 intro xs w5 hg hx1 hx2
 have HT4 := Lib.hid ((hg.below.block _ (lt_of_block HT3.out)).trans HT3.out)
 have HR4 : Hid (NodeAt _ N 167772160 8 k0 p0 has m0 m1) := (hg.below.block _ (lt_of_block HR3.out)).trans HR3.out
 have HN4 := Lib.hid ((hg.below.block _ (lt_of_block HN3.out)).trans HN3.out)
 have HV4 := Lib.hid ((hg.below.block _ (lt_of_block HV3.out)).trans HV3.out)
 have HG4 := Lib.hid (HG3.out.trans hg.below)
 clear hg hx1 hx2 HT3 HR3 HN3 HV3 HG3
 simp only [fill]
 go_simp
 obtain ⟨⟨c0, c1, c2, c3⟩, cz⟩ := blk4 HT4.out
 have cz2 := cz 2
 have HLT : Hid (T < w.heap.size) := lt_of_block HT.out
 go_wp2_with fail
 obtain ⟨w6, hw6⟩ : ∃ x, w5.setCell ⟨T, 2, none⟩ (.int .i64 2) = x := ⟨_, rfl⟩
 have hT5 : (w5.setCell ⟨T, 2, none⟩ (.int .i64 2)).heap[T]? = some (.cells #[.pointer (some ⟨N, 0, none⟩), .int .i64 3, .int .i64 2, .bool true] 159 (0, 0)) := heap_setCell_same _ _ 2 _ _ _ HT4.out
 have hN5 := (Below.heap_setCell w5 ⟨T, 2, none⟩ (.int .i64 2) w.heap.size (show w.heap.size ≠ T by have := HLT.out; omega)).trans HN4.out
 have hV5 := (Below.heap_setCell w5 ⟨T, 2, none⟩ (.int .i64 2) (w.heap.size + 1) (show w.heap.size + 1 ≠ T by have := HLT.out; omega)).trans HV4.out
 have hR5 : NodeAt (w5.setCell ⟨T, 2, none⟩ (.int .i64 2)) N 167772160 8 k0 p0 has m0 m1 := (Below.heap_setCell w5 ⟨T, 2, none⟩ (.int .i64 2) N (show N ≠ T from HNT.out)).trans HR4.out
 have hG5 : GrowBut (Only T) w (w5.setCell ⟨T, 2, none⟩ (.int .i64 2)) := (only_of HG4.out).trans (only_set _)
 rw [hw6] at hT5 hN5 hV5 hR5 hG5 ⊢
 have HT5 := Lib.hid hT5
 have HN5 := Lib.hid hN5
 have HV5 := Lib.hid hV5
 have HR5 := Lib.hid hR5
 have HG5 := Lib.hid hG5
 clear hw6 hT5 hN5 hV5 hR5 hG5 c0 c1 c2 c3 cz cz2 HT4 HN4 HV4 HR4 HG4
 refine wpRg 10 ?_
 simp only [List.take_succ_cons, List.take_zero, List.drop_succ_cons, List.drop_zero]
 repeat (refine wpHp fun K hK => ?_; go_simp; refine hK _ ?_; clear hK K)
 refine wpHd (.agg #[.int .u32 167772160, .int .i64 8]) (fun w' hg => ?_) ?_
 ·obtain ⟨⟨y0, y1, y2, y3, y4⟩, _⟩ := blkN ((hg.below.block _ (lt_of_block HR5.out)).trans HR5.out)
  clear hg
  go_simp
  exact Below.refl _ _
 try go_simp
 refine wpHd (.agg #[.int .u32 184549376, .int .i64 8]) (fun w' hg => ?_) ?_
 ·obtain ⟨y0, y1⟩ := blk2c ((hg.below.block _ (lt_of_block HN5.out)).trans HN5.out)
  clear hg
  go_simp
  exact Below.refl _ _
 try go_simp
 repeat (refine wpHp fun K hK => ?_; go_simp; refine hK _ ?_; clear hK K)
 refine wpH_nil ?_
 intro xs w7 hg hx1 hx2
 have HT6 := Lib.hid ((hg.below.block _ (lt_of_block HT5.out)).trans HT5.out)
 have HR6 : Hid (NodeAt _ N 167772160 8 k0 p0 has m0 m1) := (hg.below.block _ (lt_of_block HR5.out)).trans HR5.out
 have HN6 := Lib.hid ((hg.below.block _ (lt_of_block HN5.out)).trans HN5.out)
 have HV6 := Lib.hid ((hg.below.block _ (lt_of_block HV5.out)).trans HV5.out)
 have HG6 : Hid (GrowBut (Only T) w w7) := HG5.out.trans (GrowBut.of_below hg.below)
 clear hg hx1 hx2 HT5 HR5 HN5 HV5 HG5
 simp only [fill]
 go_simp
 obtain ⟨d0, d1⟩ := blk2c HN6.out
 have HW6 := Lib.hid (WayIn.of_heap HV6.out)
 have HLT6 : Hid (T < w7.heap.size) := lt_of_block HT6.out
 go_wp2_with fail
 rename_i hK
 obtain ⟨dd, hdd, hrr⟩ := row127
 refine wp_load_mid 127 (.tmp 5) rfl (w.heap.size + 1) 0 rfl (wayL k p) dd HW6.out.1 hdd hrr (by rw [wayL_length]; exact size127) ?_
 refine hK _ _ ?_
 clear hK hdd hrr
 refine wpList_build_as rfl 168 _ rfl _ _ (built168 184549376 8 k p) (by simp only [Act.eval, List.map_toArray, List.map]; simp only [go_sem]; try rfl) ?_
 obtain ⟨nd, hnd⟩ : ∃ x, x = Obj.cells (nodeL 184549376 8 k p true (.pointer none) (.pointer none)).toArray 168 := ⟨_, rfl⟩
 have hg := (Grow.refl w7).alloc nd
 have hY := heap_alloc_new w7 nd
 rw [hnd] at hg hY
 go_wp2_with fail
 obtain ⟨w8, hw8⟩ : ∃ x, w7.alloc (Obj.cells (nodeL 184549376 8 k p true (.pointer none) (.pointer none)).toArray 168) = x := ⟨_, rfl⟩
 obtain ⟨Y, hYe⟩ : ∃ x, w7.heap.size = x := ⟨_, rfl⟩
 rw [hw8] at hg hY ⊢
 rw [hYe] at hY ⊢
 have HY7 : Hid (NodeAt w8 Y 184549376 8 k p true (.pointer none) (.pointer none)) := hY
 have HT7 := Lib.hid ((hg.block _ (lt_of_block HT6.out)).trans HT6.out)
 have HR7 : Hid (NodeAt _ N 167772160 8 k0 p0 has m0 m1) := (hg.block _ (lt_of_block HR6.out)).trans HR6.out
 have HN7 := Lib.hid ((hg.block _ (lt_of_block HN6.out)).trans HN6.out)
 have HV7 := Lib.hid ((hg.block _ (lt_of_block HV6.out)).trans HV6.out)
 have HG7 : Hid (GrowBut (Only T) w w8) := HG6.out.trans (only_of hg)
 have HLY : Hid (w.heap.size ≤ Y ∧ T < Y) := by rw [← hYe]; exact ⟨HG6.out.size, HLT6.out⟩
 clear hg hY hnd hw8 hYe HT6 HR6 HN6 HV6 HG6 HLT6 d0 d1
 refine wpRg 7 ?_
 simp only [List.take_succ_cons, List.take_zero, List.drop_succ_cons, List.drop_zero]
 repeat (refine wpHp fun K hK => ?_; go_simp; refine hK _ ?_; clear hK K)
 refine wpHd (.agg #[.int .u32 167772160, .int .i64 8]) (fun w' hg => ?_) ?_
 ·obtain ⟨⟨y0, y1, y2, y3, y4⟩, _⟩ := blkN ((hg.below.block _ (lt_of_block HR7.out)).trans HR7.out)
  clear hg
  go_simp
  exact Below.refl _ _
 try go_simp
 refine wpHd (.agg #[.int .u32 184549376, .int .i64 8]) (fun w' hg => ?_) ?_
 ·obtain ⟨y0, y1⟩ := blk2c ((hg.below.block _ (lt_of_block HN7.out)).trans HN7.out)
  clear hg
  go_simp
  exact Below.refl _ _
 try go_simp
 refine wpHd (.agg #[.int .u32 167772160, .int .i64 7]) (fun w' hg => ?_) ?_
 ·have h := common_167772160_184549376 w'
  clear hg
  go_simp
  with_reducible refine h.mono ?_
  rintro e w1 ⟨rfl, hg⟩
  exact ⟨_, rfl, rfl, hg⟩
 try go_simp
 refine wpH_hid' (NewPx w8.heap.size) (by intro _ _ h; cases h) rfl (by rfl) (fun u x x' hg ⟨B, h1, h2, h3⟩ => ⟨B, h1, (hg.below.block B (lt_of_block h2)).trans h2, h3⟩) (by rfl) (by rfl) (fun w' hg => ?_) ?_
 ·have HS := Lib.hid hg.below.size
  have HN := Lib.hid (heap_alloc_new w' (.cells #[.int .u32 0, .int .i64 0] 35))
  clear hg
  go_simp
  exact ⟨⟨_, rfl, HN.out, HS.out⟩, (Below.refl _ _).alloc (Nat.le_refl _) _⟩
 refine wpH_nil ?_
 intro xs w9 hg hc hx2
 have hp := hx2 _ _ (List.Mem.head _)
 clear hx2 hc
 try dsimp only at hp
 obtain ⟨C, hC, hCb, hCs⟩ := hp
 have HT8 := Lib.hid ((hg.below.block _ (lt_of_block HT7.out)).trans HT7.out)
 have HR8 : Hid (NodeAt _ N 167772160 8 k0 p0 has m0 m1) := (hg.below.block _ (lt_of_block HR7.out)).trans HR7.out
 have HN8 := Lib.hid ((hg.below.block _ (lt_of_block HN7.out)).trans HN7.out)
 have HV8 := Lib.hid ((hg.below.block _ (lt_of_block HV7.out)).trans HV7.out)
 have HY8 : Hid (NodeAt w9 Y 184549376 8 k p true (.pointer none) (.pointer none)) := (hg.below.block _ (lt_of_block HY7.out)).trans HY7.out
 have HG8 : Hid (GrowBut (Only T) w w9) := HG7.out.trans (GrowBut.of_below hg.below)
 have HLC : Hid (w8.heap.size ≤ C ∧ w8.heap.size = w8.heap.size) := ⟨hCs, rfl⟩
 have HLs : Hid (T < w8.heap.size ∧ N < w8.heap.size ∧ Y < w8.heap.size ∧ w.heap.size + 1 < w8.heap.size) := ⟨lt_of_block HT7.out, lt_of_block HR7.out, lt_of_block HY7.out, lt_of_block HV7.out⟩
 simp only [fill]
 generalize xs 10 = y10 at *
 subst hC
 go_simp
 have HCb := Lib.hid hCb
 clear hg hCb hCs HT7 HR7 HN7 HV7 HY7 HG7
 obtain ⟨c0, c1⟩ := blk2c HCb.out
 obtain ⟨_, cz0, cz1⟩ : True ∧ w9.frozen? ⟨C, 0, none⟩ = false ∧ w9.frozen? ⟨C, 1, none⟩ = false := by refine ⟨trivial, ?_, ?_⟩ <;> simp [World.frozen?, HCb.out]
 go_upto_region 21 with fail
 clear c0 c1 cz0 cz1
 have hC := heap_setCell_same _ _ 1 _ _ (.int .i64 7) (heap_setCell_same _ _ 0 _ _ (.int .u32 167772160) HCb.out)
 have hfar : ∀ j, j < w8.heap.size → ((w9.setCell ⟨C, 0, none⟩ (.int .u32 167772160)).setCell ⟨C, 1, none⟩ (.int .i64 7)).heap[j]? = w9.heap[j]? := fun j hj => by
  have hc := HLC.out.1
  have hne : j ≠ C := by omega
  exact (Below.heap_setCell _ ⟨C, 1, none⟩ (.int .i64 7) j hne).trans (Below.heap_setCell _ ⟨C, 0, none⟩ (.int .u32 167772160) j hne)
 have hG9 : GrowBut (Only T) w ((w9.setCell ⟨C, 0, none⟩ (.int .u32 167772160)).setCell ⟨C, 1, none⟩ (.int .i64 7)) := HG8.out.putNew2 (by have := HLC.out.1; have := HLs.out; omega)
 obtain ⟨w10, hw10⟩ : ∃ x, ((w9.setCell ⟨C, 0, none⟩ (.int .u32 167772160)).setCell ⟨C, 1, none⟩ (.int .i64 7)) = x := ⟨_, rfl⟩
 rw [hw10] at hC hfar hG9 ⊢
 have HC9 : Hid (w10.heap[C]? = some (.cells #[.int .u32 167772160, .int .i64 7] 35 (0, 0))) := hC
 have HT9 := Lib.hid ((hfar T HLs.out.1).trans HT8.out)
 have HR9 : Hid (NodeAt w10 N 167772160 8 k0 p0 has m0 m1) := (hfar N HLs.out.2.1).trans HR8.out
 have HY9 : Hid (NodeAt w10 Y 184549376 8 k p true (.pointer none) (.pointer none)) := (hfar Y HLs.out.2.2.1).trans HY8.out
 have HN9 := Lib.hid ((hfar w.heap.size (by have := HLs.out.2.2.2; omega)).trans HN8.out)
 have HG9 := Lib.hid hG9
 clear hC hfar hG9 hw10 HT8 HR8 HY8 HN8 HV8 HG8 HCb
 obtain ⟨c0, c1⟩ := blk2c HC9.out
 obtain ⟨d0, d1⟩ := blk2c HN9.out
 have hg : Grow w10 (w10.alloc (Obj.cells ((Tryz.zeroCells168.setIfInBounds 0 (.int .u32 167772160)).setIfInBounds 1 (.int .i64 7)) 168)) := (Grow.refl w10).alloc _
 have hX := heap_alloc_new w10 (Obj.cells ((Tryz.zeroCells168.setIfInBounds 0 (.int .u32 167772160)).setIfInBounds 1 (.int .i64 7)) 168)
 go_upto_region 26 with fail
 obtain ⟨w11, hw11⟩ : ∃ x, w10.alloc (Obj.cells ((Tryz.zeroCells168.setIfInBounds 0 (.int .u32 167772160)).setIfInBounds 1 (.int .i64 7)) 168) = x := ⟨_, rfl⟩
 obtain ⟨X, hXe⟩ : ∃ x, w10.heap.size = x := ⟨_, rfl⟩
 rw [hw11] at hg hX ⊢
 rw [hXe] at hX ⊢
 rw [node_zero] at hX
 have HX10 : Hid (NodeAt w11 X 167772160 7 0 0 false (.pointer none) (.pointer none)) := hX
 have HC10 := Lib.hid ((hg.block _ (lt_of_block HC9.out)).trans HC9.out)
 have HT10 := Lib.hid ((hg.block _ (lt_of_block HT9.out)).trans HT9.out)
 have HR10 : Hid (NodeAt w11 N 167772160 8 k0 p0 has m0 m1) := (hg.block _ (lt_of_block HR9.out)).trans HR9.out
 have HY10 : Hid (NodeAt w11 Y 184549376 8 k p true (.pointer none) (.pointer none)) := (hg.block _ (lt_of_block HY9.out)).trans HY9.out
 have H20 := Lib.hid ((hg.block _ (lt_of_block HN9.out)).trans HN9.out)
 have HG10 : Hid (GrowBut (Only T) w w11) := HG9.out.trans (only_of hg)
 have HLX : Hid ((C < X ∧ T < X ∧ N < X) ∧ Y < X ∧ w.heap.size < X) := by rw [← hXe]; exact ⟨⟨lt_of_block HC9.out, lt_of_block HT9.out, lt_of_block HR9.out⟩, lt_of_block HY9.out, lt_of_block HN9.out⟩
 clear hg hX hw11 hXe HC9 HT9 HR9 HY9 HN9 HG9 c0 c1 d0 d1
 refine wp_region_grow 25 [20, 24] (Only X) (fun x => NodeAt x X 167772160 7 0 0 false (.pointer none) (.pointer none)) (by kernel_rfl) (by kernel_rfl) (by rfl) (fun w w' hb hx => (hb.block _ (lt_of_block hx)).trans hx) HX10.out ?_
 simp only [List.take_succ_cons, List.take_zero, List.drop_succ_cons, List.drop_zero]
 repeat (refine wpHp fun K hK => ?_; go_simp; refine hK _ ?_; clear hK K)
 refine wpHd (.int .u32 184549376) (fun w' hg => ?_) ?_
 ·obtain ⟨y0, y1⟩ := blk2c ((hg.block _ (lt_of_block H20.out) (fun e => by have e : w.heap.size = X := e; have := HLX.out; omega)).trans H20.out)
  clear hg
  go_simp
  exact Below.refl _ _
 try go_simp
 repeat (refine wpHp fun K hK => ?_; go_simp; refine hK _ ?_; clear hK K)
 refine wpHd (.int .i64 7) (fun w' hg => ?_) ?_
 ·obtain ⟨y0, y1⟩ := blk2c ((hg.block _ (lt_of_block HC10.out) (fun e => by have e : C = X := e; have := HLX.out; omega)).trans HC10.out)
  clear hg
  go_simp
  exact Below.refl _ _
 try go_simp
 refine wpHd (.int .i64 1) (fun w' hg => ?_) ?_
 ·have h := bit_184549376_7 w'
  clear hg
  go_simp
  with_reducible refine h.mono ?_
  rintro e w1 ⟨rfl, rfl⟩
  exact ⟨_, rfl, rfl, Below.refl _ _⟩
 try go_simp
 repeat (refine wpHp fun K hK => ?_; go_simp; refine hK _ ?_; clear hK K)
 refine wpHd (.int .u32 167772160) (fun w' hg => ?_) ?_
 ·obtain ⟨⟨y0, y1, y2, y3, y4⟩, _⟩ := blkN ((hg.block _ (lt_of_block HR10.out) (fun e => by have e : N = X := e; have := HLX.out; omega)).trans HR10.out)
  clear hg
  go_simp
  exact Below.refl _ _
 try go_simp
 repeat (refine wpHp fun K hK => ?_; go_simp; refine hK _ ?_; clear hK K)
 refine wpHd (.int .i64 7) (fun w' hg => ?_) ?_
 ·obtain ⟨y0, y1⟩ := blk2c ((hg.block _ (lt_of_block HC10.out) (fun e => by have e : C = X := e; have := HLX.out; omega)).trans HC10.out)
  clear hg
  go_simp
  exact Below.refl _ _
 try go_simp
 refine wpHd (.int .i64 0) (fun w' hg => ?_) ?_
 ·have h := bit_167772160_7 w'
  clear hg
  go_simp
  with_reducible refine h.mono ?_
  rintro e w1 ⟨rfl, rfl⟩
  exact ⟨_, rfl, rfl, Below.refl _ _⟩
 try go_simp
 repeat (refine wpHp fun K hK => ?_; go_simp; refine hK _ ?_; clear hK K)
 refine wpH_cdet' undef (fun x => NodeAt x X 167772160 7 0 0 false (.pointer none) (.pointer (some ⟨Y, 0, none⟩))) (by intro _ _ h; cases h) (by rfl) (fun x x' hb hx => (hb.block _ (lt_of_block hx)).trans hx) (by rfl) (by rfl) (fun w' hg hc => ?_) ?_
 ·obtain ⟨⟨y0, y1, y2, y3, y4⟩, _⟩ := blkN hc
  have z := node_frozen hc 261
  have HC := Lib.hid hc
  clear hg hc
  go_simp
  exact ⟨(GrowBut.refl (Only X) w').setCell (a := ⟨X, 261, none⟩) (show Only X X from rfl) _, node_put1 HC.out _⟩
 try go_simp
 repeat (refine wpHp fun K hK => ?_; go_simp; refine hK _ ?_; clear hK K)
 refine wpH_cdet' undef (fun x => NodeAt x X 167772160 7 0 0 false (.pointer (some ⟨N, 0, none⟩)) (.pointer (some ⟨Y, 0, none⟩))) (by intro _ _ h; cases h) (by rfl) (fun x x' hb hx => (hb.block _ (lt_of_block hx)).trans hx) (by rfl) (by rfl) (fun w' hg hc => ?_) ?_
 ·obtain ⟨⟨y0, y1, y2, y3, y4⟩, _⟩ := blkN hc
  have z := node_frozen hc 260
  have HC := Lib.hid hc
  clear hg hc
  go_simp
  exact ⟨(GrowBut.refl (Only X) w').setCell (a := ⟨X, 260, none⟩) (show Only X X from rfl) _, node_put0 HC.out _⟩
 try go_simp
 refine wpH_nil ?_
 intro xs w12 hg hc hx2
 have HX11 := Lib.hid hc
 have HT11 := Lib.hid ((hg.block _ (lt_of_block HT10.out) (fun e => by have e : T = X := e; have := HLX.out; omega)).trans HT10.out)
 have HY11 : Hid (NodeAt w12 Y 184549376 8 k p true (.pointer none) (.pointer none)) := (hg.block _ (lt_of_block HY10.out) (fun e => by have e : Y = X := e; have := HLX.out; omega)).trans HY10.out
 have HG11 : Hid (GrowBut (Only T) w w12) := ⟨hg.os.trans HG10.out.os, hg.tape.trans HG10.out.tape, hg.output.trans HG10.out.output, Nat.le_trans HG10.out.size hg.size, fun j hj hm => (hg.block j (Nat.lt_of_lt_of_le hj HG10.out.size) (fun e => by have e : j = X := e; have := HLX.out; omega)).trans (HG10.out.block j hj hm)⟩
 clear hg hc hx2 HX10 HC10 HT10 HR10 HY10 H20 HG10
 simp only [fill]
 go_simp
 obtain ⟨⟨c0, c1, c2, c3⟩, cz⟩ := blk4 HT11.out
 have cz0 := cz 0
 clear cz
 go_wp2_with fail
 have hX12 : NodeAt (w12.setCell ⟨T, 0, none⟩ (.pointer (some ⟨X, 0, none⟩))) X 167772160 7 0 0 false (.pointer (some ⟨N, 0, none⟩)) (.pointer (some ⟨Y, 0, none⟩)) := (Below.heap_setCell _ ⟨T, 0, none⟩ _ X (show X ≠ T by have := HLX.out; omega)).trans HX11.out
 have hY12 : NodeAt (w12.setCell ⟨T, 0, none⟩ (.pointer (some ⟨X, 0, none⟩))) Y 184549376 8 k p true (.pointer none) (.pointer none) := (Below.heap_setCell _ ⟨T, 0, none⟩ _ Y (show Y ≠ T by have := HLY.out; omega)).trans HY11.out
 have hT12 := heap_setCell_same _ _ 0 _ _ (.pointer (some ⟨X, 0, none⟩)) HT11.out
 have hG12 : GrowBut (Only T) w (w12.setCell ⟨T, 0, none⟩ (.pointer (some ⟨X, 0, none⟩))) := HG11.out.trans (only_set _)
 refine bodyPost_ret (v := .int .i64 0) (by simp [results, Tryz.results57, go_sem]) rfl ?_
 exact ⟨rfl, ⟨X, by have := HLX.out; omega, Y, HLY.out.1, hX12, hY12, hT12⟩, hG12⟩
set_option maxHeartbeats 1000000 in
theorem insert1_b {w : World} {T N : Nat} {k p k0 p0 : Int} {has : Bool} {m0 m1 : Value} (h : TrieAtW w T (.pointer (some ⟨N, 0, none⟩)) 3 2) (hR : NodeAt w N 167772160 7 k0 p0 has m0 m1) :
  Calls Tryz.prog 57 #[.pointer (some ⟨T, 0, none⟩), .agg #[.int .u32 201326592, .int .i64 8], wayV k p] w fun e w' => e = .returned (.int .i64 0) ∧ (∃ X Y, w.heap.size ≤ X ∧ w.heap.size ≤ Y ∧ NodeAt w' X 134217728 5 0 0 false (.pointer (some ⟨N, 0, none⟩)) (.pointer (some ⟨Y, 0, none⟩)) ∧ NodeAt w' Y 201326592 8 k p true (.pointer none) (.pointer none) ∧ TrieAtW w' T (.pointer (some ⟨X, 0, none⟩)) 3 3) ∧ GrowBut (Only T) w w' := by
 have HT : Hid (w.heap[T]? = some (.cells #[.pointer (some ⟨N, 0, none⟩), .int .i64 3, .int .i64 2, .bool true] 159 (0, 0))) := h
 have HR : Hid (NodeAt w N 167772160 7 k0 p0 has m0 m1) := hR
 have HNT : Hid (N ≠ T) := by
  have e1 := h; have e2 := hR
  unfold TrieAtW at e1; unfold NodeAt at e2
  refine Lib.hid (fun e => ?_)
  rw [e, e1] at e2
  injection e2 with e2
  injection e2 with _ e2 _
  revert e2; decide
 have hsA : (w.alloc (.cells #[.int .u32 201326592, .int .i64 8] 35)).heap.size = w.heap.size + 1 := World.size_alloc _ _
 have hV := heap_alloc_new (w.alloc (.cells #[.int .u32 201326592, .int .i64 8] 35)) (.cells (wayL k p).toArray 127)
 rw [hsA] at hV
 have hN : ((w.alloc (.cells #[.int .u32 201326592, .int .i64 8] 35)).alloc (.cells (wayL k p).toArray 127)).heap[w.heap.size]? = some (.cells #[.int .u32 201326592, .int .i64 8] 35 (0, 0)) := (Below.heap_alloc _ _ _ (by rw [hsA]; exact Nat.lt_succ_self _)).trans (heap_alloc_new w _)
 have hG : Grow w ((w.alloc (.cells #[.int .u32 201326592, .int .i64 8] 35)).alloc (.cells (wayL k p).toArray 127)) := ((Grow.refl w).alloc _).alloc _
 unfold wayV
 clear h hR hsA
 go_enter Tryz.func57, Tryz.ntmps57
 go_wp2_with fail
 obtain ⟨w0, hw0⟩ : ∃ x, (w.alloc (.cells #[.int .u32 201326592, .int .i64 8] 35)).alloc (.cells (wayL k p).toArray 127) = x := ⟨_, rfl⟩
 rw [hw0] at hV hN hG ⊢
 have HV0 := Lib.hid hV
 have HN0 := Lib.hid hN
 have HG0 := Lib.hid hG
 have HT0 := Lib.hid ((hG.block _ (lt_of_block HT.out)).trans HT.out)
 have HR0 : Hid (NodeAt w0 N 167772160 7 k0 p0 has m0 m1) := (hG.block _ (lt_of_block HR.out)).trans HR.out
 clear hw0 hV hN hG
 have hq := thereW (root := .pointer (some ⟨N, 0, none⟩)) (limit := 3) (n := 2) HT0.out
 with_reducible refine hq.mono ?_
 clear hq
 rintro e w1 ⟨rfl, rfl⟩
 obtain ⟨d0, d1⟩ := blk2c HN0.out
 go_wp2_with fail
 with_reducible refine (may_201326592 _).mono ?_
 rintro e w2 ⟨rfl, hg⟩
 have HT1 := Lib.hid ((hg.block _ (lt_of_block HT0.out)).trans HT0.out)
 have HR1 : Hid (NodeAt _ N 167772160 7 k0 p0 has m0 m1) := (hg.block _ (lt_of_block HR0.out)).trans HR0.out
 have H3 := Lib.hid ((hg.block _ (lt_of_block HN0.out)).trans HN0.out)
 have HV1 := Lib.hid ((hg.block _ (lt_of_block HV0.out)).trans HV0.out)
 have HG1 := Lib.hid (HG0.out.trans hg)
 clear hg HT0 HR0 HN0 HV0 HG0 d0 d1
 obtain ⟨d0, d1⟩ := blk2c H3.out
 go_wp2_with fail
 have hq := place1_b (lim := 3) (n := 2) HT1.out HR1.out
 with_reducible refine hq.mono ?_
 clear hq
 rintro e w3 ⟨rfl, hg⟩
 have HT2 := Lib.hid ((hg.block _ (lt_of_block HT1.out)).trans HT1.out)
 have HR2 : Hid (NodeAt _ N 167772160 7 k0 p0 has m0 m1) := (hg.block _ (lt_of_block HR1.out)).trans HR1.out
 have HN2 := Lib.hid ((hg.block _ (lt_of_block H3.out)).trans H3.out)
 have HV2 := Lib.hid ((hg.block _ (lt_of_block HV1.out)).trans HV1.out)
 have HG2 := Lib.hid (HG1.out.trans hg)
 clear hg HT1 HR1 H3 HV1 HG1 d0 d1
 obtain ⟨⟨c0, c1, c2, c3⟩, _⟩ := blk4 HT2.out
 go_wp2_with fail
 clear c0 c1 c2 c3
 refine wpRg 16 ?_
 simp only [List.take_succ_cons, List.take_zero, List.drop_succ_cons, List.drop_zero]
 repeat (refine wpHp fun K hK => ?_; go_simp; refine hK _ ?_; clear hK K)
 refine wpHd (.agg #[.int .u32 167772160, .int .i64 7]) (fun w' hg => ?_) ?_
 ·obtain ⟨⟨y0, y1, y2, y3, y4⟩, _⟩ := blkN ((hg.below.block _ (lt_of_block HR2.out)).trans HR2.out)
  clear hg
  go_simp
  exact Below.refl _ _
 try go_simp
 refine wpHd (.agg #[.int .u32 201326592, .int .i64 8]) (fun w' hg => ?_) ?_
 ·obtain ⟨y0, y1⟩ := blk2c ((hg.below.block _ (lt_of_block HN2.out)).trans HN2.out)
  clear hg
  go_simp
  exact Below.refl _ _
 try go_simp
 repeat (refine wpHp fun K hK => ?_; go_simp; refine hK _ ?_; clear hK K)
 refine wpH_nil ?_
 intro xs w4 hg hx1 hx2
 have HT3 := Lib.hid ((hg.below.block _ (lt_of_block HT2.out)).trans HT2.out)
 have HR3 : Hid (NodeAt _ N 167772160 7 k0 p0 has m0 m1) := (hg.below.block _ (lt_of_block HR2.out)).trans HR2.out
 have HN3 := Lib.hid ((hg.below.block _ (lt_of_block HN2.out)).trans HN2.out)
 have HV3 := Lib.hid ((hg.below.block _ (lt_of_block HV2.out)).trans HV2.out)
 have HG3 := Lib.hid (HG2.out.trans hg.below)
 clear hg hx1 hx2 HT2 HR2 HN2 HV2 HG2
 simp only [fill]
 go_simp
 go_wp2_with fail
 refine wpRg 9 ?_
 simp only [List.take_succ_cons, List.take_zero, List.drop_succ_cons, List.drop_zero]
 repeat (refine wpHp fun K hK => ?_; go_simp; refine hK _ ?_; clear hK K)
 refine wpHd (.int .i64 2) (fun w' hg => ?_) ?_
 ·obtain ⟨⟨y0, y1, y2, y3⟩, _⟩ := blk4 ((hg.below.block _ (lt_of_block HT3.out)).trans HT3.out)
  clear hg
  go_simp
  exact Below.refl _ _
 try go_simp
 repeat (refine wpHp fun K hK => ?_; go_simp; refine hK _ ?_; clear hK K)
 refine wpHd (.int .i64 3) (fun w' hg => ?_) ?_
 ·obtain ⟨⟨y0, y1, y2, y3⟩, _⟩ := blk4 ((hg.below.block _ (lt_of_block HT3.out)).trans HT3.out)
  clear hg
  go_simp
  exact Below.refl _ _
 try go_simp
 repeat (refine wpHp fun K hK => ?_; go_simp; refine hK _ ?_; clear hK K)
 refine wpH_nil ?_
 intro xs w5 hg hx1 hx2
 have HT4 := Lib.hid ((hg.below.block _ (lt_of_block HT3.out)).trans HT3.out)
 have HR4 : Hid (NodeAt _ N 167772160 7 k0 p0 has m0 m1) := (hg.below.block _ (lt_of_block HR3.out)).trans HR3.out
 have HN4 := Lib.hid ((hg.below.block _ (lt_of_block HN3.out)).trans HN3.out)
 have HV4 := Lib.hid ((hg.below.block _ (lt_of_block HV3.out)).trans HV3.out)
 have HG4 := Lib.hid (HG3.out.trans hg.below)
 clear hg hx1 hx2 HT3 HR3 HN3 HV3 HG3
 simp only [fill]
 go_simp
 obtain ⟨⟨c0, c1, c2, c3⟩, cz⟩ := blk4 HT4.out
 have cz2 := cz 2
 have HLT : Hid (T < w.heap.size) := lt_of_block HT.out
 go_wp2_with fail
 obtain ⟨w6, hw6⟩ : ∃ x, w5.setCell ⟨T, 2, none⟩ (.int .i64 3) = x := ⟨_, rfl⟩
 have hT5 : (w5.setCell ⟨T, 2, none⟩ (.int .i64 3)).heap[T]? = some (.cells #[.pointer (some ⟨N, 0, none⟩), .int .i64 3, .int .i64 3, .bool true] 159 (0, 0)) := heap_setCell_same _ _ 2 _ _ _ HT4.out
 have hN5 := (Below.heap_setCell w5 ⟨T, 2, none⟩ (.int .i64 3) w.heap.size (show w.heap.size ≠ T by have := HLT.out; omega)).trans HN4.out
 have hV5 := (Below.heap_setCell w5 ⟨T, 2, none⟩ (.int .i64 3) (w.heap.size + 1) (show w.heap.size + 1 ≠ T by have := HLT.out; omega)).trans HV4.out
 have hR5 : NodeAt (w5.setCell ⟨T, 2, none⟩ (.int .i64 3)) N 167772160 7 k0 p0 has m0 m1 := (Below.heap_setCell w5 ⟨T, 2, none⟩ (.int .i64 3) N (show N ≠ T from HNT.out)).trans HR4.out
 have hG5 : GrowBut (Only T) w (w5.setCell ⟨T, 2, none⟩ (.int .i64 3)) := (only_of HG4.out).trans (only_set _)
 rw [hw6] at hT5 hN5 hV5 hR5 hG5 ⊢
 have HT5 := Lib.hid hT5
 have HN5 := Lib.hid hN5
 have HV5 := Lib.hid hV5
 have HR5 := Lib.hid hR5
 have HG5 := Lib.hid hG5
 clear hw6 hT5 hN5 hV5 hR5 hG5 c0 c1 c2 c3 cz cz2 HT4 HN4 HV4 HR4 HG4
 refine wpRg 10 ?_
 simp only [List.take_succ_cons, List.take_zero, List.drop_succ_cons, List.drop_zero]
 repeat (refine wpHp fun K hK => ?_; go_simp; refine hK _ ?_; clear hK K)
 refine wpHd (.agg #[.int .u32 167772160, .int .i64 7]) (fun w' hg => ?_) ?_
 ·obtain ⟨⟨y0, y1, y2, y3, y4⟩, _⟩ := blkN ((hg.below.block _ (lt_of_block HR5.out)).trans HR5.out)
  clear hg
  go_simp
  exact Below.refl _ _
 try go_simp
 refine wpHd (.agg #[.int .u32 201326592, .int .i64 8]) (fun w' hg => ?_) ?_
 ·obtain ⟨y0, y1⟩ := blk2c ((hg.below.block _ (lt_of_block HN5.out)).trans HN5.out)
  clear hg
  go_simp
  exact Below.refl _ _
 try go_simp
 repeat (refine wpHp fun K hK => ?_; go_simp; refine hK _ ?_; clear hK K)
 refine wpH_nil ?_
 intro xs w7 hg hx1 hx2
 have HT6 := Lib.hid ((hg.below.block _ (lt_of_block HT5.out)).trans HT5.out)
 have HR6 : Hid (NodeAt _ N 167772160 7 k0 p0 has m0 m1) := (hg.below.block _ (lt_of_block HR5.out)).trans HR5.out
 have HN6 := Lib.hid ((hg.below.block _ (lt_of_block HN5.out)).trans HN5.out)
 have HV6 := Lib.hid ((hg.below.block _ (lt_of_block HV5.out)).trans HV5.out)
 have HG6 : Hid (GrowBut (Only T) w w7) := HG5.out.trans (GrowBut.of_below hg.below)
 clear hg hx1 hx2 HT5 HR5 HN5 HV5 HG5
 simp only [fill]
 go_simp
 obtain ⟨d0, d1⟩ := blk2c HN6.out
 have HW6 := Lib.hid (WayIn.of_heap HV6.out)
 have HLT6 : Hid (T < w7.heap.size) := lt_of_block HT6.out
 go_wp2_with fail
 rename_i hK
 obtain ⟨dd, hdd, hrr⟩ := row127
 refine wp_load_mid 127 (.tmp 5) rfl (w.heap.size + 1) 0 rfl (wayL k p) dd HW6.out.1 hdd hrr (by rw [wayL_length]; exact size127) ?_
 refine hK _ _ ?_
 clear hK hdd hrr
 refine wpList_build_as rfl 168 _ rfl _ _ (built168 201326592 8 k p) (by simp only [Act.eval, List.map_toArray, List.map]; simp only [go_sem]; try rfl) ?_
 obtain ⟨nd, hnd⟩ : ∃ x, x = Obj.cells (nodeL 201326592 8 k p true (.pointer none) (.pointer none)).toArray 168 := ⟨_, rfl⟩
 have hg := (Grow.refl w7).alloc nd
 have hY := heap_alloc_new w7 nd
 rw [hnd] at hg hY
 go_wp2_with fail
 obtain ⟨w8, hw8⟩ : ∃ x, w7.alloc (Obj.cells (nodeL 201326592 8 k p true (.pointer none) (.pointer none)).toArray 168) = x := ⟨_, rfl⟩
 obtain ⟨Y, hYe⟩ : ∃ x, w7.heap.size = x := ⟨_, rfl⟩
 rw [hw8] at hg hY ⊢
 rw [hYe] at hY ⊢
 have HY7 : Hid (NodeAt w8 Y 201326592 8 k p true (.pointer none) (.pointer none)) := hY
 have HT7 := Lib.hid ((hg.block _ (lt_of_block HT6.out)).trans HT6.out)
 have HR7 : Hid (NodeAt _ N 167772160 7 k0 p0 has m0 m1) := (hg.block _ (lt_of_block HR6.out)).trans HR6.out
 have HN7 := Lib.hid ((hg.block _ (lt_of_block HN6.out)).trans HN6.out)
 have HV7 := Lib.hid ((hg.block _ (lt_of_block HV6.out)).trans HV6.out)
 have HG7 : Hid (GrowBut (Only T) w w8) := HG6.out.trans (only_of hg)
 have HLY : Hid (w.heap.size ≤ Y ∧ T < Y) := by rw [← hYe]; exact ⟨HG6.out.size, HLT6.out⟩
 clear hg hY hnd hw8 hYe HT6 HR6 HN6 HV6 HG6 HLT6 d0 d1
 refine wpRg 7 ?_
 simp only [List.take_succ_cons, List.take_zero, List.drop_succ_cons, List.drop_zero]
 repeat (refine wpHp fun K hK => ?_; go_simp; refine hK _ ?_; clear hK K)
 refine wpHd (.agg #[.int .u32 167772160, .int .i64 7]) (fun w' hg => ?_) ?_
 ·obtain ⟨⟨y0, y1, y2, y3, y4⟩, _⟩ := blkN ((hg.below.block _ (lt_of_block HR7.out)).trans HR7.out)
  clear hg
  go_simp
  exact Below.refl _ _
 try go_simp
 refine wpHd (.agg #[.int .u32 201326592, .int .i64 8]) (fun w' hg => ?_) ?_
 ·obtain ⟨y0, y1⟩ := blk2c ((hg.below.block _ (lt_of_block HN7.out)).trans HN7.out)
  clear hg
  go_simp
  exact Below.refl _ _
 try go_simp
 refine wpHd (.agg #[.int .u32 134217728, .int .i64 5]) (fun w' hg => ?_) ?_
 ·have h := common_167772160_201326592 w'
  clear hg
  go_simp
  with_reducible refine h.mono ?_
  rintro e w1 ⟨rfl, hg⟩
  exact ⟨_, rfl, rfl, hg⟩
 try go_simp
 refine wpH_hid' (NewPx w8.heap.size) (by intro _ _ h; cases h) rfl (by rfl) (fun u x x' hg ⟨B, h1, h2, h3⟩ => ⟨B, h1, (hg.below.block B (lt_of_block h2)).trans h2, h3⟩) (by rfl) (by rfl) (fun w' hg => ?_) ?_
 ·have HS := Lib.hid hg.below.size
  have HN := Lib.hid (heap_alloc_new w' (.cells #[.int .u32 0, .int .i64 0] 35))
  clear hg
  go_simp
  exact ⟨⟨_, rfl, HN.out, HS.out⟩, (Below.refl _ _).alloc (Nat.le_refl _) _⟩
 refine wpH_nil ?_
 intro xs w9 hg hc hx2
 have hp := hx2 _ _ (List.Mem.head _)
 clear hx2 hc
 try dsimp only at hp
 obtain ⟨C, hC, hCb, hCs⟩ := hp
 have HT8 := Lib.hid ((hg.below.block _ (lt_of_block HT7.out)).trans HT7.out)
 have HR8 : Hid (NodeAt _ N 167772160 7 k0 p0 has m0 m1) := (hg.below.block _ (lt_of_block HR7.out)).trans HR7.out
 have HN8 := Lib.hid ((hg.below.block _ (lt_of_block HN7.out)).trans HN7.out)
 have HV8 := Lib.hid ((hg.below.block _ (lt_of_block HV7.out)).trans HV7.out)
 have HY8 : Hid (NodeAt w9 Y 201326592 8 k p true (.pointer none) (.pointer none)) := (hg.below.block _ (lt_of_block HY7.out)).trans HY7.out
 have HG8 : Hid (GrowBut (Only T) w w9) := HG7.out.trans (GrowBut.of_below hg.below)
 have HLC : Hid (w8.heap.size ≤ C ∧ w8.heap.size = w8.heap.size) := ⟨hCs, rfl⟩
 have HLs : Hid (T < w8.heap.size ∧ N < w8.heap.size ∧ Y < w8.heap.size ∧ w.heap.size + 1 < w8.heap.size) := ⟨lt_of_block HT7.out, lt_of_block HR7.out, lt_of_block HY7.out, lt_of_block HV7.out⟩
 simp only [fill]
 generalize xs 10 = y10 at *
 subst hC
 go_simp
 have HCb := Lib.hid hCb
 clear hg hCb hCs HT7 HR7 HN7 HV7 HY7 HG7
 obtain ⟨c0, c1⟩ := blk2c HCb.out
 obtain ⟨_, cz0, cz1⟩ : True ∧ w9.frozen? ⟨C, 0, none⟩ = false ∧ w9.frozen? ⟨C, 1, none⟩ = false := by refine ⟨trivial, ?_, ?_⟩ <;> simp [World.frozen?, HCb.out]
 go_upto_region 21 with fail
 clear c0 c1 cz0 cz1
 have hC := heap_setCell_same _ _ 1 _ _ (.int .i64 5) (heap_setCell_same _ _ 0 _ _ (.int .u32 134217728) HCb.out)
 have hfar : ∀ j, j < w8.heap.size → ((w9.setCell ⟨C, 0, none⟩ (.int .u32 134217728)).setCell ⟨C, 1, none⟩ (.int .i64 5)).heap[j]? = w9.heap[j]? := fun j hj => by
  have hc := HLC.out.1
  have hne : j ≠ C := by omega
  exact (Below.heap_setCell _ ⟨C, 1, none⟩ (.int .i64 5) j hne).trans (Below.heap_setCell _ ⟨C, 0, none⟩ (.int .u32 134217728) j hne)
 have hG9 : GrowBut (Only T) w ((w9.setCell ⟨C, 0, none⟩ (.int .u32 134217728)).setCell ⟨C, 1, none⟩ (.int .i64 5)) := HG8.out.putNew2 (by have := HLC.out.1; have := HLs.out; omega)
 obtain ⟨w10, hw10⟩ : ∃ x, ((w9.setCell ⟨C, 0, none⟩ (.int .u32 134217728)).setCell ⟨C, 1, none⟩ (.int .i64 5)) = x := ⟨_, rfl⟩
 rw [hw10] at hC hfar hG9 ⊢
 have HC9 : Hid (w10.heap[C]? = some (.cells #[.int .u32 134217728, .int .i64 5] 35 (0, 0))) := hC
 have HT9 := Lib.hid ((hfar T HLs.out.1).trans HT8.out)
 have HR9 : Hid (NodeAt w10 N 167772160 7 k0 p0 has m0 m1) := (hfar N HLs.out.2.1).trans HR8.out
 have HY9 : Hid (NodeAt w10 Y 201326592 8 k p true (.pointer none) (.pointer none)) := (hfar Y HLs.out.2.2.1).trans HY8.out
 have HN9 := Lib.hid ((hfar w.heap.size (by have := HLs.out.2.2.2; omega)).trans HN8.out)
 have HG9 := Lib.hid hG9
 clear hC hfar hG9 hw10 HT8 HR8 HY8 HN8 HV8 HG8 HCb
 obtain ⟨c0, c1⟩ := blk2c HC9.out
 obtain ⟨d0, d1⟩ := blk2c HN9.out
 have hg : Grow w10 (w10.alloc (Obj.cells ((Tryz.zeroCells168.setIfInBounds 0 (.int .u32 134217728)).setIfInBounds 1 (.int .i64 5)) 168)) := (Grow.refl w10).alloc _
 have hX := heap_alloc_new w10 (Obj.cells ((Tryz.zeroCells168.setIfInBounds 0 (.int .u32 134217728)).setIfInBounds 1 (.int .i64 5)) 168)
 go_upto_region 26 with fail
 obtain ⟨w11, hw11⟩ : ∃ x, w10.alloc (Obj.cells ((Tryz.zeroCells168.setIfInBounds 0 (.int .u32 134217728)).setIfInBounds 1 (.int .i64 5)) 168) = x := ⟨_, rfl⟩
 obtain ⟨X, hXe⟩ : ∃ x, w10.heap.size = x := ⟨_, rfl⟩
 rw [hw11] at hg hX ⊢
 rw [hXe] at hX ⊢
 rw [node_zero] at hX
 have HX10 : Hid (NodeAt w11 X 134217728 5 0 0 false (.pointer none) (.pointer none)) := hX
 have HC10 := Lib.hid ((hg.block _ (lt_of_block HC9.out)).trans HC9.out)
 have HT10 := Lib.hid ((hg.block _ (lt_of_block HT9.out)).trans HT9.out)
 have HR10 : Hid (NodeAt w11 N 167772160 7 k0 p0 has m0 m1) := (hg.block _ (lt_of_block HR9.out)).trans HR9.out
 have HY10 : Hid (NodeAt w11 Y 201326592 8 k p true (.pointer none) (.pointer none)) := (hg.block _ (lt_of_block HY9.out)).trans HY9.out
 have H30 := Lib.hid ((hg.block _ (lt_of_block HN9.out)).trans HN9.out)
 have HG10 : Hid (GrowBut (Only T) w w11) := HG9.out.trans (only_of hg)
 have HLX : Hid ((C < X ∧ T < X ∧ N < X) ∧ Y < X ∧ w.heap.size < X) := by rw [← hXe]; exact ⟨⟨lt_of_block HC9.out, lt_of_block HT9.out, lt_of_block HR9.out⟩, lt_of_block HY9.out, lt_of_block HN9.out⟩
 clear hg hX hw11 hXe HC9 HT9 HR9 HY9 HN9 HG9 c0 c1 d0 d1
 refine wp_region_grow 25 [20, 24] (Only X) (fun x => NodeAt x X 134217728 5 0 0 false (.pointer none) (.pointer none)) (by kernel_rfl) (by kernel_rfl) (by rfl) (fun w w' hb hx => (hb.block _ (lt_of_block hx)).trans hx) HX10.out ?_
 simp only [List.take_succ_cons, List.take_zero, List.drop_succ_cons, List.drop_zero]
 repeat (refine wpHp fun K hK => ?_; go_simp; refine hK _ ?_; clear hK K)
 refine wpHd (.int .u32 201326592) (fun w' hg => ?_) ?_
 ·obtain ⟨y0, y1⟩ := blk2c ((hg.block _ (lt_of_block H30.out) (fun e => by have e : w.heap.size = X := e; have := HLX.out; omega)).trans H30.out)
  clear hg
  go_simp
  exact Below.refl _ _
 try go_simp
 repeat (refine wpHp fun K hK => ?_; go_simp; refine hK _ ?_; clear hK K)
 refine wpHd (.int .i64 5) (fun w' hg => ?_) ?_
 ·obtain ⟨y0, y1⟩ := blk2c ((hg.block _ (lt_of_block HC10.out) (fun e => by have e : C = X := e; have := HLX.out; omega)).trans HC10.out)
  clear hg
  go_simp
  exact Below.refl _ _
 try go_simp
 refine wpHd (.int .i64 1) (fun w' hg => ?_) ?_
 ·have h := bit_201326592_5 w'
  clear hg
  go_simp
  with_reducible refine h.mono ?_
  rintro e w1 ⟨rfl, rfl⟩
  exact ⟨_, rfl, rfl, Below.refl _ _⟩
 try go_simp
 repeat (refine wpHp fun K hK => ?_; go_simp; refine hK _ ?_; clear hK K)
 refine wpHd (.int .u32 167772160) (fun w' hg => ?_) ?_
 ·obtain ⟨⟨y0, y1, y2, y3, y4⟩, _⟩ := blkN ((hg.block _ (lt_of_block HR10.out) (fun e => by have e : N = X := e; have := HLX.out; omega)).trans HR10.out)
  clear hg
  go_simp
  exact Below.refl _ _
 try go_simp
 repeat (refine wpHp fun K hK => ?_; go_simp; refine hK _ ?_; clear hK K)
 refine wpHd (.int .i64 5) (fun w' hg => ?_) ?_
 ·obtain ⟨y0, y1⟩ := blk2c ((hg.block _ (lt_of_block HC10.out) (fun e => by have e : C = X := e; have := HLX.out; omega)).trans HC10.out)
  clear hg
  go_simp
  exact Below.refl _ _
 try go_simp
 refine wpHd (.int .i64 0) (fun w' hg => ?_) ?_
 ·have h := bit_167772160_5 w'
  clear hg
  go_simp
  with_reducible refine h.mono ?_
  rintro e w1 ⟨rfl, rfl⟩
  exact ⟨_, rfl, rfl, Below.refl _ _⟩
 try go_simp
 repeat (refine wpHp fun K hK => ?_; go_simp; refine hK _ ?_; clear hK K)
 refine wpH_cdet' undef (fun x => NodeAt x X 134217728 5 0 0 false (.pointer none) (.pointer (some ⟨Y, 0, none⟩))) (by intro _ _ h; cases h) (by rfl) (fun x x' hb hx => (hb.block _ (lt_of_block hx)).trans hx) (by rfl) (by rfl) (fun w' hg hc => ?_) ?_
 ·obtain ⟨⟨y0, y1, y2, y3, y4⟩, _⟩ := blkN hc
  have z := node_frozen hc 261
  have HC := Lib.hid hc
  clear hg hc
  go_simp
  exact ⟨(GrowBut.refl (Only X) w').setCell (a := ⟨X, 261, none⟩) (show Only X X from rfl) _, node_put1 HC.out _⟩
 try go_simp
 repeat (refine wpHp fun K hK => ?_; go_simp; refine hK _ ?_; clear hK K)
 refine wpH_cdet' undef (fun x => NodeAt x X 134217728 5 0 0 false (.pointer (some ⟨N, 0, none⟩)) (.pointer (some ⟨Y, 0, none⟩))) (by intro _ _ h; cases h) (by rfl) (fun x x' hb hx => (hb.block _ (lt_of_block hx)).trans hx) (by rfl) (by rfl) (fun w' hg hc => ?_) ?_
 ·obtain ⟨⟨y0, y1, y2, y3, y4⟩, _⟩ := blkN hc
  have z := node_frozen hc 260
  have HC := Lib.hid hc
  clear hg hc
  go_simp
  exact ⟨(GrowBut.refl (Only X) w').setCell (a := ⟨X, 260, none⟩) (show Only X X from rfl) _, node_put0 HC.out _⟩
 try go_simp
 refine wpH_nil ?_
 intro xs w12 hg hc hx2
 have HX11 := Lib.hid hc
 have HT11 := Lib.hid ((hg.block _ (lt_of_block HT10.out) (fun e => by have e : T = X := e; have := HLX.out; omega)).trans HT10.out)
 have HY11 : Hid (NodeAt w12 Y 201326592 8 k p true (.pointer none) (.pointer none)) := (hg.block _ (lt_of_block HY10.out) (fun e => by have e : Y = X := e; have := HLX.out; omega)).trans HY10.out
 have HG11 : Hid (GrowBut (Only T) w w12) := ⟨hg.os.trans HG10.out.os, hg.tape.trans HG10.out.tape, hg.output.trans HG10.out.output, Nat.le_trans HG10.out.size hg.size, fun j hj hm => (hg.block j (Nat.lt_of_lt_of_le hj HG10.out.size) (fun e => by have e : j = X := e; have := HLX.out; omega)).trans (HG10.out.block j hj hm)⟩
 clear hg hc hx2 HX10 HC10 HT10 HR10 HY10 H30 HG10
 simp only [fill]
 go_simp
 obtain ⟨⟨c0, c1, c2, c3⟩, cz⟩ := blk4 HT11.out
 have cz0 := cz 0
 clear cz
 go_wp2_with fail
 have hX12 : NodeAt (w12.setCell ⟨T, 0, none⟩ (.pointer (some ⟨X, 0, none⟩))) X 134217728 5 0 0 false (.pointer (some ⟨N, 0, none⟩)) (.pointer (some ⟨Y, 0, none⟩)) := (Below.heap_setCell _ ⟨T, 0, none⟩ _ X (show X ≠ T by have := HLX.out; omega)).trans HX11.out
 have hY12 : NodeAt (w12.setCell ⟨T, 0, none⟩ (.pointer (some ⟨X, 0, none⟩))) Y 201326592 8 k p true (.pointer none) (.pointer none) := (Below.heap_setCell _ ⟨T, 0, none⟩ _ Y (show Y ≠ T by have := HLY.out; omega)).trans HY11.out
 have hT12 := heap_setCell_same _ _ 0 _ _ (.pointer (some ⟨X, 0, none⟩)) HT11.out
 have hG12 : GrowBut (Only T) w (w12.setCell ⟨T, 0, none⟩ (.pointer (some ⟨X, 0, none⟩))) := HG11.out.trans (only_set _)
 refine bodyPost_ret (v := .int .i64 0) (by simp [results, Tryz.results57, go_sem]) rfl ?_
 exact ⟨rfl, ⟨X, by have := HLX.out; omega, Y, HLY.out.1, hX12, hY12, hT12⟩, hG12⟩
end
end Go.Proofs.YtgckhdepnmiejaaGreat
namespace Go.Proofs.YtgckhdepnmiejaaGreat
section
open Go.RowKit Go.Shelf
theorem wpIn_rangeFunc_RA {F : Fence} {n : Nat} {P : Program} {α : Type} {g : Operand} {ps : Array Tmp} {assign body : Code} {Q : Exit → Act → World → Prop} {a : Act} {w : World} (hro : F.round = none) (h1 : 1 ≤ n)
  {gf : Nat} {lb : Array Value} (hg : a.eval g = .func (.func gf) #[] lb) (hFg : F.fn gf) (eg : ∀ args w, (callFunc gf args).run P w = .ok (.enter gf args) w)
  {encs : α → Array Value} {R : α → World → Prop} {Kp : World → World → Prop} {S : List α → Prop} {N : Nat} (hseq : SeqR F (n - 1) P gf lb encs R Kp S N w)
  (hKt : ∀ {X Y Z : World}, Kp X Y → Kp Y Z → Kp X Z) (hKb : ∀ (W : World) (l : Nat) (o o' : Obj), w.heap.size ≤ l → W.heap[l]? = some o → o.isCells = false → o.isWalk = false → Kp W (W.putObj l o'))
  (hRb : ∀ (x : α) (W : World) (l : Nat) (o o' : Obj), R x W → W.heap[l]? = some o → o.isCells = false → R x (W.putObj l o'))
  (hps : ∀ x, (encs x).size = ps.size) (I : List α → World → Prop) (hI : OwnFrom w.heap.size I) (h0 : I [] w) (Ax : α → Act → World → Prop) (hAx : ∀ (x : α) (a' : Act) (W : World) (l : Nat) (o o' : Obj), Ax x a' W → W.heap[l]? = some o → o.isCells = false → Ax x a' (W.putObj l o'))
  (hassign : ∀ (l : Nat) (pre : List α) (x : α) (W : World) (K : Act → World → Prop), I pre W → R x W → (∀ a' W', KeepsFrom w.heap.size W W' → Kp W W' → I pre W' → R x W' → Ax x a' W' → K a' W') →
   assign.wpIn (F.inRound l) (n - 1 - 1) P (Exit.then K (fun _ _ _ => False)) { tmps := (ps.zip (encs x)).foldl (fun t (p, v) => t.setIfInBounds p v) a.tmps, defers := [] } W)
  (hbody : ∀ (l : Nat) (pre : List α) (x : α) (a' : Act) (W : World), I pre W → R x W → Ax x a' W → pre.length < N → body.wpIn (F.inRound l) (n - 1 - 1) P (goesOn w.heap.size Kp I (pre ++ [x]) W) a' W)
  (hdone : ∀ (D : Nat) (xs : List α) (W : World), w.heap.size ≤ D → S xs → I xs W → W.heap[D]? = some (.deferred (some [])) → Q .normal { a with defers := { target := .collected D, args := #[] } :: a.defers } W) :
  (Code.rangeFunc g ps assign body).wpIn F n P Q a w := by
 refine wpIn_rangeFunc fun fn hfn => ?_
 rw [hro]
 generalize hB : w.heap.size = B at *
 -- the record, and the block of the rounds' deferred calls
 let mk (st : LoopState) : Loop := { state := st, pending := none, fn := fn, tmps := a.tmps, params := ps, assign := assign, body := body, defers := B }
 have hE : (Instr.enterLoop fn a.tmps ps assign body none).run P w = .ok (B + 1, [{ target := .collected B, args := #[] }]) ((w.alloc (.deferred (some []))).alloc (.loop (mk .ready))) := by
  rw [run_enterLoop_outer, hB]
 have hsz : (w.alloc (.deferred (some []))).heap.size = B + 1 := by rw [World.size_alloc, hB]
 have hL := World.alloc_heap_new (w.alloc (.deferred (some []))) (.loop (mk .ready))
 have hD : ((w.alloc (.deferred (some []))).alloc (.loop (mk .ready))).heap[B]? = some (.deferred (some [])) := by
  have h := World.alloc_heap_new w (.deferred (some []))
  rw [hB] at h
  exact (Below.heap_alloc _ _ _ (by rw [hsz]; exact Nat.lt_succ_self _)).trans h
 have hW : Below B w ((w.alloc (.deferred (some []))).alloc (.loop (mk .ready))) := ((Below.refl _ w).alloc (Nat.le_of_eq hB.symm) _).alloc (by rw [hsz]; exact Nat.le_succ _) _
 have hI0 : I [] ((w.alloc (.deferred (some []))).alloc (.loop (mk .ready))) := hI.alloc _ (hI.alloc _ h0)
 rw [hsz] at hL
 have hs2 : ((w.alloc (.deferred (some []))).alloc (.loop (mk .ready))).heap.size = B + 1 + 1 := by rw [World.size_alloc, hsz]
 generalize (w.alloc (.deferred (some []))).alloc (.loop (mk .ready)) = V at *
 refine ⟨B + 1, [{ target := .collected B, args := #[] }], V, { target := .fn (.func gf) lb, args := #[.func (.yield (B + 1)) #[] #[]] }, V, gf, #[.func (.yield (B + 1)) #[] #[]] ++ lb, V, hE, ?_, ?_, ?_, fun _ => h1, ?_⟩
 ·simp only [resolve, hg]
  simp [go_sem]
 ·intro f' hf'
  simp [Target.leads] at hf'
  rw [← hf']; exact hFg
 ·simp [invoke, go_sem, eg]
 ·have hout : ∀ {X Y : World} {row : Option Nat}, (∀ r, row = some r → V.heap.size ≤ r ∧ ∃ o : Obj, X.heap[r]? = some o ∧ o.isWalk = true) → ∀ r, row = some r → B ≤ r ∧ ∃ o : Obj, X.heap[r]? = some o ∧ o.isCells = false := fun h r e => by
   obtain ⟨q, o, ho, hw⟩ := h r e
   exact ⟨by omega, o, ho, Obj.not_cells_of_walk hw⟩
  refine (hseq (B + 1) (fun pre W => I pre W ∧ W.heap[B + 1]? = some (.loop (mk .ready)) ∧ W.heap[B]? = some (.deferred (some []))) V (by rw [hB]; exact hW) ?_ ?_ ⟨hI0, hL, hD⟩).mono ?_
  ·rintro s X Y row ⟨j1, j2, j3⟩ hg' hr
   exact ⟨hI s X Y row j1 hg' (hout (Y := Y) hr), (grownBy_keeps hg' (fun r e => (hr r e).2) j2 rfl).trans j2, (grownBy_keeps hg' (fun r e => (hr r e).2) j3 rfl).trans j3⟩
  ·rintro pre x X ⟨j1, j2, j3⟩ hx hlen
   have hlt := (Array.getElem?_eq_some_iff.1 j2).1
   refine ⟨fn, _, assign, body, run_yield (P := P) (args := encs x) j2 (hps x), roundIn_of_wpIn hfn (hassign _ pre x X _ j1 hx ?_)⟩
   intro a' X1 hk1 hkp1 i1 r1 ax1
   have j2' := hk1.same _ _ (Nat.le_succ _) j2 rfl
   have j3' := hk1.same _ _ (Nat.le_refl _) j3 rfl
   have hlt' := (Array.getElem?_eq_some_iff.1 j2').1
   refine ⟨_, run_beginRound j2' rfl, ?_⟩
   have k2 : (X1.putObj (B + 1) (.loop (mk .busy))).heap[B + 1]? = some (.loop (mk .busy)) := World.putObj_heap_same hlt'
   have k3 : (X1.putObj (B + 1) (.loop (mk .busy))).heap[B]? = some (.deferred (some [])) := (World.putObj_heap_other (by omega)).trans j3'
   refine wpIn_mono (hbody _ pre x a' _ (hI.putObj _ i1 (by omega) j2' rfl) (hRb _ _ _ _ _ r1 j2' rfl) (hAx _ _ _ _ _ _ ax1 j2' rfl) hlen) ?_
   intro e a3 Y hp
   cases e with
   | normal =>
    obtain ⟨p1, p2, p3⟩ := hp
    have q2 := p1.same _ _ (Nat.le_succ _) k2 rfl
    have q3 := p1.same _ _ (Nat.le_refl _) k3 rfl
    refine ⟨.bool true, Y.putObj (B + 1) (.loop (mk .ready)), run_endRound (P := P) none q2, rfl, ⟨hI.putObj _ p3 (by omega) q2 rfl, World.putObj_heap_same (Array.getElem?_eq_some_iff.1 q2).1, (World.putObj_heap_other (by omega)).trans q3⟩, ?_⟩
    exact hKt (hKt (hKt hkp1 (hKb _ _ _ _ (by omega) j2' rfl rfl)) p2) (hKb _ _ _ _ (by omega) q2 rfl rfl)
   | ret => exact hp.elim
   | exit id => exact hp.elim
   | goto t => exact hp.elim
   | panic ch => exact hp.elim
   | outgrown => exact hp.elim
  ·rintro e X ⟨⟨v, rfl⟩, xs, hS, j1, j2, j3⟩
   exact ⟨none, _, run_endLoop (P := P) j2 (by intro h; cases h), hdone B xs _ (Nat.le_refl _) hS (hI.putObj _ j1 (by omega) j2 rfl) ((World.putObj_heap_other (by omega)).trans j3)⟩
end
end Go.Proofs.YtgckhdepnmiejaaGreat
