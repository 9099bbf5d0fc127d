/- One piece: the walk of the closure of frag.Pieces (and what stands on it). -/
import Derived.Laws.EntriesVeiled
import Derived.Test.YtgckhdepnmiejaaGreatRows
import Derived.RangeFuncNested
import Derived.RangeFuncBound
import Derived.RangeFuncCalls
import Derived.RangeFuncLeaves
import Derived.RangeFuncBox
import Derived.Shelf.Abstract
import Derived.Test.YtgckhdepnmiejaaGreatZ08
set_option linter.unusedVariables false
set_option linter.unusedSimpArgs false
namespace Go.Proofs.YtgckhdepnmiejaaGreat
section
set_option maxRecDepth 100000
open Go.RowKit
theorem own11 {w : World} {base B n : Nat} {e : TypeId} {v : Value} {vs : List Value} (h : w.ownsRow base e 1 v n vs) (hB : B < base) (x0 x1 x2 x3 x4 x5 x6 x7 x8 x9 x10 : Value) : World.ownsRow (((((((((((w.setCell ⟨B, 0, none⟩ x0).setCell ⟨B, 1, none⟩ x1).setCell ⟨B, 2, none⟩ x2).setCell ⟨B, 3, none⟩ x3).setCell ⟨B, 4, none⟩ x4).setCell ⟨B, 5, none⟩ x5).setCell ⟨B, 6, none⟩ x6).setCell ⟨B, 7, none⟩ x7).setCell ⟨B, 8, none⟩ x8).setCell ⟨B, 9, none⟩ x9).setCell ⟨B, 10, none⟩ x10) base e 1 v n vs :=
 ownsRow_setCell_below (ownsRow_setCell_below (ownsRow_setCell_below (ownsRow_setCell_below (ownsRow_setCell_below (ownsRow_setCell_below (ownsRow_setCell_below (ownsRow_setCell_below (ownsRow_setCell_below (ownsRow_setCell_below (ownsRow_setCell_below (h) (a := ⟨B, 0, none⟩) hB x0) (a := ⟨B, 1, none⟩) hB x1) (a := ⟨B, 2, none⟩) hB x2) (a := ⟨B, 3, none⟩) hB x3) (a := ⟨B, 4, none⟩) hB x4) (a := ⟨B, 5, none⟩) hB x5) (a := ⟨B, 6, none⟩) hB x6) (a := ⟨B, 7, none⟩) hB x7) (a := ⟨B, 8, none⟩) hB x8) (a := ⟨B, 9, none⟩) hB x9) (a := ⟨B, 10, none⟩) hB x10
set_option maxHeartbeats 8000000 in
theorem piece_ks {w : World} {BH BP BM : Nat} {h : Hd} {ao : Option Addr} {cap : Nat} {po : Option Addr} {pc : Nat} {pl : List Int} {M : Nat} (p : PieceAt w BH BP BM h ao cap po pc pl M) (k : Nat) (hk : k < pl.length) (hk0 : 0 < k) (hb : ¬ pieceR M h.os k < pl.length - k) :
  Calls Tryz.prog 129 #[.int .i64 k, .pointer (some ⟨BH, 0, none⟩), .pointer (some ⟨BP, 0, none⟩), .pointer (some ⟨BM, 0, none⟩)] w (Pieced h M pl.length k w) := by
 have hV : ∀ v, (pieceH h M pl.length k v).val = .agg #[.int .u8 h.tos, .int .u16 h.id, .bool h.evil, .bool h.df, .bool h.mf, .int .i64 (h.off + (k / 8 : Nat)), .int .u8 h.ttl, .int .u8 h.proto, .int .u32 h.src, .int .u32 h.dst, v] := fun v => by
  simp only [Hd.val, Hd.cells, hdCells, pieceH]
  simp [hb]
 have hN : pieceN M pl.length h.os k = pl.length - k := by unfold pieceN; rw [if_neg hb]
 have hR : pieceR M h.os k = M - (20 + (pieceO h.os k).length) := rfl
 obtain ⟨q1, q2, q3, q4⟩ := pieceO_raw p.raw k
 have hr8 := pieceR_ge p.raw p.m.1 k
 have HSz : Hid (∀ x a c, BytesV x (.slice a (pieceO h.os k).length c) (pieceO h.os k) → Calls Tryz.prog 28 #[.agg #[.int .u8 0, .int .u16 0, .bool false, .bool false, .bool false, .int .i64 0, .int .u8 0, .int .u8 0, .int .u32 0, .int .u32 0, .slice a (pieceO h.os k).length c]] x fun e w' => e = .returned (.int .i64 (20 + (pieceO h.os k).length)) ∧ Grow x w') := fun x a c hx => size_opts hx q1 q2 q3
 have HO : Hid (∀ x, Grow w x → BytesV x (.slice ao h.os.length cap) h.os) := fun x hx => by
  have := p.ok.body.mono hx
  rwa [p.hv] at this
 have hcells : h.cells = #[.int .u8 h.tos, .int .u16 h.id, .bool h.evil, .bool h.df, .bool h.mf, .int .i64 h.off, .int .u8 h.ttl, .int .u8 h.proto, .int .u32 h.src, .int .u32 h.dst, .slice ao h.os.length cap] := by
  unfold Hd.cells; rw [p.hv]; rfl
 have hhd := p.hd
 rw [hcells] at hhd
 have hofs := p.raw.off
 have hM := p.m
 have hL := p.l
 have HHd := Lib.hid hhd
 have HPd := Lib.hid p.pd
 have HMd := Lib.hid p.md
 have hpd := cell_of_one p.pd
 have hmd := cell_of_one p.md
 obtain ⟨tos, id, evil, df, mf, off, ttl, proto, src, dst, v0, os⟩ := h
 dsimp only at *
 obtain ⟨R, hRR⟩ : ∃ R, pieceR M os k = R := ⟨_, rfl⟩
 obtain ⟨N, hNN⟩ : ∃ N, pieceN M pl.length os k = N := ⟨_, rfl⟩
 obtain ⟨L, hLL⟩ : ∃ L, pl.length = L := ⟨_, rfl⟩
 have HPL : Hid (pl.length = L) := hLL
 obtain ⟨c', hc'⟩ : ∃ x : Int, x = (k : Int) / 8 := ⟨_, rfl⟩
 obtain ⟨off', hof⟩ : ∃ x : Int, x = off + (k : Int) / 8 := ⟨_, rfl⟩
 have hwO : IntKind.i64.wrap (off + (k : Int) / 8) = off' := by rw [hof]; exact IntWalk.i64_in _ (by omega)
 have hwO2 : IntKind.i64.wrap (off + (k : Int).tdiv 8) = off' := by rw [Int.tdiv_eq_ediv_of_nonneg (by omega)]; exact hwO
 have hk1 : (0 : Int) < (k : Int) := by omega
 have hw8 : IntKind.i64.wrap ((k : Int) / 8) = (k : Int) / 8 := IntWalk.i64_in _ (by omega)
 have hwL : IntKind.i64.wrap ((L : Int) - (k : Int)) = (L : Int) - (k : Int) := IntWalk.i64_in _ (by omega)
 have HCp : Hid (∀ x, Grow w x → Calls Tryz.prog 130 #[.slice ao os.length cap] x fun e w' => ∃ u, e = .returned u ∧ NewBytes x (copO os) u w') := fun x hx => copied_any _ _ x (HO.out x hx) (Nat.lt_of_lt_of_le (Nat.lt_of_le_of_lt (Nat.zero_le _) (lt_of_block hhd)) hx.size) p.raw.len p.raw.good
 have HPO : Hid (pieceO os k = copO os) := by show _ = _; unfold pieceO; rw [if_neg (by omega)]
 have HPB : Hid (Bytes (copO os)) := by have := q4; rw [HPO.out] at this; exact this
 have HFr : Hid (pieceN M pl.length os k = pl.length - k ∧ 8 ≤ pieceR M os k ∧ pieceR M os k = M - (20 + (pieceO os k).length) ∧ ¬ (pieceR M os k < pl.length - k)) := ⟨hN, hr8, hR, hb⟩
 have HMM : Hid ((68 ≤ M ∧ M ≤ 65535) ∧ pl.length ≤ 10000) := ⟨hM, hL⟩
 have HVV := Lib.hid hV
 have HOF : Hid (off' = off + (k / 8 : Nat)) := by show _ = _; omega
 have hbh := lt_of_block hhd
 have hA : (w.alloc (.cells #[.int .u8 0, .int .u16 0, .bool false, .bool false, .bool false, .int .i64 0, .int .u8 0, .int .u8 0, .int .u32 0, .int .u32 0, .slice none 0 0] 27)).heap[BH]? = some (.cells #[.int .u8 tos, .int .u16 id, .bool evil, .bool df, .bool mf, .int .i64 off, .int .u8 ttl, .int .u8 proto, .int .u32 src, .int .u32 dst, .slice ao os.length cap] 27 (0, 0)) := (Below.heap_alloc _ _ _ hbh).trans hhd
 have hA2 : ((w.alloc (.cells #[.int .u8 0, .int .u16 0, .bool false, .bool false, .bool false, .int .i64 0, .int .u8 0, .int .u8 0, .int .u32 0, .int .u32 0, .slice none 0 0] 27)).alloc (.cells #[.int .u8 tos, .int .u16 id, .bool evil, .bool df, .bool mf, .int .i64 off', .int .u8 ttl, .int .u8 proto, .int .u32 src, .int .u32 dst, .slice ao os.length cap] 27)).heap[BH]? = some (.cells #[.int .u8 tos, .int .u16 id, .bool evil, .bool df, .bool mf, .int .i64 off, .int .u8 ttl, .int .u8 proto, .int .u32 src, .int .u32 dst, .slice ao os.length cap] 27 (0, 0)) := (Below.heap_alloc _ _ _ (by simp; omega)).trans hA
 have HGA : Hid (Grow w (w.alloc (.cells #[.int .u8 0, .int .u16 0, .bool false, .bool false, .bool false, .int .i64 0, .int .u8 0, .int .u8 0, .int .u32 0, .int .u32 0, .slice none 0 0] 27))) := (Grow.refl w).alloc _
 have HGB : Hid (Grow w ((w.alloc (.cells #[.int .u8 0, .int .u16 0, .bool false, .bool false, .bool false, .int .i64 0, .int .u8 0, .int .u8 0, .int .u32 0, .int .u32 0, .slice none 0 0] 27)).alloc (.cells #[.int .u8 tos, .int .u16 id, .bool evil, .bool df, .bool mf, .int .i64 off', .int .u8 ttl, .int .u8 proto, .int .u32 src, .int .u32 dst, .slice ao os.length cap] 27))) := HGA.out.alloc _
 have pB := (HGB.out.cell (block_lt hpd)).trans hpd
 obtain ⟨⟨c0, c1, c2, c3, c4, c5⟩, c6, c7, c8, c9, c10⟩ := blkH hA
 have hao := (blkH hA2).2.2.2.2.2
 clear hcells q1 q2 q3 q4 p hpd hmd hA hA2 hhd hR hr8 hb hN hc' hof hM hL HHd HO hV hbh hofs hRR hNN
 go_enter Tryz.func129, Tryz.ntmps129
 go_wp2_with fail
 obtain ⟨wB, hwB⟩ : ∃ x, (w.alloc (.cells #[.int .u8 0, .int .u16 0, .bool false, .bool false, .bool false, .int .i64 0, .int .u8 0, .int .u8 0, .int .u32 0, .int .u32 0, .slice none 0 0] 27)).alloc (.cells #[.int .u8 tos, .int .u16 id, .bool evil, .bool df, .bool mf, .int .i64 off', .int .u8 ttl, .int .u8 proto, .int .u32 src, .int .u32 dst, .slice ao os.length cap] 27) = x := ⟨_, rfl⟩
 have hsA : (w.alloc (.cells #[.int .u8 0, .int .u16 0, .bool false, .bool false, .bool false, .int .i64 0, .int .u8 0, .int .u8 0, .int .u32 0, .int .u32 0, .slice none 0 0] 27)).heap.size = w.heap.size + 1 := World.size_alloc _ _
 have hB := heap_alloc_new (w.alloc (.cells #[.int .u8 0, .int .u16 0, .bool false, .bool false, .bool false, .int .i64 0, .int .u8 0, .int .u8 0, .int .u32 0, .int .u32 0, .slice none 0 0] 27)) (.cells #[.int .u8 tos, .int .u16 id, .bool evil, .bool df, .bool mf, .int .i64 off', .int .u8 ttl, .int .u8 proto, .int .u32 src, .int .u32 dst, .slice ao os.length cap] 27)
 have hZ : ((w.alloc (.cells #[.int .u8 0, .int .u16 0, .bool false, .bool false, .bool false, .int .i64 0, .int .u8 0, .int .u8 0, .int .u32 0, .int .u32 0, .slice none 0 0] 27)).alloc (.cells #[.int .u8 tos, .int .u16 id, .bool evil, .bool df, .bool mf, .int .i64 off', .int .u8 ttl, .int .u8 proto, .int .u32 src, .int .u32 dst, .slice ao os.length cap] 27)).heap[w.heap.size]? = some (.cells #[.int .u8 0, .int .u16 0, .bool false, .bool false, .bool false, .int .i64 0, .int .u8 0, .int .u8 0, .int .u32 0, .int .u32 0, .slice none 0 0] 27 (0, 0)) := (Below.heap_alloc _ _ _ (by rw [hsA]; exact Nat.lt_succ_self _)).trans (heap_alloc_new w _)
 have hsz : ((w.alloc (.cells #[.int .u8 0, .int .u16 0, .bool false, .bool false, .bool false, .int .i64 0, .int .u8 0, .int .u8 0, .int .u32 0, .int .u32 0, .slice none 0 0] 27)).alloc (.cells #[.int .u8 tos, .int .u16 id, .bool evil, .bool df, .bool mf, .int .i64 off', .int .u8 ttl, .int .u8 proto, .int .u32 src, .int .u32 dst, .slice ao os.length cap] 27)).heap.size = w.heap.size + 1 + 1 := by rw [World.size_alloc, hsA]
 rw [hsA] at hB
 rw [hwB] at hB hZ HGB hao hsz ⊢
 have HBB := Lib.hid hB
 have HZZ := Lib.hid hZ
 have h := HCp.out wB HGB.out
 clear hsA hB hZ hwB pB c0 c1 c2 c3 c4 c5 c6 c7 c8 c9 c10 HGA hLL
 with_reducible refine h.mono ?_
 rintro e w2 ⟨u, rfl, hnb⟩
 have hbu := newb_bytes hnb HPB.out
 obtain ⟨ua, uc, rfl, hu1, hu2⟩ := hbu.shape
 obtain ⟨U, hU⟩ : ∃ x, (copO os).length = x := ⟨_, rfl⟩
 rw [hU] at hbu hu1 ⊢
 have HBU0 := Lib.hid hbu
 have hB2 := (hnb.2.block _ (lt_of_block HBB.out)).trans HBB.out
 have hZ2 := (hnb.2.block _ (lt_of_block HZZ.out)).trans HZZ.out
 have HG2 := Lib.hid (HGB.out.trans hnb.2)
 have HPd2 : Hid (w.heap[BP]? = some (.cells #[.slice po L pc] 25 (0, 0))) := by show _ = _; rw [← HPL.out]; exact HPd.out
 have hpl := cell_of_one ((HG2.out.block _ (lt_of_block HPd2.out)).trans HPd2.out)
 have hpl2 : (w2.setCell ⟨w.heap.size + 1, 10, none⟩ (.slice ua U uc)).cell? ⟨BP, 0, none⟩ = some (.slice po L pc) := cell_of_one ((Below.heap_setCell _ _ _ _ (Nat.ne_of_lt (Nat.lt_succ_of_lt (lt_of_block HPd2.out)))).trans ((HG2.out.block _ (lt_of_block HPd2.out)).trans HPd2.out))
 have hB3 : (w2.setCell ⟨w.heap.size + 1, 10, none⟩ (.slice ua U uc)).heap[w.heap.size + 1]? = some (.cells #[.int .u8 tos, .int .u16 id, .bool evil, .bool df, .bool mf, .int .i64 off', .int .u8 ttl, .int .u8 proto, .int .u32 src, .int .u32 dst, .slice ua U uc] 27 (0, 0)) := heap_setCell_same _ _ 10 _ _ _ hB2
 have hZ3 : (w2.setCell ⟨w.heap.size + 1, 10, none⟩ (.slice ua U uc)).heap[w.heap.size]? = some (.cells #[.int .u8 0, .int .u16 0, .bool false, .bool false, .bool false, .int .i64 0, .int .u8 0, .int .u8 0, .int .u32 0, .int .u32 0, .slice none 0 0] 27 (0, 0)) := (Below.heap_setCell _ _ _ _ (Nat.ne_of_lt (Nat.lt_succ_self _))).trans hZ2
 have hG3 : Grow w (w2.setCell ⟨w.heap.size + 1, 10, none⟩ (.slice ua U uc)) := HG2.out.setCell (Nat.le_succ _) _
 have hbu3 : (w2.setCell ⟨w.heap.size + 1, 10, none⟩ (.slice ua U uc)).ownsRow (w.heap.size + 1 + 1) 5 1 (.slice ua U uc) U ((copO os).map (Value.int .u8)) := by
  have := ownsRow_setCell_below hnb.1 (a := ⟨w.heap.size + 1, 10, none⟩) (by rw [hsz]; exact Nat.lt_succ_self _) (.slice ua U uc)
  rw [hsz, hU] at this
  exact this
 have HU := Lib.hid hU
 have HB := Lib.hid hB3
 have HZ := Lib.hid hZ3
 have HGB' := Lib.hid hG3
 have HBU := Lib.hid hbu3
 have d10 := (blkH hB2).2.2.2.2.2
 have f10 := (blkHz hB2).2.2.2.2.2
 have hU40 := HPB.out
 clear hsz hB3 hZ3 hG3 hbu3 hB2 hZ2 hnb h hbu hU HCp hu1 hu2 HBU0 HBB HZZ HGB
 have HSz2 : Hid (∀ x, BytesV x (.slice ua U uc) (copO os) → Calls Tryz.prog 28 #[.agg #[.int .u8 0, .int .u16 0, .bool false, .bool false, .bool false, .int .i64 0, .int .u8 0, .int .u8 0, .int .u32 0, .int .u32 0, .slice ua U uc]] x fun e w' => e = .returned (.int .i64 (20 + (U : Int))) ∧ Grow x w') := fun x hx => by
  have := HSz.out x ua uc
  rw [HPO.out, HU.out] at this
  exact this hx
 go_wp2_with fail
 generalize hwT : w2.setCell ⟨w.heap.size + 1, 10, none⟩ (.slice ua U uc) = wT at *
 clear hwT hpl hpl2 d10 f10 HSz hao
 refine wpRg 7 ?_
 simp only [List.take_succ_cons, List.take_zero, List.drop_succ_cons, List.drop_zero]
 refine wpHd (.int .i64 M) (fun w' hg => ?_) ?_
 ·have hx := cell_of_one (((HGB'.out.trans hg.below).block _ (lt_of_block HMd.out)).trans HMd.out)
  clear hg
  go_simp
  exact Below.refl _ _
 try go_simp
 repeat (refine wpHp fun K hK => ?_; go_simp; refine hK _ ?_; clear hK K)
 refine wpHd (.slice ua U uc) (fun w' hg => ?_) ?_
 ·obtain ⟨⟨y0, y1, y2, y3, y4, y5⟩, y6, y7, y8, y9, y10⟩ := blkH ((hg.below.block _ (lt_of_block HB.out)).trans HB.out)
  clear hg
  go_simp
  exact Below.refl _ _
 try go_simp
 repeat (refine wpHp fun K hK => ?_; go_simp; refine hK _ ?_; clear hK K)
 refine wpHd (.int .i64 (20 + (U : Int))) (fun w' hg => ?_) ?_
 ·have h := HSz2.out w' ⟨HPB.out, by have := ints_of_owns (own_grow HBU.out hg.below); exact this⟩
  clear hg
  go_simp
  with_reducible refine h.mono ?_
  rintro e w1 ⟨rfl, hg⟩
  exact ⟨_, rfl, rfl, hg⟩
 try go_simp
 repeat (refine wpHp fun K hK => ?_; go_simp; refine hK _ ?_; clear hK K)
 refine wpH_nil ?_
 intro xs wC hg hx1 hx2
 have HGC := Lib.hid (HGB'.out.trans hg.below)
 have hB := (hg.below.block _ (lt_of_block HB.out)).trans HB.out
 have hZ := (hg.below.block _ (lt_of_block HZ.out)).trans HZ.out
 have HBC := Lib.hid hB
 have HZC := Lib.hid hZ
 have HBUC := Lib.hid (own_grow HBU.out hg.below)
 obtain ⟨⟨c0, c1, c2, c3, c4, c5⟩, c6, c7, c8, c9, c10⟩ := blkH hB
 obtain ⟨⟨d0, d1, d2, d3, d4, d5⟩, d6, d7, d8, d9, d10⟩ := blkH hZ
 obtain ⟨⟨f0, f1, f2, f3, f4, f5⟩, f6, f7, f8, f9, f10⟩ := blkHz hZ
 have g4 := (blkHz hB).1.2.2.2.2.1
 have hRU : 8 + 20 + U ≤ M ∧ M ≤ 65535 ∧ L ≤ 10000 ∧ k < L ∧ ¬ ((M : Int) - (20 + (U : Int)) < (L : Int) - (k : Int)) := by
  obtain ⟨e1, e2, e3, e4⟩ := HFr.out
  have e5 := HMM.out
  have e6 := HPL.out
  rw [HPO.out, HU.out] at e3
  omega
 have HRU := Lib.hid hRU
 clear hg hx1 hx2 hB hZ HB HZ HGB' HBU HSz2 HMd
 simp only [fill]
 go_simp
 have hI : ¬ ((M : Int) - (20 + (U : Int)) < (L : Int) - (k : Int)) := hRU.2.2.2.2
 have hwM : IntKind.i64.wrap ((M : Int) - (20 + (U : Int))) = (M : Int) - (20 + (U : Int)) := IntWalk.i64_in _ (by omega)
 have hq1 : ((M : Int) - (20 + (U : Int))).tdiv 8 = ((M : Int) - (20 + (U : Int))) / 8 := Int.tdiv_eq_ediv_of_nonneg (by omega)
 have hq2 : IntKind.i64.wrap (((M : Int) - (20 + (U : Int))) / 8) = ((M : Int) - (20 + (U : Int))) / 8 := IntWalk.i64_in _ (by omega)
 have hq3 : IntKind.i64.wrap (((M : Int) - (20 + (U : Int))) / 8 * 8) = ((M : Int) - (20 + (U : Int))) / 8 * 8 := IntWalk.i64_in _ (by omega)
 clear hRU
 go_wp2_with fail
 generalize hwD : (((((((((((wC.setCell ⟨w.heap.size, 0, none⟩ (.int .u8 tos)).setCell ⟨w.heap.size, 1, none⟩ (.int .u16 id)).setCell ⟨w.heap.size, 2, none⟩ (.bool evil)).setCell ⟨w.heap.size, 3, none⟩ (.bool df)).setCell ⟨w.heap.size, 4, none⟩ (.bool mf)).setCell ⟨w.heap.size, 5, none⟩ (.int .i64 off')).setCell ⟨w.heap.size, 6, none⟩ (.int .u8 ttl)).setCell ⟨w.heap.size, 7, none⟩ (.int .u8 proto)).setCell ⟨w.heap.size, 8, none⟩ (.int .u32 src)).setCell ⟨w.heap.size, 9, none⟩ (.int .u32 dst)).setCell ⟨w.heap.size, 10, none⟩ (.slice ua U uc)) = wD
 have hE : Hid (Grow w wC ∧ wC.heap[w.heap.size]? = some (.cells #[.int .u8 0, .int .u16 0, .bool false, .bool false, .bool false, .int .i64 0, .int .u8 0, .int .u8 0, .int .u32 0, .int .u32 0, .slice none 0 0] 27 (0, 0)) ∧ wC.ownsRow (w.heap.size + 1 + 1) 5 1 (.slice ua U uc) U ((copO os).map (Value.int .u8))) := ⟨HGC.out, HZC.out, HBUC.out⟩
 have HBD : Hid (wD.heap[w.heap.size]? = some (.cells #[.int .u8 tos, .int .u16 id, .bool evil, .bool df, .bool mf, .int .i64 off', .int .u8 ttl, .int .u8 proto, .int .u32 src, .int .u32 dst, .slice ua U uc] 27 (0, 0))) := by rw [← hwD]; exact put11 hE.out.2.1 _ _ _ _ _ _ _ _ _ _ _
 have HGD : Hid (Grow w wD) := by rw [← hwD]; exact grow11 hE.out.1 (Nat.le_refl _) _ _ _ _ _ _ _ _ _ _ _
 have HUD : Hid (BytesV wD (.slice ua U uc) (copO os)) := by rw [← hwD]; exact ⟨HPB.out, ints_of_owns (own11 hE.out.2.2 (by omega) _ _ _ _ _ _ _ _ _ _ _)⟩
 clear hwD c0 c1 c2 c3 c4 c5 c6 c7 c8 c9 c10 d0 d1 d2 d3 d4 d5 d6 d7 d8 d9 d10 f0 f1 f2 f3 f4 f5 f6 f7 f8 f9 f10 g4
 obtain ⟨⟨c0, c1, c2, c3, c4, c5⟩, c6, c7, c8, c9, c10⟩ := blkH HBD.out
 refine bodyPost_ret (v := .tuple #[.agg #[.int .u8 tos, .int .u16 id, .bool evil, .bool df, .bool mf, .int .i64 off', .int .u8 ttl, .int .u8 proto, .int .u32 src, .int .u32 dst, .slice ua U uc], .int .i64 ((L : Int) - (k : Int))]) (by simp [results, Tryz.results129, go_sem, c0, c1, c2, c3, c4, c5, c6, c7, c8, c9, c10]) rfl ?_
 have hfin : ((pieceN M pl.length os k : Nat) : Int) = ((L : Int) - (k : Int)) := by
  obtain ⟨e1, e2, e3, e4⟩ := HFr.out
  have e5 := HMM.out
  have e6 := HPL.out
  have e7 := HRU.out
  rw [HPO.out, HU.out] at e3
  rw [e1]
  omega
 refine ⟨.slice ua U uc, ?_, by show BytesV _ _ (pieceO os k); rw [HPO.out]; exact HUD.out, HGD.out⟩
 have e8 := HVV.out (.slice ua U uc)
 rw [← HOF.out] at e8
 first | rw [← HPL.out, e8] | rw [e8]
 show _ = Ending.returned (.tuple #[_, .int .i64 ((pieceN M pl.length os k : Nat) : Int)])
 rw [hfin]
 rw [HPL.out]
set_option maxHeartbeats 8000000 in
theorem piece_kb {w : World} {BH BP BM : Nat} {h : Hd} {ao : Option Addr} {cap : Nat} {po : Option Addr} {pc : Nat} {pl : List Int} {M : Nat} (p : PieceAt w BH BP BM h ao cap po pc pl M) (k : Nat) (hk : k < pl.length) (hk0 : 0 < k) (hb : pieceR M h.os k < pl.length - k) :
  Calls Tryz.prog 129 #[.int .i64 k, .pointer (some ⟨BH, 0, none⟩), .pointer (some ⟨BP, 0, none⟩), .pointer (some ⟨BM, 0, none⟩)] w (Pieced h M pl.length k w) := by
 have hV : ∀ v, (pieceH h M pl.length k v).val = .agg #[.int .u8 h.tos, .int .u16 h.id, .bool h.evil, .bool h.df, .bool true, .int .i64 (h.off + (k / 8 : Nat)), .int .u8 h.ttl, .int .u8 h.proto, .int .u32 h.src, .int .u32 h.dst, v] := fun v => by
  simp only [Hd.val, Hd.cells, hdCells, pieceH]
  simp [hb]
 have hN : pieceN M pl.length h.os k = pieceR M h.os k / 8 * 8 := by unfold pieceN; rw [if_pos hb]
 have hR : pieceR M h.os k = M - (20 + (pieceO h.os k).length) := rfl
 obtain ⟨q1, q2, q3, q4⟩ := pieceO_raw p.raw k
 have hr8 := pieceR_ge p.raw p.m.1 k
 have HSz : Hid (∀ x a c, BytesV x (.slice a (pieceO h.os k).length c) (pieceO h.os k) → Calls Tryz.prog 28 #[.agg #[.int .u8 0, .int .u16 0, .bool false, .bool false, .bool false, .int .i64 0, .int .u8 0, .int .u8 0, .int .u32 0, .int .u32 0, .slice a (pieceO h.os k).length c]] x fun e w' => e = .returned (.int .i64 (20 + (pieceO h.os k).length)) ∧ Grow x w') := fun x a c hx => size_opts hx q1 q2 q3
 have HO : Hid (∀ x, Grow w x → BytesV x (.slice ao h.os.length cap) h.os) := fun x hx => by
  have := p.ok.body.mono hx
  rwa [p.hv] at this
 have hcells : h.cells = #[.int .u8 h.tos, .int .u16 h.id, .bool h.evil, .bool h.df, .bool h.mf, .int .i64 h.off, .int .u8 h.ttl, .int .u8 h.proto, .int .u32 h.src, .int .u32 h.dst, .slice ao h.os.length cap] := by
  unfold Hd.cells; rw [p.hv]; rfl
 have hhd := p.hd
 rw [hcells] at hhd
 have hofs := p.raw.off
 have hM := p.m
 have hL := p.l
 have HHd := Lib.hid hhd
 have HPd := Lib.hid p.pd
 have HMd := Lib.hid p.md
 have hpd := cell_of_one p.pd
 have hmd := cell_of_one p.md
 obtain ⟨tos, id, evil, df, mf, off, ttl, proto, src, dst, v0, os⟩ := h
 dsimp only at *
 obtain ⟨R, hRR⟩ : ∃ R, pieceR M os k = R := ⟨_, rfl⟩
 obtain ⟨N, hNN⟩ : ∃ N, pieceN M pl.length os k = N := ⟨_, rfl⟩
 obtain ⟨L, hLL⟩ : ∃ L, pl.length = L := ⟨_, rfl⟩
 have HPL : Hid (pl.length = L) := hLL
 obtain ⟨c', hc'⟩ : ∃ x : Int, x = (k : Int) / 8 := ⟨_, rfl⟩
 obtain ⟨off', hof⟩ : ∃ x : Int, x = off + (k : Int) / 8 := ⟨_, rfl⟩
 have hwO : IntKind.i64.wrap (off + (k : Int) / 8) = off' := by rw [hof]; exact IntWalk.i64_in _ (by omega)
 have hwO2 : IntKind.i64.wrap (off + (k : Int).tdiv 8) = off' := by rw [Int.tdiv_eq_ediv_of_nonneg (by omega)]; exact hwO
 have hk1 : (0 : Int) < (k : Int) := by omega
 have hw8 : IntKind.i64.wrap ((k : Int) / 8) = (k : Int) / 8 := IntWalk.i64_in _ (by omega)
 have hwL : IntKind.i64.wrap ((L : Int) - (k : Int)) = (L : Int) - (k : Int) := IntWalk.i64_in _ (by omega)
 have HCp : Hid (∀ x, Grow w x → Calls Tryz.prog 130 #[.slice ao os.length cap] x fun e w' => ∃ u, e = .returned u ∧ NewBytes x (copO os) u w') := fun x hx => copied_any _ _ x (HO.out x hx) (Nat.lt_of_lt_of_le (Nat.lt_of_le_of_lt (Nat.zero_le _) (lt_of_block hhd)) hx.size) p.raw.len p.raw.good
 have HPO : Hid (pieceO os k = copO os) := by show _ = _; unfold pieceO; rw [if_neg (by omega)]
 have HPB : Hid (Bytes (copO os)) := by have := q4; rw [HPO.out] at this; exact this
 have HFr : Hid (pieceN M pl.length os k = pieceR M os k / 8 * 8 ∧ 8 ≤ pieceR M os k ∧ pieceR M os k = M - (20 + (pieceO os k).length) ∧  (pieceR M os k < pl.length - k)) := ⟨hN, hr8, hR, hb⟩
 have HMM : Hid ((68 ≤ M ∧ M ≤ 65535) ∧ pl.length ≤ 10000) := ⟨hM, hL⟩
 have HVV := Lib.hid hV
 have HOF : Hid (off' = off + (k / 8 : Nat)) := by show _ = _; omega
 have hbh := lt_of_block hhd
 have hA : (w.alloc (.cells #[.int .u8 0, .int .u16 0, .bool false, .bool false, .bool false, .int .i64 0, .int .u8 0, .int .u8 0, .int .u32 0, .int .u32 0, .slice none 0 0] 27)).heap[BH]? = some (.cells #[.int .u8 tos, .int .u16 id, .bool evil, .bool df, .bool mf, .int .i64 off, .int .u8 ttl, .int .u8 proto, .int .u32 src, .int .u32 dst, .slice ao os.length cap] 27 (0, 0)) := (Below.heap_alloc _ _ _ hbh).trans hhd
 have hA2 : ((w.alloc (.cells #[.int .u8 0, .int .u16 0, .bool false, .bool false, .bool false, .int .i64 0, .int .u8 0, .int .u8 0, .int .u32 0, .int .u32 0, .slice none 0 0] 27)).alloc (.cells #[.int .u8 tos, .int .u16 id, .bool evil, .bool df, .bool mf, .int .i64 off', .int .u8 ttl, .int .u8 proto, .int .u32 src, .int .u32 dst, .slice ao os.length cap] 27)).heap[BH]? = some (.cells #[.int .u8 tos, .int .u16 id, .bool evil, .bool df, .bool mf, .int .i64 off, .int .u8 ttl, .int .u8 proto, .int .u32 src, .int .u32 dst, .slice ao os.length cap] 27 (0, 0)) := (Below.heap_alloc _ _ _ (by simp; omega)).trans hA
 have HGA : Hid (Grow w (w.alloc (.cells #[.int .u8 0, .int .u16 0, .bool false, .bool false, .bool false, .int .i64 0, .int .u8 0, .int .u8 0, .int .u32 0, .int .u32 0, .slice none 0 0] 27))) := (Grow.refl w).alloc _
 have HGB : Hid (Grow w ((w.alloc (.cells #[.int .u8 0, .int .u16 0, .bool false, .bool false, .bool false, .int .i64 0, .int .u8 0, .int .u8 0, .int .u32 0, .int .u32 0, .slice none 0 0] 27)).alloc (.cells #[.int .u8 tos, .int .u16 id, .bool evil, .bool df, .bool mf, .int .i64 off', .int .u8 ttl, .int .u8 proto, .int .u32 src, .int .u32 dst, .slice ao os.length cap] 27))) := HGA.out.alloc _
 have pB := (HGB.out.cell (block_lt hpd)).trans hpd
 obtain ⟨⟨c0, c1, c2, c3, c4, c5⟩, c6, c7, c8, c9, c10⟩ := blkH hA
 have hao := (blkH hA2).2.2.2.2.2
 clear hcells q1 q2 q3 q4 p hpd hmd hA hA2 hhd hR hr8 hb hN hc' hof hM hL HHd HO hV hbh hofs hRR hNN
 go_enter Tryz.func129, Tryz.ntmps129
 go_wp2_with fail
 obtain ⟨wB, hwB⟩ : ∃ x, (w.alloc (.cells #[.int .u8 0, .int .u16 0, .bool false, .bool false, .bool false, .int .i64 0, .int .u8 0, .int .u8 0, .int .u32 0, .int .u32 0, .slice none 0 0] 27)).alloc (.cells #[.int .u8 tos, .int .u16 id, .bool evil, .bool df, .bool mf, .int .i64 off', .int .u8 ttl, .int .u8 proto, .int .u32 src, .int .u32 dst, .slice ao os.length cap] 27) = x := ⟨_, rfl⟩
 have hsA : (w.alloc (.cells #[.int .u8 0, .int .u16 0, .bool false, .bool false, .bool false, .int .i64 0, .int .u8 0, .int .u8 0, .int .u32 0, .int .u32 0, .slice none 0 0] 27)).heap.size = w.heap.size + 1 := World.size_alloc _ _
 have hB := heap_alloc_new (w.alloc (.cells #[.int .u8 0, .int .u16 0, .bool false, .bool false, .bool false, .int .i64 0, .int .u8 0, .int .u8 0, .int .u32 0, .int .u32 0, .slice none 0 0] 27)) (.cells #[.int .u8 tos, .int .u16 id, .bool evil, .bool df, .bool mf, .int .i64 off', .int .u8 ttl, .int .u8 proto, .int .u32 src, .int .u32 dst, .slice ao os.length cap] 27)
 have hZ : ((w.alloc (.cells #[.int .u8 0, .int .u16 0, .bool false, .bool false, .bool false, .int .i64 0, .int .u8 0, .int .u8 0, .int .u32 0, .int .u32 0, .slice none 0 0] 27)).alloc (.cells #[.int .u8 tos, .int .u16 id, .bool evil, .bool df, .bool mf, .int .i64 off', .int .u8 ttl, .int .u8 proto, .int .u32 src, .int .u32 dst, .slice ao os.length cap] 27)).heap[w.heap.size]? = some (.cells #[.int .u8 0, .int .u16 0, .bool false, .bool false, .bool false, .int .i64 0, .int .u8 0, .int .u8 0, .int .u32 0, .int .u32 0, .slice none 0 0] 27 (0, 0)) := (Below.heap_alloc _ _ _ (by rw [hsA]; exact Nat.lt_succ_self _)).trans (heap_alloc_new w _)
 have hsz : ((w.alloc (.cells #[.int .u8 0, .int .u16 0, .bool false, .bool false, .bool false, .int .i64 0, .int .u8 0, .int .u8 0, .int .u32 0, .int .u32 0, .slice none 0 0] 27)).alloc (.cells #[.int .u8 tos, .int .u16 id, .bool evil, .bool df, .bool mf, .int .i64 off', .int .u8 ttl, .int .u8 proto, .int .u32 src, .int .u32 dst, .slice ao os.length cap] 27)).heap.size = w.heap.size + 1 + 1 := by rw [World.size_alloc, hsA]
 rw [hsA] at hB
 rw [hwB] at hB hZ HGB hao hsz ⊢
 have HBB := Lib.hid hB
 have HZZ := Lib.hid hZ
 have h := HCp.out wB HGB.out
 clear hsA hB hZ hwB pB c0 c1 c2 c3 c4 c5 c6 c7 c8 c9 c10 HGA hLL
 with_reducible refine h.mono ?_
 rintro e w2 ⟨u, rfl, hnb⟩
 have hbu := newb_bytes hnb HPB.out
 obtain ⟨ua, uc, rfl, hu1, hu2⟩ := hbu.shape
 obtain ⟨U, hU⟩ : ∃ x, (copO os).length = x := ⟨_, rfl⟩
 rw [hU] at hbu hu1 ⊢
 have HBU0 := Lib.hid hbu
 have hB2 := (hnb.2.block _ (lt_of_block HBB.out)).trans HBB.out
 have hZ2 := (hnb.2.block _ (lt_of_block HZZ.out)).trans HZZ.out
 have HG2 := Lib.hid (HGB.out.trans hnb.2)
 have HPd2 : Hid (w.heap[BP]? = some (.cells #[.slice po L pc] 25 (0, 0))) := by show _ = _; rw [← HPL.out]; exact HPd.out
 have hpl := cell_of_one ((HG2.out.block _ (lt_of_block HPd2.out)).trans HPd2.out)
 have hpl2 : (w2.setCell ⟨w.heap.size + 1, 10, none⟩ (.slice ua U uc)).cell? ⟨BP, 0, none⟩ = some (.slice po L pc) := cell_of_one ((Below.heap_setCell _ _ _ _ (Nat.ne_of_lt (Nat.lt_succ_of_lt (lt_of_block HPd2.out)))).trans ((HG2.out.block _ (lt_of_block HPd2.out)).trans HPd2.out))
 have hB3 : (w2.setCell ⟨w.heap.size + 1, 10, none⟩ (.slice ua U uc)).heap[w.heap.size + 1]? = some (.cells #[.int .u8 tos, .int .u16 id, .bool evil, .bool df, .bool mf, .int .i64 off', .int .u8 ttl, .int .u8 proto, .int .u32 src, .int .u32 dst, .slice ua U uc] 27 (0, 0)) := heap_setCell_same _ _ 10 _ _ _ hB2
 have hZ3 : (w2.setCell ⟨w.heap.size + 1, 10, none⟩ (.slice ua U uc)).heap[w.heap.size]? = some (.cells #[.int .u8 0, .int .u16 0, .bool false, .bool false, .bool false, .int .i64 0, .int .u8 0, .int .u8 0, .int .u32 0, .int .u32 0, .slice none 0 0] 27 (0, 0)) := (Below.heap_setCell _ _ _ _ (Nat.ne_of_lt (Nat.lt_succ_self _))).trans hZ2
 have hG3 : Grow w (w2.setCell ⟨w.heap.size + 1, 10, none⟩ (.slice ua U uc)) := HG2.out.setCell (Nat.le_succ _) _
 have hbu3 : (w2.setCell ⟨w.heap.size + 1, 10, none⟩ (.slice ua U uc)).ownsRow (w.heap.size + 1 + 1) 5 1 (.slice ua U uc) U ((copO os).map (Value.int .u8)) := by
  have := ownsRow_setCell_below hnb.1 (a := ⟨w.heap.size + 1, 10, none⟩) (by rw [hsz]; exact Nat.lt_succ_self _) (.slice ua U uc)
  rw [hsz, hU] at this
  exact this
 have HU := Lib.hid hU
 have HB := Lib.hid hB3
 have HZ := Lib.hid hZ3
 have HGB' := Lib.hid hG3
 have HBU := Lib.hid hbu3
 have d10 := (blkH hB2).2.2.2.2.2
 have f10 := (blkHz hB2).2.2.2.2.2
 have hU40 := HPB.out
 clear hsz hB3 hZ3 hG3 hbu3 hB2 hZ2 hnb h hbu hU HCp hu1 hu2 HBU0 HBB HZZ HGB
 have HSz2 : Hid (∀ x, BytesV x (.slice ua U uc) (copO os) → Calls Tryz.prog 28 #[.agg #[.int .u8 0, .int .u16 0, .bool false, .bool false, .bool false, .int .i64 0, .int .u8 0, .int .u8 0, .int .u32 0, .int .u32 0, .slice ua U uc]] x fun e w' => e = .returned (.int .i64 (20 + (U : Int))) ∧ Grow x w') := fun x hx => by
  have := HSz.out x ua uc
  rw [HPO.out, HU.out] at this
  exact this hx
 go_wp2_with fail
 generalize hwT : w2.setCell ⟨w.heap.size + 1, 10, none⟩ (.slice ua U uc) = wT at *
 clear hwT hpl hpl2 d10 f10 HSz hao
 refine wpRg 7 ?_
 simp only [List.take_succ_cons, List.take_zero, List.drop_succ_cons, List.drop_zero]
 refine wpHd (.int .i64 M) (fun w' hg => ?_) ?_
 ·have hx := cell_of_one (((HGB'.out.trans hg.below).block _ (lt_of_block HMd.out)).trans HMd.out)
  clear hg
  go_simp
  exact Below.refl _ _
 try go_simp
 repeat (refine wpHp fun K hK => ?_; go_simp; refine hK _ ?_; clear hK K)
 refine wpHd (.slice ua U uc) (fun w' hg => ?_) ?_
 ·obtain ⟨⟨y0, y1, y2, y3, y4, y5⟩, y6, y7, y8, y9, y10⟩ := blkH ((hg.below.block _ (lt_of_block HB.out)).trans HB.out)
  clear hg
  go_simp
  exact Below.refl _ _
 try go_simp
 repeat (refine wpHp fun K hK => ?_; go_simp; refine hK _ ?_; clear hK K)
 refine wpHd (.int .i64 (20 + (U : Int))) (fun w' hg => ?_) ?_
 ·have h := HSz2.out w' ⟨HPB.out, by have := ints_of_owns (own_grow HBU.out hg.below); exact this⟩
  clear hg
  go_simp
  with_reducible refine h.mono ?_
  rintro e w1 ⟨rfl, hg⟩
  exact ⟨_, rfl, rfl, hg⟩
 try go_simp
 repeat (refine wpHp fun K hK => ?_; go_simp; refine hK _ ?_; clear hK K)
 refine wpH_nil ?_
 intro xs wC hg hx1 hx2
 have HGC := Lib.hid (HGB'.out.trans hg.below)
 have hB := (hg.below.block _ (lt_of_block HB.out)).trans HB.out
 have hZ := (hg.below.block _ (lt_of_block HZ.out)).trans HZ.out
 have HBC := Lib.hid hB
 have HZC := Lib.hid hZ
 have HBUC := Lib.hid (own_grow HBU.out hg.below)
 obtain ⟨⟨c0, c1, c2, c3, c4, c5⟩, c6, c7, c8, c9, c10⟩ := blkH hB
 obtain ⟨⟨d0, d1, d2, d3, d4, d5⟩, d6, d7, d8, d9, d10⟩ := blkH hZ
 obtain ⟨⟨f0, f1, f2, f3, f4, f5⟩, f6, f7, f8, f9, f10⟩ := blkHz hZ
 have g4 := (blkHz hB).1.2.2.2.2.1
 have hRU : 8 + 20 + U ≤ M ∧ M ≤ 65535 ∧ L ≤ 10000 ∧ k < L ∧  ((M : Int) - (20 + (U : Int)) < (L : Int) - (k : Int)) := by
  obtain ⟨e1, e2, e3, e4⟩ := HFr.out
  have e5 := HMM.out
  have e6 := HPL.out
  rw [HPO.out, HU.out] at e3
  omega
 have HRU := Lib.hid hRU
 clear hg hx1 hx2 hB hZ HB HZ HGB' HBU HSz2 HMd
 simp only [fill]
 go_simp
 have hI :  ((M : Int) - (20 + (U : Int)) < (L : Int) - (k : Int)) := hRU.2.2.2.2
 have hwM : IntKind.i64.wrap ((M : Int) - (20 + (U : Int))) = (M : Int) - (20 + (U : Int)) := IntWalk.i64_in _ (by omega)
 have hq1 : ((M : Int) - (20 + (U : Int))).tdiv 8 = ((M : Int) - (20 + (U : Int))) / 8 := Int.tdiv_eq_ediv_of_nonneg (by omega)
 have hq2 : IntKind.i64.wrap (((M : Int) - (20 + (U : Int))) / 8) = ((M : Int) - (20 + (U : Int))) / 8 := IntWalk.i64_in _ (by omega)
 have hq3 : IntKind.i64.wrap (((M : Int) - (20 + (U : Int))) / 8 * 8) = ((M : Int) - (20 + (U : Int))) / 8 * 8 := IntWalk.i64_in _ (by omega)
 clear hRU
 go_wp2_with fail
 generalize hwD : ((((((((((((wC.setCell ⟨w.heap.size + 1, 4, none⟩ (.bool true)).setCell ⟨w.heap.size, 0, none⟩ (.int .u8 tos)).setCell ⟨w.heap.size, 1, none⟩ (.int .u16 id)).setCell ⟨w.heap.size, 2, none⟩ (.bool evil)).setCell ⟨w.heap.size, 3, none⟩ (.bool df)).setCell ⟨w.heap.size, 4, none⟩ (.bool true)).setCell ⟨w.heap.size, 5, none⟩ (.int .i64 off')).setCell ⟨w.heap.size, 6, none⟩ (.int .u8 ttl)).setCell ⟨w.heap.size, 7, none⟩ (.int .u8 proto)).setCell ⟨w.heap.size, 8, none⟩ (.int .u32 src)).setCell ⟨w.heap.size, 9, none⟩ (.int .u32 dst)).setCell ⟨w.heap.size, 10, none⟩ (.slice ua U uc)) = wD
 have hE : Hid (Grow w (wC.setCell ⟨w.heap.size + 1, 4, none⟩ (.bool true)) ∧ (wC.setCell ⟨w.heap.size + 1, 4, none⟩ (.bool true)).heap[w.heap.size]? = some (.cells #[.int .u8 0, .int .u16 0, .bool false, .bool false, .bool false, .int .i64 0, .int .u8 0, .int .u8 0, .int .u32 0, .int .u32 0, .slice none 0 0] 27 (0, 0)) ∧ (wC.setCell ⟨w.heap.size + 1, 4, none⟩ (.bool true)).ownsRow (w.heap.size + 1 + 1) 5 1 (.slice ua U uc) U ((copO os).map (Value.int .u8))) := ⟨HGC.out.setCell (Nat.le_succ _) _, (Below.heap_setCell _ _ _ _ (Nat.ne_of_lt (Nat.lt_succ_self _))).trans HZC.out, ownsRow_setCell_below HBUC.out (Nat.lt_succ_self _) _⟩
 have HBD : Hid (wD.heap[w.heap.size]? = some (.cells #[.int .u8 tos, .int .u16 id, .bool evil, .bool df, .bool true, .int .i64 off', .int .u8 ttl, .int .u8 proto, .int .u32 src, .int .u32 dst, .slice ua U uc] 27 (0, 0))) := by rw [← hwD]; exact put11 hE.out.2.1 _ _ _ _ _ _ _ _ _ _ _
 have HGD : Hid (Grow w wD) := by rw [← hwD]; exact grow11 hE.out.1 (Nat.le_refl _) _ _ _ _ _ _ _ _ _ _ _
 have HUD : Hid (BytesV wD (.slice ua U uc) (copO os)) := by rw [← hwD]; exact ⟨HPB.out, ints_of_owns (own11 hE.out.2.2 (by omega) _ _ _ _ _ _ _ _ _ _ _)⟩
 clear hwD c0 c1 c2 c3 c4 c5 c6 c7 c8 c9 c10 d0 d1 d2 d3 d4 d5 d6 d7 d8 d9 d10 f0 f1 f2 f3 f4 f5 f6 f7 f8 f9 f10 g4
 obtain ⟨⟨c0, c1, c2, c3, c4, c5⟩, c6, c7, c8, c9, c10⟩ := blkH HBD.out
 refine bodyPost_ret (v := .tuple #[.agg #[.int .u8 tos, .int .u16 id, .bool evil, .bool df, .bool true, .int .i64 off', .int .u8 ttl, .int .u8 proto, .int .u32 src, .int .u32 dst, .slice ua U uc], .int .i64 (((M : Int) - (20 + (U : Int))) / 8 * 8)]) (by simp [results, Tryz.results129, go_sem, c0, c1, c2, c3, c4, c5, c6, c7, c8, c9, c10]) rfl ?_
 have hfin : ((pieceN M pl.length os k : Nat) : Int) = (((M : Int) - (20 + (U : Int))) / 8 * 8) := by
  obtain ⟨e1, e2, e3, e4⟩ := HFr.out
  have e5 := HMM.out
  have e6 := HPL.out
  have e7 := HRU.out
  rw [HPO.out, HU.out] at e3
  rw [e1]
  omega
 refine ⟨.slice ua U uc, ?_, by show BytesV _ _ (pieceO os k); rw [HPO.out]; exact HUD.out, HGD.out⟩
 have e8 := HVV.out (.slice ua U uc)
 rw [← HOF.out] at e8
 first | rw [← HPL.out, e8] | rw [e8]
 show _ = Ending.returned (.tuple #[_, .int .i64 ((pieceN M pl.length os k : Nat) : Int)])
 rw [hfin]
theorem piece_any {w : World} {BH BP BM : Nat} {h : Hd} {ao : Option Addr} {cap : Nat} {po : Option Addr} {pc : Nat} {pl : List Int} {M : Nat} (p : PieceAt w BH BP BM h ao cap po pc pl M) (k : Nat) (hk : k < pl.length) :
  Calls Tryz.prog 129 #[.int .i64 k, .pointer (some ⟨BH, 0, none⟩), .pointer (some ⟨BP, 0, none⟩), .pointer (some ⟨BM, 0, none⟩)] w (Pieced h M pl.length k w) := by
 by_cases h0 : k = 0
 ·by_cases hb : pieceR M h.os k < pl.length - k
  ·exact piece_0b p k hk h0 hb
  ·exact piece_0s p k hk h0 hb
 ·by_cases hb : pieceR M h.os k < pl.length - k
  ·exact piece_kb p k hk (Nat.pos_of_ne_zero h0) hb
  ·exact piece_ks p k hk (Nat.pos_of_ne_zero h0) hb
end
end Go.Proofs.YtgckhdepnmiejaaGreat
namespace Go.Proofs.YtgckhdepnmiejaaGreat
section
set_option maxRecDepth 100000
open Go.RowKit
/-- A packet that fits: itself alone. -/
def WholeAt (w : World) (B : Nat) (zs : List Int) : Prop := ∃ v, w.heap[B]? = some (.cells #[v] 25 (0, 0)) ∧ BytesV w v zs
set_option maxHeartbeats 4000000 in
theorem pieces_fit {w : World} {b off L cap Z S : Nat} {zs : List Int} {h : Hd} {pl : List Int} (p : PktAt w b off L cap Z S zs h pl) (hL : L ≤ 10000) (M : Nat) (hM : 68 ≤ M ∧ M ≤ 65535) (hf : L ≤ M) :
  Calls Tryz.prog 113 #[.slice (some ⟨b, off, none⟩) L cap, .int .i64 M] w fun e w' => ∃ B, e = .returned (.tuple #[.func (.func 128) #[] #[.pointer (some ⟨B, 0, none⟩)], .int .i64 0]) ∧ WholeAt w' B zs ∧ Grow w w' := by
 obtain ⟨i0, hi, hz0, hz1, hz2⟩ := info_parts infoByte
 have HFt : Hid (∀ x, Grow w x → Calls Tryz.prog 67 #[.slice (some ⟨b, off, none⟩) L cap, .int .i64 M] x fun e w' => e = .returned (.tuple #[.bool true, .int .i64 0]) ∧ Grow x w') := fun x hx => by
  have := fits_any (p.mono hx) hL (M : Int) (by omega)
  rwa [show decide ((L : Int) ≤ (M : Int)) = true from decide_eq_true (by omega)] at this
 have HPa : Hid (∀ x, Grow w x → Calls Tryz.prog 11 #[.slice (some ⟨b, off, none⟩) L cap] x (Parsed h pl x)) := fun x hx => parse_any (p.mono hx) hL
 have hmay := p.raw.may
 have hz := p.z; have hlz := p.lz
 have hcm := p.capM
 have hcl := p.capL
 have hlen := p.len
 unfold maxLen at hcm
 have HLZ : Hid ((20 + (h.os.length : Int)) + (pl.length : Int) = (L : Int)) := by show _ = _; omega
 have hwL : IntKind.i64.wrap (L : Int) = (L : Int) := IntWalk.i64_in _ (by omega)
 have HP := Lib.hid p
 have HI : Hid (∀ x, Grow w x → BytesV x (.slice (some ⟨b, off, none⟩) L cap) zs) := fun x hx => (p.mono hx).bytes
 have HLn : Hid (zs.length = L ∧ L ≤ 10000) := ⟨hlen, hL⟩
 clear p hz hlz hlen
 have HG0 : Hid (Grow w (w.alloc (.cells #[.int .i64 M] 3))) := (Grow.refl w).alloc _
 go_enter Tryz.func113, Tryz.ntmps113
 go_wp2_with fail
 with_reducible refine (HFt.out _ HG0.out).mono ?_
 rintro e w1 ⟨rfl, hg⟩
 have HG1 := Lib.hid (HG0.out.trans hg)
 clear hg
 go_wp2_with fail
 with_reducible refine (HPa.out _ HG1.out).mono ?_
 rintro e w2 ⟨v, u, rfl, hok, hu, hg⟩
 have HSz : Hid (∀ x, Grow w2 x → Calls Tryz.prog 28 #[({ h with v := v } : Hd).val] x fun e w' => e = .returned (.int .i64 (20 + h.os.length)) ∧ Grow x w') := fun x hx => size_hdr { h with v := v } x (hok.mono hx) hmay
 have HG2 := Lib.hid (HG1.out.trans hg)
 have hbo : BytesV w2 v h.os := hok.body
 obtain ⟨ao, c1, rfl, _, _⟩ := hbo.shape
 obtain ⟨bo, c2, rfl, _, _⟩ := hu.shape
 clear hok hu hg HPa hmay hbo HP
 obtain ⟨tos, id, evil, df, mf, of, ttl, proto, src, dst, v0, os⟩ := h
 simp only [Hd.val, Hd.cells, hdCells] at *
 go_wp2_with fail
 obtain ⟨w3, hw3⟩ : ∃ x, (w2.alloc (.cells #[.int .u8 tos, .int .u16 id, .bool evil, .bool df, .bool mf, .int .i64 of, .int .u8 ttl, .int .u8 proto, .int .u32 src, .int .u32 dst, .slice ao os.length c1] 27)).alloc (.cells #[.slice bo pl.length c2] 25) = x := ⟨_, rfl⟩
 have hs2 : (w2.alloc (.cells #[.int .u8 tos, .int .u16 id, .bool evil, .bool df, .bool mf, .int .i64 of, .int .u8 ttl, .int .u8 proto, .int .u32 src, .int .u32 dst, .slice ao os.length c1] 27)).heap.size = w2.heap.size + 1 := World.size_alloc _ _
 have hP := heap_alloc_new (w2.alloc (.cells #[.int .u8 tos, .int .u16 id, .bool evil, .bool df, .bool mf, .int .i64 of, .int .u8 ttl, .int .u8 proto, .int .u32 src, .int .u32 dst, .slice ao os.length c1] 27)) (.cells #[.slice bo pl.length c2] 25)
 have hH : ((w2.alloc (.cells #[.int .u8 tos, .int .u16 id, .bool evil, .bool df, .bool mf, .int .i64 of, .int .u8 ttl, .int .u8 proto, .int .u32 src, .int .u32 dst, .slice ao os.length c1] 27)).alloc (.cells #[.slice bo pl.length c2] 25)).heap[w2.heap.size]? = some (.cells #[.int .u8 tos, .int .u16 id, .bool evil, .bool df, .bool mf, .int .i64 of, .int .u8 ttl, .int .u8 proto, .int .u32 src, .int .u32 dst, .slice ao os.length c1] 27 (0, 0)) := (Below.heap_alloc _ _ _ (by rw [hs2]; exact Nat.lt_succ_self _)).trans (heap_alloc_new w2 _)
 have hG3 : Grow w2 ((w2.alloc (.cells #[.int .u8 tos, .int .u16 id, .bool evil, .bool df, .bool mf, .int .i64 of, .int .u8 ttl, .int .u8 proto, .int .u32 src, .int .u32 dst, .slice ao os.length c1] 27)).alloc (.cells #[.slice bo pl.length c2] 25)) := ((Grow.refl w2).alloc _).alloc _
 rw [hs2] at hP
 rw [hw3] at hP hH hG3 ⊢
 have HP3 := Lib.hid hP
 have HH3 := Lib.hid hH
 have HG3 := Lib.hid hG3
 clear hs2 hw3 hP hH hG3
 refine wpRg 6 ?_
 simp only [List.take_succ_cons, List.take_zero, List.drop_succ_cons, List.drop_zero]
 refine wpHd (.agg #[.int .u8 tos, .int .u16 id, .bool evil, .bool df, .bool mf, .int .i64 of, .int .u8 ttl, .int .u8 proto, .int .u32 src, .int .u32 dst, .slice ao os.length c1]) (fun w' hg => ?_) ?_
 ·obtain ⟨⟨y0, y1, y2, y3, y4, y5⟩, y6, y7, y8, y9, y10⟩ := blkH ((hg.below.block _ (lt_of_block HH3.out)).trans HH3.out)
  clear hg
  go_simp
  exact Below.refl _ _
 try go_simp
 repeat (refine wpHp fun K hK => ?_; go_simp; refine hK _ ?_; clear hK K)
 refine wpHd (.int .i64 (20 + (os.length : Int))) (fun w' hg => ?_) ?_
 ·have h := HSz.out w' (HG3.out.trans hg.below)
  clear hg
  go_simp
  with_reducible refine h.mono ?_
  rintro e w1 ⟨rfl, hg⟩
  exact ⟨_, rfl, rfl, hg⟩
 try go_simp
 repeat (refine wpHp fun K hK => ?_; go_simp; refine hK _ ?_; clear hK K)
 refine wpHd (.slice bo pl.length c2) (fun w' hg => ?_) ?_
 ·have hx := cell_of_one ((hg.below.block _ (lt_of_block HP3.out)).trans HP3.out)
  clear hg
  go_simp
  exact Below.refl _ _
 try go_simp
 repeat (refine wpHp fun K hK => ?_; go_simp; refine hK _ ?_; clear hK K)
 refine wpH_nil ?_
 intro xs w4 hg hx1 hx2
 have HG4 := Lib.hid (HG2.out.trans (HG3.out.trans hg.below))
 clear hg hx1 hx2
 simp only [fill]
 have hlz := HLZ.out
 have hLc : (L : Int) ≤ (cap : Int) := by omega
 have HI4 : Hid (IntsV .u8 w4 (.slice (some ⟨b, off, none⟩) L cap) zs) := (HI.out w4 HG4.out).2
 have HB := Lib.hid (HI.out w (Grow.refl w)).1
 go_simp
 clear hlz
 go_wp2_with (at_builtin; refine wpList_append_ints (k := .u8) rfl _ _ 25 rfl w4.heap.size 5 i0 1 Tryz.underlying25 hi hz0 hz1 hz2 _ 0 [] rfl (World.ownsRow_nil _ _ _ _) _ zs rfl HI4.out ?c3 ?c4 (Nat.le_refl _) ?_)
 case c3 => have := HLn.out; unfold maxLen; omega
 case c4 => have := HLn.out; omega
 intro v' w5 hown hgrow
 have hmf : ∀ (fn : Fn) (first cap : Array Value) (w : World), (Instr.makeFunc fn first cap).run Tryz.prog w = .ok (.func fn first cap) w := fun _ _ _ _ => rfl
 have HO5 := Lib.hid hown
 have HG5 : Hid (Grow w w5) := HG4.out.trans ⟨hgrow.os, hgrow.tape, hgrow.output, hgrow.size, fun q hq => hgrow.block q hq (by simp [Value.ownBlock])⟩
 clear hown hgrow
 obtain ⟨a5, c5, rfl, _, _⟩ := (ints_of_owns HO5.out).shape
 go_wp2_with fail
 have HV5 : Hid (BytesV w5 (.slice a5 zs.length c5) zs) := ⟨HB.out, ints_of_owns HO5.out⟩
 have HN5 := Lib.hid (heap_alloc_new w5 (.cells #[.slice a5 zs.length c5] 25))
 have HG6 : Hid (Grow w5 (w5.alloc (.cells #[.slice a5 zs.length c5] 25))) := (Grow.refl w5).alloc _
 refine bodyPost_ret (v := .tuple #[.func (.func 128) #[] #[.pointer (some ⟨w5.heap.size, 0, none⟩)], .int .i64 0]) (by simp [results, Tryz.results113, go_sem]) rfl ?_
 exact ⟨_, rfl, ⟨_, HN5.out, HV5.out.mono HG6.out⟩, HG5.out.trans HG6.out⟩
end
end Go.Proofs.YtgckhdepnmiejaaGreat
namespace Go.Proofs.YtgckhdepnmiejaaGreat
section
set_option maxRecDepth 100000
open Go.RowKit
/-- Where the pieces begin. -/
def cutsF (M L : Nat) (os : List Int) : Nat → Nat → List Nat
 | 0, _ => []
 | f + 1, k => if k < L then k :: cutsF M L os f (k + pieceN M L os k) else []
def cutsFrom (M L : Nat) (os : List Int) (k : Nat) : List Nat := cutsF M L os (L - k) k
def cuts (M L : Nat) (os : List Int) : List Nat := cutsFrom M L os 0
theorem cutsF_fuel {h : Hd} (r : Raw h) {M L : Nat} (hM : 68 ≤ M) : ∀ (f f' k : Nat), L - k ≤ f → L - k ≤ f' → cutsF M L h.os f k = cutsF M L h.os f' k := by
 intro f
 induction f with
 | zero =>
  intro f' k h1 h2
  cases f' with
  | zero => rfl
  | succ f' => rw [cutsF, cutsF, if_neg (by omega)]
 | succ f ih =>
  intro f' k h1 h2
  cases f' with
  | zero => rw [cutsF, cutsF, if_neg (by omega)]
  | succ f' =>
   rw [cutsF, cutsF]
   split
   ·rename_i hk
    have := pieceN_pos r hM hk
    congr 1
    exact ih f' _ (by omega) (by omega)
   ·rfl
theorem cuts_end {M L : Nat} {os : List Int} {k : Nat} (hk : ¬ k < L) : cutsFrom M L os k = [] := by
 unfold cutsFrom; rw [show L - k = 0 by omega]; rfl
theorem cuts_eq {h : Hd} (r : Raw h) {M L : Nat} (hM : 68 ≤ M) {k : Nat} (hk : k < L) : cutsFrom M L h.os k = k :: cutsFrom M L h.os (k + pieceN M L h.os k) := by
 have hn := pieceN_pos r hM hk
 unfold cutsFrom
 rw [show L - k = (L - k - 1) + 1 by omega, cutsF, if_pos hk]
 congr 1
 exact cutsF_fuel r hM _ _ _ (by omega) (by omega)
/-- What goes over the pieces leans on this. -/
def PiecesAt (w : World) (BP BF : Nat) (h : Hd) (pl : List Int) (M : Nat) : Prop :=
 ∃ BH BM ao cap po pc, PieceAt w BH BP BM h ao cap po pc pl M ∧ w.heap[BF]? = some (.cells #[.func (.func 129) #[] #[.pointer (some ⟨BH, 0, none⟩), .pointer (some ⟨BP, 0, none⟩), .pointer (some ⟨BM, 0, none⟩)]] 233 (0, 0))
def PCut (h : Hd) (pl : List Int) (M : Nat) (w : World) (e : Ending) (w' : World) : Prop :=
 ∃ BP BF v, e = .returned (.tuple #[.func (.func 131) #[] #[.pointer (some ⟨BP, 0, none⟩), .pointer (some ⟨BF, 0, none⟩)], .int .i64 0]) ∧ PiecesAt w' BP BF { h with v := v } pl M ∧ Grow w w'
set_option maxHeartbeats 4000000 in
theorem pieces_cut {w : World} {b off L cap Z S : Nat} {zs : List Int} {h : Hd} {pl : List Int} (p : PktAt w b off L cap Z S zs h pl) (hL : L ≤ 10000) (M : Nat) (hM : 68 ≤ M ∧ M ≤ 65535) (hf : M < L) (hdf : h.df = false) (hof : h.off + pl.length ≤ 8000) :
  Calls Tryz.prog 113 #[.slice (some ⟨b, off, none⟩) L cap, .int .i64 M] w (PCut h pl M w) := by
 have HFt : Hid (∀ x, Grow w x → Calls Tryz.prog 67 #[.slice (some ⟨b, off, none⟩) L cap, .int .i64 M] x fun e w' => e = .returned (.tuple #[.bool false, .int .i64 0]) ∧ Grow x w') := fun x hx => by
  have := fits_any (p.mono hx) hL (M : Int) (by omega)
  rwa [show decide ((L : Int) ≤ (M : Int)) = false from decide_eq_false (by omega)] at this
 have HPa : Hid (∀ x, Grow w x → Calls Tryz.prog 11 #[.slice (some ⟨b, off, none⟩) L cap] x (Parsed h pl x)) := fun x hx => parse_any (p.mono hx) hL
 have HR := Lib.hid p.raw
 have HML : Hid ((68 ≤ M ∧ M ≤ 65535) ∧ pl.length ≤ 10000 ∧ h.off + pl.length ≤ 8000) := ⟨hM, by have := p.lz; omega, hof⟩
 have hcm := p.capM
 have hcl := p.capL
 unfold maxLen at hcm
 clear p
 have HG0 : Hid (Grow w (w.alloc (.cells #[.int .i64 M] 3))) := (Grow.refl w).alloc _
 have hN0 := heap_alloc_new w (.cells #[.int .i64 M] 3)
 have HN0 := Lib.hid hN0
 clear hN0
 have hmf : ∀ (fn : Fn) (first cap : Array Value) (w : World), (Instr.makeFunc fn first cap).run Tryz.prog w = .ok (.func fn first cap) w := fun _ _ _ _ => rfl
 go_enter Tryz.func113, Tryz.ntmps113
 go_wp2_with fail
 with_reducible refine (HFt.out _ HG0.out).mono ?_
 rintro e w1 ⟨rfl, hg⟩
 have HM1 := Lib.hid ((hg.block _ (lt_of_block HN0.out)).trans HN0.out)
 have HG1 := Lib.hid (HG0.out.trans hg)
 clear hg
 go_wp2_with fail
 with_reducible refine (HPa.out _ HG1.out).mono ?_
 rintro e w2 ⟨v, u, rfl, hok, hu, hg⟩
 have HG2 := Lib.hid (HG1.out.trans hg)
 have HM2 := Lib.hid ((hg.block _ (lt_of_block HM1.out)).trans HM1.out)
 have hbo : BytesV w2 v h.os := hok.body
 obtain ⟨ao, c1, rfl, _, _⟩ := hbo.shape
 obtain ⟨bo, c2, rfl, _, _⟩ := hu.shape
 have HOK := Lib.hid hok
 have HU := Lib.hid hu
 clear hok hu hg HPa hbo HN0 HM1
 obtain ⟨tos, id, evil, df, mf, of, ttl, proto, src, dst, v0, os⟩ := h
 simp only [Hd.val, Hd.cells, hdCells] at *
 subst hdf
 obtain ⟨w3, hw3⟩ : ∃ x, (w2.alloc (.cells #[.int .u8 tos, .int .u16 id, .bool evil, .bool false, .bool mf, .int .i64 of, .int .u8 ttl, .int .u8 proto, .int .u32 src, .int .u32 dst, .slice ao os.length c1] 27)).alloc (.cells #[.slice bo pl.length c2] 25) = x := ⟨_, rfl⟩
 have hs2 : (w2.alloc (.cells #[.int .u8 tos, .int .u16 id, .bool evil, .bool false, .bool mf, .int .i64 of, .int .u8 ttl, .int .u8 proto, .int .u32 src, .int .u32 dst, .slice ao os.length c1] 27)).heap.size = w2.heap.size + 1 := World.size_alloc _ _
 have hP := heap_alloc_new (w2.alloc (.cells #[.int .u8 tos, .int .u16 id, .bool evil, .bool false, .bool mf, .int .i64 of, .int .u8 ttl, .int .u8 proto, .int .u32 src, .int .u32 dst, .slice ao os.length c1] 27)) (.cells #[.slice bo pl.length c2] 25)
 have hH : ((w2.alloc (.cells #[.int .u8 tos, .int .u16 id, .bool evil, .bool false, .bool mf, .int .i64 of, .int .u8 ttl, .int .u8 proto, .int .u32 src, .int .u32 dst, .slice ao os.length c1] 27)).alloc (.cells #[.slice bo pl.length c2] 25)).heap[w2.heap.size]? = some (.cells #[.int .u8 tos, .int .u16 id, .bool evil, .bool false, .bool mf, .int .i64 of, .int .u8 ttl, .int .u8 proto, .int .u32 src, .int .u32 dst, .slice ao os.length c1] 27 (0, 0)) := (Below.heap_alloc _ _ _ (by rw [hs2]; exact Nat.lt_succ_self _)).trans (heap_alloc_new w2 _)
 have hG3 : Grow w2 ((w2.alloc (.cells #[.int .u8 tos, .int .u16 id, .bool evil, .bool false, .bool mf, .int .i64 of, .int .u8 ttl, .int .u8 proto, .int .u32 src, .int .u32 dst, .slice ao os.length c1] 27)).alloc (.cells #[.slice bo pl.length c2] 25)) := ((Grow.refl w2).alloc _).alloc _
 rw [hs2] at hP
 rw [hw3] at hP hH hG3
 have HP3 := Lib.hid hP
 have HH3 := Lib.hid hH
 have HG3 := Lib.hid hG3
 have c3 := (blkH hH).1.2.2.2.1
 clear hs2 hP hH hG3
 go_wp2_with fail
 obtain ⟨fn, hfn⟩ : ∃ x : Value, x = .func (.func 129) #[] #[.pointer (some ⟨w2.heap.size, 0, none⟩), .pointer (some ⟨w2.heap.size + 1, 0, none⟩), .pointer (some ⟨w.heap.size, 0, none⟩)] := ⟨_, rfl⟩
 have hF := heap_alloc_new w3 (.cells #[fn] 233)
 have hG4 : Grow w3 (w3.alloc (.cells #[fn] 233)) := (Grow.refl w3).alloc _
 have hPA : PieceAt (w3.alloc (.cells #[fn] 233)) w2.heap.size (w2.heap.size + 1) w.heap.size ⟨tos, id, evil, false, mf, of, ttl, proto, src, dst, .slice ao os.length c1, os⟩ ao c1 bo c2 pl M := by
  refine PieceAt.mono ⟨rfl, HH3.out, HP3.out, (HG3.out.block _ (lt_of_block HM2.out)).trans HM2.out, HOK.out.mono HG3.out, HU.out.mono HG3.out, ?_, HML.out.1, HML.out.2.1⟩ hG4
  obtain ⟨q1, q2, q3, q4, q5, q6, q7, q8, q9, q10, q11⟩ := HR.out
  exact ⟨q1, q2, q3, q4, q5, q6, q7, q8, q9, q10, q11⟩
 rw [hfn] at hF hG4 hPA
 generalize hw4 : w3.alloc (.cells #[.func (.func 129) #[] #[.pointer (some ⟨w2.heap.size, 0, none⟩), .pointer (some ⟨w2.heap.size + 1, 0, none⟩), .pointer (some ⟨w.heap.size, 0, none⟩)]] 233) = w4 at *
 have HF4 := Lib.hid hF
 have HG4 := Lib.hid (HG2.out.trans (HG3.out.trans hG4))
 have HPA := Lib.hid hPA
 have HFT := Lib.hid HFt
 clear hF hG4 hPA hw3 hw4 c3 HP3 HH3 HG3 HM2 HOK HU HFt hfn fn
 go_loopw [14] (fun i wr => ∃ k : Nat, k ≤ pl.length ∧ i = .int .i64 k ∧ Hid (Grow w4 wr)) (fun i _ => pl.length - (intOf i).toNat)
 case atStart => exact ⟨0, Nat.zero_le _, rfl, Grow.refl _⟩
 case round =>
  obtain ⟨k, hk, rfl, HGr⟩ := hrel
  have HPr := Lib.hid (HPA.out.mono HGr.out)
  have c0 := cell_of_one HPr.out.pd
  have c1' := cell_of_one ((HGr.out.block _ (lt_of_block HF4.out)).trans HF4.out)
  by_cases hlt : k < pl.length
  ·have hpc := piece_any HPr.out k hlt
   unfold Pieced at hpc
   simp only [Hd.val, Hd.cells, hdCells, pieceH] at hpc
   obtain ⟨OF, hOF⟩ : ∃ x : Int, x = of + ((k / 8 : Nat) : Int) := ⟨_, rfl⟩
   obtain ⟨MF, hMF⟩ : ∃ x : Bool, x = (mf || decide (pieceR M os k < pl.length - k)) := ⟨_, rfl⟩
   obtain ⟨N, hN⟩ : ∃ x : Nat, x = pieceN M pl.length os k := ⟨_, rfl⟩
   rw [← hOF, ← hMF, ← hN] at hpc
   have hofs := HR.out.off
   dsimp only at hofs
   have hml := HML.out.2.2
   have hO1 : ¬ (8191 < OF) := by omega
   have hnp := pieceN_pos (h := ⟨tos, id, evil, false, mf, of, ttl, proto, src, dst, v0, os⟩) HR.out HML.out.1.1 (L := pl.length) (k := k) hlt
   dsimp only at hnp
   rw [← hN] at hnp
   have hN1 : 0 < N ∧ k + N ≤ pl.length := ⟨hnp.1, hnp.2.1⟩
   have hP1 : pl.length ≤ 10000 := HML.out.2.1
   have hwk : IntKind.i64.wrap ((k : Int) + (N : Int)) = (k : Int) + (N : Int) := IntWalk.i64_in _ (by omega)
   have HPc := Lib.hid hpc
   clear hpc hofs hml hnp hN hMF hOF
   go_wp2_with fail
   with_reducible refine HPc.out.mono ?_
   rintro e w5 ⟨v, rfl, hv, hg⟩
   have hbv := hv.2.shape
   obtain ⟨av, cv, rfl, _, _⟩ := hbv
   have HG5 := Lib.hid (HGr.out.trans hg)
   clear hv hg HPc HPr
   go_wp2_with fail
   go_roundw
   case rel => exact ⟨k + N, hN1.2, by simp, HG5.out.trans ((Grow.refl _).alloc _)⟩
   case measure => simp [intOf]; omega
  ·go_wp2_with fail
   refine bodyPost_ret (v := .tuple #[.func (.func 131) #[] #[.pointer (some ⟨w2.heap.size + 1, 0, none⟩), .pointer (some ⟨w3.heap.size, 0, none⟩)], .int .i64 0]) (by simp [results, Tryz.results113, go_sem]) rfl ?_
   exact ⟨w2.heap.size + 1, w3.heap.size, .slice ao os.length c1, rfl, ⟨_, _, _, _, _, _, HPr.out, (HGr.out.block _ (lt_of_block HF4.out)).trans HF4.out⟩, HG4.out.trans HGr.out⟩
end
end Go.Proofs.YtgckhdepnmiejaaGreat
namespace Go.Proofs.YtgckhdepnmiejaaGreat
section
open Go.RowKit Go.Shelf
/-- What goes over things of which R holds where they are handed on; all of them come. -/
def SeqR {α : Type} (F : Fence) (n : Nat) (P : Program) (g : Nat) (lb : Array Value) (encs : α → Array Value) (R : α → World → Prop) (Kp : World → World → Prop) (S : List α → Prop) (N : Nat) (w : World) : Prop :=
 ∀ (l : Nat) (J : List α → World → Prop) (W : World), Below w.heap.size w W → AbidesFrom W.heap.size J →
  (∀ pre x X, J pre X → R x X → pre.length < N → YieldAt F (n - 1) P l (encs x) X fun e X' => e = .returned (.bool true) ∧ J (pre ++ [x]) X' ∧ Kp X X') →
  J [] W →
  CallsIn F n P g (#[.func (.yield l) #[] #[]] ++ lb) W fun e X => (∃ v, e = .returned v) ∧ ∃ xs, S xs ∧ J xs X
/-- How the body ends: it goes on. -/
def goesOn {α : Type} (B : Nat) (Kp : World → World → Prop) (I : List α → World → Prop) (xs : List α) (W : World) : Exit → Act → World → Prop
 | .normal, _, W' => KeepsFrom B W W' ∧ Kp W W' ∧ I xs W'
 | _, _, _ => False
theorem wpIn_rangeFunc_R {F : Fence} {n : Nat} {P : Program} {α : Type} {g : Operand} {ps : Array Tmp} {assign body : Code} {Q : Exit → Act → World → Prop} {a : Act} {w : World} (hro : F.round = none) (h1 : 1 ≤ n)
  {gf : Nat} {lb : Array Value} (hg : a.eval g = .func (.func gf) #[] lb) (hFg : F.fn gf) (eg : ∀ args w, (callFunc gf args).run P w = .ok (.enter gf args) w)
  {encs : α → Array Value} {R : α → World → Prop} {Kp : World → World → Prop} {S : List α → Prop} {N : Nat} (hseq : SeqR F (n - 1) P gf lb encs R Kp S N w)
  (hKt : ∀ {X Y Z : World}, Kp X Y → Kp Y Z → Kp X Z) (hKb : ∀ (W : World) (l : Nat) (o o' : Obj), w.heap.size ≤ l → W.heap[l]? = some o → o.isCells = false → o.isWalk = false → Kp W (W.putObj l o'))
  (hRb : ∀ (x : α) (W : World) (l : Nat) (o o' : Obj), R x W → W.heap[l]? = some o → o.isCells = false → R x (W.putObj l o'))
  (hps : ∀ x, (encs x).size = ps.size) (I : List α → World → Prop) (hI : OwnFrom w.heap.size I) (h0 : I [] w) (a₁ : α → Act)
  (hassign : ∀ (l : Nat) (x : α) (W : World) (K : Act → World → Prop), K (a₁ x) W →
   assign.wpIn (F.inRound l) (n - 1 - 1) P (Exit.then K (fun _ _ _ => False)) { tmps := (ps.zip (encs x)).foldl (fun t (p, v) => t.setIfInBounds p v) a.tmps, defers := [] } W)
  (hbody : ∀ (l : Nat) (pre : List α) (x : α) (W : World), I pre W → R x W → pre.length < N → body.wpIn (F.inRound l) (n - 1 - 1) P (goesOn w.heap.size Kp I (pre ++ [x]) W) (a₁ x) W)
  (hdone : ∀ (D : Nat) (xs : List α) (W : World), w.heap.size ≤ D → S xs → I xs W → W.heap[D]? = some (.deferred (some [])) → Q .normal { a with defers := { target := .collected D, args := #[] } :: a.defers } W) :
  (Code.rangeFunc g ps assign body).wpIn F n P Q a w := by
 refine wpIn_rangeFunc fun fn hfn => ?_
 rw [hro]
 generalize hB : w.heap.size = B at *
 -- the record, and the block of the rounds' deferred calls
 let mk (st : LoopState) : Loop := { state := st, pending := none, fn := fn, tmps := a.tmps, params := ps, assign := assign, body := body, defers := B }
 have hE : (Instr.enterLoop fn a.tmps ps assign body none).run P w = .ok (B + 1, [{ target := .collected B, args := #[] }]) ((w.alloc (.deferred (some []))).alloc (.loop (mk .ready))) := by
  rw [run_enterLoop_outer, hB]
 have hsz : (w.alloc (.deferred (some []))).heap.size = B + 1 := by rw [World.size_alloc, hB]
 have hL := World.alloc_heap_new (w.alloc (.deferred (some []))) (.loop (mk .ready))
 have hD : ((w.alloc (.deferred (some []))).alloc (.loop (mk .ready))).heap[B]? = some (.deferred (some [])) := by
  have h := World.alloc_heap_new w (.deferred (some []))
  rw [hB] at h
  exact (Below.heap_alloc _ _ _ (by rw [hsz]; exact Nat.lt_succ_self _)).trans h
 have hW : Below B w ((w.alloc (.deferred (some []))).alloc (.loop (mk .ready))) := ((Below.refl _ w).alloc (Nat.le_of_eq hB.symm) _).alloc (by rw [hsz]; exact Nat.le_succ _) _
 have hI0 : I [] ((w.alloc (.deferred (some []))).alloc (.loop (mk .ready))) := hI.alloc _ (hI.alloc _ h0)
 rw [hsz] at hL
 have hs2 : ((w.alloc (.deferred (some []))).alloc (.loop (mk .ready))).heap.size = B + 1 + 1 := by rw [World.size_alloc, hsz]
 generalize (w.alloc (.deferred (some []))).alloc (.loop (mk .ready)) = V at *
 refine ⟨B + 1, [{ target := .collected B, args := #[] }], V, { target := .fn (.func gf) lb, args := #[.func (.yield (B + 1)) #[] #[]] }, V, gf, #[.func (.yield (B + 1)) #[] #[]] ++ lb, V, hE, ?_, ?_, ?_, fun _ => h1, ?_⟩
 ·simp only [resolve, hg]
  simp [go_sem]
 ·intro f' hf'
  simp [Target.leads] at hf'
  rw [← hf']; exact hFg
 ·simp [invoke, go_sem, eg]
 ·have hout : ∀ {X Y : World} {row : Option Nat}, (∀ r, row = some r → V.heap.size ≤ r ∧ ∃ o : Obj, X.heap[r]? = some o ∧ o.isWalk = true) → ∀ r, row = some r → B ≤ r ∧ ∃ o : Obj, X.heap[r]? = some o ∧ o.isCells = false := fun h r e => by
   obtain ⟨q, o, ho, hw⟩ := h r e
   exact ⟨by omega, o, ho, Obj.not_cells_of_walk hw⟩
  refine (hseq (B + 1) (fun pre W => I pre W ∧ W.heap[B + 1]? = some (.loop (mk .ready)) ∧ W.heap[B]? = some (.deferred (some []))) V (by rw [hB]; exact hW) ?_ ?_ ⟨hI0, hL, hD⟩).mono ?_
  ·rintro s X Y row ⟨j1, j2, j3⟩ hg' hr
   exact ⟨hI s X Y row j1 hg' (hout (Y := Y) hr), (grownBy_keeps hg' (fun r e => (hr r e).2) j2 rfl).trans j2, (grownBy_keeps hg' (fun r e => (hr r e).2) j3 rfl).trans j3⟩
  ·rintro pre x X ⟨j1, j2, j3⟩ hx hlen
   have hlt := (Array.getElem?_eq_some_iff.1 j2).1
   refine ⟨fn, _, assign, body, run_yield (P := P) (args := encs x) j2 (hps x), roundIn_of_wpIn hfn (hassign _ x X _ ⟨_, run_beginRound j2 rfl, ?_⟩)⟩
   have k2 : (X.putObj (B + 1) (.loop (mk .busy))).heap[B + 1]? = some (.loop (mk .busy)) := World.putObj_heap_same hlt
   have k3 : (X.putObj (B + 1) (.loop (mk .busy))).heap[B]? = some (.deferred (some [])) := (World.putObj_heap_other (by omega)).trans j3
   refine wpIn_mono (hbody _ pre x _ (hI.putObj _ j1 (by omega) j2 rfl) (hRb _ _ _ _ _ hx j2 rfl) hlen) ?_
   intro e a3 Y hp
   cases e with
   | normal =>
    obtain ⟨p1, p2, p3⟩ := hp
    have q2 := p1.same _ _ (Nat.le_succ _) k2 rfl
    have q3 := p1.same _ _ (Nat.le_refl _) k3 rfl
    refine ⟨.bool true, Y.putObj (B + 1) (.loop (mk .ready)), run_endRound (P := P) none q2, rfl, ⟨hI.putObj _ p3 (by omega) q2 rfl, World.putObj_heap_same (Array.getElem?_eq_some_iff.1 q2).1, (World.putObj_heap_other (by omega)).trans q3⟩, ?_⟩
    exact hKt (hKt (hKb _ _ _ _ (by omega) j2 rfl rfl) p2) (hKb _ _ _ _ (by omega) q2 rfl rfl)
   | ret => exact hp.elim
   | exit id => exact hp.elim
   | goto t => exact hp.elim
   | panic ch => exact hp.elim
   | outgrown => exact hp.elim
  ·rintro e X ⟨⟨v, rfl⟩, xs, hS, j1, j2, j3⟩
   exact ⟨none, _, run_endLoop (P := P) j2 (by intro h; cases h), hdone B xs _ (Nat.le_refl _) hS (hI.putObj _ j1 (by omega) j2 rfl) ((World.putObj_heap_other (by omega)).trans j3)⟩
end
end Go.Proofs.YtgckhdepnmiejaaGreat
namespace Go.Proofs.YtgckhdepnmiejaaGreat
section
set_option maxRecDepth 100000
open Go.RowKit Go.Shelf
attribute [local go_sem] Oper.semAt_some
/-- A slice that comes, and its bytes. -/
structure Come where
 v : Value
 zs : List Int
 sl : ∃ a n c, v = .slice a n c
def Come.is (n₀ : Nat) (x : Come) (W : World) : Prop := W.ownsRow n₀ 5 1 x.v x.zs.length (x.zs.map (Value.int .u8)) ∧ Bytes x.zs
set_option maxHeartbeats 4000000 in
theorem one_seq (n : Nat) {B : Nat} {zs : List Int} (w w₁ : World) (hw : Below w.heap.size w w₁) (hB : WholeAt w B zs) (hl : zs.length ≤ 10000) :
  SeqR Fence.wide n Tryz.prog 128 #[.pointer (some ⟨B, 0, none⟩)] (fun x : Come => #[x.v]) (Come.is w.heap.size) (Below w.heap.size) (fun xs => xs.map (·.zs) = [zs]) 10000 w₁ := by
 intro l J W hW' hJ hY h0
 have hW : Below w.heap.size w W := hw.trans (hW'.mono hw.size)
 clear hW' hw
 obtain ⟨i0, hi, hz0, hz1, hz2⟩ := info_parts infoByte
 obtain ⟨v, hBk, hv⟩ := hB
 have hc := cell_of_one ((hW.block _ (lt_of_block hBk)).trans hBk)
 have hvW := hv.mono hW
 obtain ⟨va, vc, rfl, _, _⟩ := hv.shape
 have HI : Hid (IntsV .u8 W (.slice va zs.length vc) zs) := hvW.2
 have HB := Lib.hid hv.1
 have HL := Lib.hid hl
 have HY := Lib.hid hY
 have HW := Lib.hid hW
 have HJ := Lib.hid hJ
 clear hBk hv hvW hl hY hW hJ
 refine callsIn_of_wp Tryz.func128 rfl trivial ?_ rfl
 simp only [Tryz.ntmps128, List.size_toArray, List.length_cons, List.length_nil, Nat.reduceAdd, Nat.reduceSub, Array.replicate_succ, Array.replicate_zero, List.push_toArray, List.append_toArray, List.nil_append, List.cons_append]
 gi_wp2_with (first | (refine wpListIn_append_ints (k := .u8) _ rfl _ _ 25 rfl W.heap.size 5 i0 1 Tryz.underlying25 hi hz0 hz1 hz2 (.slice none 0 0) 0 [] rfl (World.ownsRow_nil _ _ _ _) _ zs rfl HI.out ?c3 ?c4 (Nat.le_refl _) ?_))
 case c3 => have := HL.out; unfold maxLen; omega
 case c4 => have := HL.out; omega
 intro v' w3 hown hgrow
 try rw [Nat.zero_add] at hown
 try rw [List.nil_append] at hown
 have hg3 : Grow W w3 := ⟨hgrow.os, hgrow.tape, hgrow.output, hgrow.size, fun q hq => hgrow.block q hq (by simp [Value.ownBlock])⟩
 have hJ3 := HJ.out _ _ _ none h0 (grown_none hg3) (fun r e => by cases e)
 have hsh : ∃ a n c, v' = .slice a n c := by obtain ⟨a, c, e, _, _⟩ := (ints_of_owns hown).shape; exact ⟨a, _, c, e⟩
 obtain ⟨fn, tmps, assign, body, hy, hR⟩ := HY.out [] ⟨v', zs, hsh⟩ w3 hJ3 ⟨own_less hown HW.out.size, HB.out⟩ (by simp)
 dsimp only at hy
 have HR := Lib.hid hR
 clear hown hgrow hg3 hJ3 hR
 gi_wp2
 refine ⟨fun h => (by cases h), HR.out.mono ?_⟩
 rintro e W3 ⟨rfl, hJ4, hk4⟩
 gi_wp2
 go_end0
 exact ⟨⟨_, rfl⟩, [⟨v', zs, hsh⟩], rfl, hJ4⟩
end
end Go.Proofs.YtgckhdepnmiejaaGreat
