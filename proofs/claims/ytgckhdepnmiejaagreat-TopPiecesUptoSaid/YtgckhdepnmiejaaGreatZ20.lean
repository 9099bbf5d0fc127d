/- A piece is taken: Table.Take. -/
import Derived.Test.YtgckhdepnmiejaaGreatZ05
import Derived.Test.YtgckhdepnmiejaaGreatZ11
import Derived.Test.YtgckhdepnmiejaaGreatZ19
set_option linter.unusedVariables false
set_option linter.unusedSimpArgs false
namespace Go.Proofs.YtgckhdepnmiejaaGreat
section
set_option maxRecDepth 100000
open Go.RowKit
open Go.Maps (Keyed)
/-- What taking a piece leaves. -/
def Took (w : World) (T F B0 N : Nat) (kl : Lit) (P : List Int) (s : FS) (h : Hd) (o Lp : Nat) (e : Ending) (w' : World) : Prop :=
 ∃ v, BelowF F B0 w w' ∧ (((s.lay { h with v := v } o Lp).whole P ∧ ∃ u, e = .returned (.tuple #[u, .int .i64 0]) ∧ BytesV w' u (pkt { (s.lay { h with v := v } o Lp).H with mf := false } P)) ∨
  (¬ (s.lay { h with v := v } o Lp).whole P ∧ e = .returned (.tuple #[.slice none 0 0, .int .i64 0]) ∧ TabSome w' T F B0 N kl P (s.lay { h with v := v } o Lp)))
theorem look_flow {w : World} {F n : Nat} {D : DataW Value} {kl : Lit} {k u : Value} (hD : w.ownsMap Tryz.prog 89 anyElem F n D) (hk : keyOf Tryz.prog 89 k = some kl) (hu : D.atKey kl (.held (.pointer none)) = .held u) :
  (Instr.lookup 83 (.map (some F)) k false).run Tryz.prog w = .ok u w := by
 obtain ⟨v, ps, hr, hv⟩ := hD.lookup pieceKeyed Tryz.underlying83 (zero91 w) (zd := .held (.pointer none)) (zp := []) rfl hk
 rw [hu] at hv
 unfold anyElem at hv
 injection hv with hv
 injection hv with hv _
 injection hv with hv
 rw [hr, hv]
theorem raw_whole {w : World} {h : Hd} (k : HdOk w h) (hm : mayH h = true) : Raw { h with mf := false } := raw_of (h := { h with mf := false }) (w := w) ⟨k.tos, k.id, k.off, k.ttl, k.proto, k.src, k.dst, k.body⟩ hm
theorem below_grow {F b : Nat} {w w' : World} (h : Grow w w') (hb : b ≤ w.heap.size) : BelowF F b w w' := GrowBut.of_below h
theorem below_but {M : Nat → Prop} {F b : Nat} {w w' : World} (h : GrowBut M w w') (hb : b ≤ w.heap.size) (hM : ∀ k, M k → k = F ∨ b ≤ k) : BelowF F b w w' := h.weaken hM
theorem owns_mono {w w' : World} {k : TypeId} {b n : Nat} {D : DataW Value} (h : w.ownsMap Tryz.prog k anyElem b n D) (hg : Grow w w') : w'.ownsMap Tryz.prog k anyElem b n D := owns_but h (GrowBut.of_below (M := NoBlock) hg) (fun e => e)
theorem FlowSt.mono {w w' : World} {B0 N X m base n : Nat} {P : List Int} {s : FS} (f : FlowSt w B0 N X m base n P s) (hg : Grow w w') : FlowSt w' B0 N X m base n P s :=
 ⟨(hg.block _ (lt_of_block (show w.heap[X]? = _ from f.flow))).trans f.flow, f.map.mono hg, f.n, ⟨f.lt.1, f.lt.2.1, Nat.le_trans f.lt.2.2 hg.size⟩, f.ge, fun h => ⟨(f.head h).1.mono hg, (f.head h).2⟩, f.fin, f.shape⟩
theorem FlowSt.lt2 {w : World} {B0 N X m base n : Nat} {P : List Int} {s : FS} (f : FlowSt w B0 N X m base n P s) : X < w.heap.size ∧ m < w.heap.size := ⟨lt_of_block (show w.heap[X]? = _ from f.flow), f.map.lt⟩
set_option maxHeartbeats 4000000 in
theorem take_some_true {w : World} {T F B0 N b off L cap Z S o Lp : Nat} {zs pl P os : List Int} {tos id ttl proto src dst : Int} {evil df : Bool} {v0 : Value} {kl : Lit} {s : FS}
  (p : PktAt w b off L cap Z S zs ⟨tos, id, evil, df, true, o, ttl, proto, src, dst, v0, os⟩ pl) (hL : L ≤ 2048) (h8 : Lp % 8 = 0) (hlp : pl.length = Lp) (hlp0 : 0 < Lp) (hP : ∀ q, 8 * q < Lp → Blk P (o + q) = (pl.drop (8 * q)).take 8) (hPl : P.length ≤ 2000) (hPb : Bytes P) (hle : 8 * o + Lp ≤ P.length)
  (hk : keyOf Tryz.prog 89 (pieceV src dst proto id) = some kl) (hN : N ≤ 900000) (hst : TabSome w T F B0 N kl P s) :
  Calls Tryz.prog 10 #[.pointer (some ⟨T, 0, none⟩), .slice (some ⟨b, off, none⟩) L cap] w (Took w T F B0 (N + 300) kl P s ⟨tos, id, evil, df, true, o, ttl, proto, src, dst, v0, os⟩ o Lp) := by
 have HP := Lib.hid p
 have HPP := Lib.hid hP
 have HPb := Lib.hid hPb
 have HK := Lib.hid hk
 have HLp := Lib.hid hlp
 have HRaw : Hid (Raw ⟨tos, id, evil, df, true, o, ttl, proto, src, dst, v0, os⟩) := p.raw
 have HEnd : Hid (true = false → 8 * o + Lp = P.length) := by
  intro h; cases h
 have HNN : Hid (N ≤ 900000 ∧ P.length ≤ 2000 ∧ 8 * o + Lp ≤ P.length) := ⟨hN, hPl, hle⟩
 obtain ⟨ht, hs⟩ := hst
 have HTab := Lib.hid ht.tab
 have HGe := Lib.hid ht.ge
 have HS := Lib.hid hs
 have HPar : Hid (∀ x, Grow w x → Calls Tryz.prog 11 #[.slice (some ⟨b, off, none⟩) L cap] x (Parsed ⟨tos, id, evil, df, true, o, ttl, proto, src, dst, v0, os⟩ pl x)) := fun x hx => parse_any (p.mono hx) (by omega)
 have hlo : IntKind.i64.wrap (8 * (o : Int)) = 8 * (o : Int) := IntWalk.i64_in _ (by omega)
 have hls : IntKind.i64.wrap (8 * (o : Int) + (Lp : Int)) = 8 * (o : Int) + (Lp : Int) := IntWalk.i64_in _ (by omega)
 have hlt : ¬ (65535 < 8 * (o : Int) + (Lp : Int)) := by omega
 have hl0 : ((Lp : Int) == 0) = false := by simp; omega
 have h81 : (Lp : Int).tmod 8 = 0 := by rw [Int.tmod_eq_emod_of_nonneg (by omega)]; omega
 have h82 : (Lp : Int) % 8 = 0 := by omega
 clear p hP hPb hk hlp ht hs hN
 go_enter Tryz.func10, Tryz.ntmps10
 go_wp2_with fail
 with_reducible refine (rthere HTab.out).mono ?_
 rintro e w0 ⟨rfl, hw0⟩
 obtain rfl : w = w0 := hw0.symm
 clear hw0
 go_wp2_with fail
 with_reducible refine (HPar.out _ (Grow.refl _)).mono ?_
 rintro e w1 ⟨v, u, rfl, hok, hu, hg⟩
 obtain ⟨va, vc, hve, _, _⟩ := hok.body.2.shape
 dsimp only at hve
 subst hve
 obtain ⟨ua, uc, hue, _, _⟩ := hu.2.shape
 rw [HLp.out] at hue
 subst hue
 have HOk : Hid (HdOk w1 ⟨tos, id, evil, df, true, o, ttl, proto, src, dst, .slice va os.length vc, os⟩) := hok
 have HU := Lib.hid hu
 have HG1 := Lib.hid hg
 unfold Hd.val Hd.cells hdCells
 dsimp only
 clear hok hu hg HPar
 go_wp2_with fail
 obtain ⟨w2, hw2⟩ : ∃ x, w1.alloc (.cells #[.int .u8 tos, .int .u16 id, .bool evil, .bool df, .bool true, .int .i64 o, .int .u8 ttl, .int .u8 proto, .int .u32 src, .int .u32 dst, .slice va os.length vc] 27) = x := ⟨_, rfl⟩
 have hN2 := heap_alloc_new w1 (.cells #[.int .u8 tos, .int .u16 id, .bool evil, .bool df, .bool true, .int .i64 o, .int .u8 ttl, .int .u8 proto, .int .u32 src, .int .u32 dst, .slice va os.length vc] 27)
 have hg2 : Grow w1 (w1.alloc (.cells #[.int .u8 tos, .int .u16 id, .bool evil, .bool df, .bool true, .int .i64 o, .int .u8 ttl, .int .u8 proto, .int .u32 src, .int .u32 dst, .slice va os.length vc] 27)) := (Grow.refl w1).alloc _
 rw [hw2] at hN2 hg2 ⊢
 obtain ⟨Hb, hHb⟩ : ∃ x, w1.heap.size = x := ⟨_, rfl⟩
 have HHb : Hid (w.heap.size ≤ Hb) := by have := HG1.out.size; show _ ≤ _; omega
 rw [hHb] at hN2 ⊢
 have HN2 := Lib.hid hN2
 have HOk2 := Lib.hid (HOk.out.mono hg2)
 have HU2 := Lib.hid (HU.out.mono hg2)
 have HG2 := Lib.hid (HG1.out.trans hg2)
 have HFr : Hid (∀ x, Grow w2 x → Calls Tryz.prog 26 #[.agg #[.int .u8 tos, .int .u16 id, .bool evil, .bool df, .bool true, .int .i64 o, .int .u8 ttl, .int .u8 proto, .int .u32 src, .int .u32 dst, .slice va os.length vc]] x fun e w' => e = .returned (.bool true) ∧ Grow x w') := fun x hx => by
  have h := fragment_hdr ⟨tos, id, evil, df, true, o, ttl, proto, src, dst, .slice va os.length vc, os⟩ x (HOk2.out.mono hx)
  have e : isPiece ⟨tos, id, evil, df, true, o, ttl, proto, src, dst, .slice va os.length vc, os⟩ = true := by rfl
  rw [e] at h
  exact h
 have HKy : Hid (∀ x, Grow w2 x → Calls Tryz.prog 29 #[.agg #[.int .u8 tos, .int .u16 id, .bool evil, .bool df, .bool true, .int .i64 o, .int .u8 ttl, .int .u8 proto, .int .u32 src, .int .u32 dst, .slice va os.length vc]] x fun e w' => e = .returned (pieceV src dst proto id) ∧ Grow x w') := fun x hx => key_any ⟨tos, id, evil, df, true, o, ttl, proto, src, dst, .slice va os.length vc, os⟩ x (HOk2.out.mono hx)
 clear hN2 hg2 hw2 hHb HOk HU HG1
 obtain ⟨⟨d0, d1, d2, d3, d4, d5⟩, d6, d7, d8, d9, d10⟩ := blkH HN2.out
 go_wp2_with fail
 with_reducible refine (HFr.out _ (Grow.refl _)).mono ?_
 rintro e w3 ⟨rfl, hg⟩
 have HG3 := Lib.hid hg
 have HN3 := Lib.hid ((hg.block _ (lt_of_block HN2.out)).trans HN2.out)
 clear hg HFr d0 d1 d2 d3 d4 d5 d6 d7 d8 d9 d10
 obtain ⟨⟨d0, d1, d2, d3, d4, d5⟩, d6, d7, d8, d9, d10⟩ := blkH HN3.out
 go_wp2_with fail
 with_reducible refine (HKy.out _ HG3.out).mono ?_
 rintro e w4 ⟨rfl, hg⟩
 unfold pieceV
 have HG4 := Lib.hid (HG3.out.trans hg)
 clear hg HKy d0 d1 d2 d3 d4 d5 d6 d7 d8 d9 d10
 go_wp2_with fail
 obtain ⟨w5, hw5⟩ : ∃ x, w4.alloc (.cells #[.int .u32 src, .int .u32 dst, .int .u8 proto, .int .u16 id] 89) = x := ⟨_, rfl⟩
 have hN5 := heap_alloc_new w4 (.cells #[.int .u32 src, .int .u32 dst, .int .u8 proto, .int .u16 id] 89)
 have hg5 : Grow w4 (w4.alloc (.cells #[.int .u32 src, .int .u32 dst, .int .u8 proto, .int .u16 id] 89)) := (Grow.refl w4).alloc _
 rw [hw5] at hN5 hg5 ⊢
 obtain ⟨Kb, hKb⟩ : ∃ x, w4.heap.size = x := ⟨_, rfl⟩
 have HKb : Hid (w.heap.size ≤ Kb) := by have h1 := HG4.out.size; have h2 := HG2.out.size; show _ ≤ _; omega
 rw [hKb] at hN5 ⊢
 have HK5 := Lib.hid hN5
 have HG25 : Hid (Grow w2 w5) := HG4.out.trans hg5
 have HG5 : Hid (Grow w w5) := HG2.out.trans HG25.out
 have HN5 := Lib.hid ((HG25.out.block _ (lt_of_block HN2.out)).trans HN2.out)
 have HTab5 : Hid (TabAt w5 T F) := (HG5.out.block _ (lt_of_block HTab.out)).trans HTab.out
 have HOk5 := Lib.hid (HOk2.out.mono HG25.out)
 have HU5 := Lib.hid (HU2.out.mono HG25.out)
 clear hN5 hg5 hw5 hKb HG4 HG3 HN3 HN2 HOk2 HU2 HTab
 obtain ⟨D, X, m, base, n, hD, hDk, hFl, hFm⟩ := HS.out
 have HD := Lib.hid hD
 have HDk := Lib.hid hDk
 have HFl := Lib.hid hFl
 have HFm := Lib.hid hFm
 have HLk : Hid (∀ x, Grow w5 x → (Instr.lookup 83 (.map (some F)) (.agg #[.int .u32 src, .int .u32 dst, .int .u8 proto, .int .u16 id]) false).run Tryz.prog x = .ok (.pointer (some ⟨X, 0, none⟩)) x) := fun x hx => look_flow (owns_mono HD.out (HG5.out.trans hx)) HK.out (HDk.out _)
 clear hD hDk hFl hFm
 refine wpRg 7 ?_
 simp only [List.take_succ_cons, List.take_zero, List.drop_succ_cons, List.drop_zero]
 repeat (refine wpHp fun K hK => ?_; go_simp; refine hK _ ?_; clear hK K)
 refine wpHd (.map (some F)) (fun w' hg => ?_) ?_
 ·have q0 := cell_of_one ((hg.below.block _ (lt_of_block HTab5.out)).trans HTab5.out)
  clear hg
  go_simp
  exact Below.refl _ _
 try go_simp
 repeat (refine wpHp fun K hK => ?_; go_simp; refine hK _ ?_; clear hK K)
 refine wpHd (.agg #[.int .u32 src, .int .u32 dst, .int .u8 proto, .int .u16 id]) (fun w' hg => ?_) ?_
 ·obtain ⟨⟨q0, q1, q2, q3⟩, _⟩ := blk4 ((hg.below.block _ (lt_of_block HK5.out)).trans HK5.out)
  clear hg
  go_simp
  exact Below.refl _ _
 try go_simp
 refine wpHd (.pointer (some ⟨X, 0, none⟩)) (fun w' hg => ?_) ?_
 ·have q0 := HLk.out w' hg.below
  clear hg
  go_simp
  exact Below.refl _ _
 try go_simp
 repeat (refine wpHp fun K hK => ?_; go_simp; refine hK _ ?_; clear hK K)
 refine wpH_nil ?_
 intro xs w6 hg hx1 hx2
 have HG6 := Lib.hid (HG5.out.trans hg.below)
 have HN6 := Lib.hid ((hg.below.block _ (lt_of_block HN5.out)).trans HN5.out)
 have HK6 := Lib.hid ((hg.below.block _ (lt_of_block HK5.out)).trans HK5.out)
 have HTab6 : Hid (TabAt w6 T F) := (hg.below.block _ (lt_of_block HTab5.out)).trans HTab5.out
 have HOk6 := Lib.hid (HOk5.out.mono hg.below)
 have HU6 := Lib.hid (HU5.out.mono hg.below)
 have HD6 := Lib.hid (owns_mono HD.out HG6.out)
 have HFl6 := Lib.hid (HFl.out.mono HG6.out)
 clear hg hx1 hx2 HG5 HN5 HK5 HTab5 HOk5 HU5 HLk HG25
 simp only [fill]
 try go_simp
 skip
 obtain ⟨⟨d0, d1, d2, d3, d4, d5⟩, d6, d7, d8, d9, d10⟩ := blkH HN6.out
 have HLay := Lib.hid (lay_st HFl6.out (h := ⟨tos, id, evil, df, true, o, ttl, proto, src, dst, .slice va os.length vc, os⟩) (u := .slice ua Lp uc) (pl := pl) (o := o) (L := Lp) HNN.out.1 HOk6.out (by have := HRaw.out.may; exact this) rfl (by have := HNN.out; omega) HU6.out HLp.out hlp0 (by have := HNN.out; omega) HPP.out (fun e => HEnd.out (by first | exact trivial | exact e)))
 go_wp2_with fail
 unfold Hd.val Hd.cells hdCells at HLay
 dsimp only at HLay
 with_reducible refine HLay.out.mono ?_
 rintro e w7 ⟨⟨uu, rfl⟩, ⟨n7, hf7⟩, hg7⟩
 have HFl7 := Lib.hid hf7
 have HGx7 := Lib.hid hg7
 have hF1 : F ≠ X := fun e => by
  obtain ⟨es, clock, hb, _⟩ := HD6.out
  have h := HFl6.out.flow
  unfold FlowAt at h
  rw [← e, hb] at h
  simp at h
 have hT1 : T ≠ m := fun e => by
  obtain ⟨DD, ⟨es, clock, hb, _⟩, _⟩ := HFl6.out.map
  have h : w6.heap[T]? = _ := HTab6.out
  rw [e, hb] at h
  simp at h
 have hT2 : T ≠ X := fun e => by
  have h := HFl6.out.flow
  unfold FlowAt at h
  have h2 : w6.heap[T]? = _ := HTab6.out
  rw [e, h] at h2
  simp at h2
 have hK1 : Kb ≠ m ∧ Kb ≠ X := by
  refine ⟨fun e => ?_, fun e => ?_⟩
  ·obtain ⟨DD, ⟨es, clock, hb, _⟩, _⟩ := HFl6.out.map
   have h := HK6.out
   rw [e, hb] at h
   simp at h
  ·have h := HFl6.out.flow
   unfold FlowAt at h
   have h2 := HK6.out
   rw [e, h] at h2
   simp at h2
 have HD7 : Hid (w7.ownsMap (H := Value) Tryz.prog 89 anyElem F 1 D) := owns_but HD6.out hg7 (fun e => by rcases e with e | e; exact HFm.out e; exact hF1 e)
 have HTab7 : Hid (TabAt w7 T F) := (hg7.block _ (lt_of_block (show w6.heap[T]? = _ from HTab6.out)) (fun e => by rcases e with e | e; exact hT1 e; exact hT2 e)).trans HTab6.out
 have HK7 := Lib.hid ((hg7.block _ (lt_of_block HK6.out) (fun e => by rcases e with e | e; exact hK1.1 e; exact hK1.2 e)).trans HK6.out)
 have HB7 : Hid (BelowF F B0 w w7) := GrowBut.trans (below_grow HG6.out HGe.out) (below_but hg7 (Nat.le_trans HGe.out HG6.out.size) (fun k e => by rcases e with e | e; exact Or.inr (e ▸ HFl6.out.ge.2); exact Or.inr (e ▸ HFl6.out.ge.1)))
 have HSz7 : Hid (B0 ≤ w7.heap.size) := Nat.le_trans HGe.out HB7.out.size
 clear hf7 hg7 hF1 hT1 hT2 hK1 d0 d1 d2 d3 d4 d5 d6 d7 d8 d9 d10 HLay
 go_wp2_with fail
 with_reducible refine (whole_st HFl7.out (by have := HNN.out; omega) (by have := HNN.out; omega) HPb.out).mono ?_
 rintro e w8 (⟨hwh, v8, rfl, hn8, hg8⟩ | ⟨hwh, rfl, hg8⟩)
 ·have HWh := Lib.hid hwh
  have HNb8 := Lib.hid hn8
  have HD8 := Lib.hid (owns_mono HD7.out hg8)
  have HTab8 : Hid (TabAt w8 T F) := (hg8.block _ (lt_of_block (show w7.heap[T]? = _ from HTab7.out))).trans HTab7.out
  have HK8 := Lib.hid ((hg8.block _ (lt_of_block HK7.out)).trans HK7.out)
  have HB8 : Hid (BelowF F B0 w w8) := GrowBut.trans HB7.out (below_grow hg8 HSz7.out)
  have HHd := Lib.hid (And.intro ((HFl7.out.head hwh.1).1.mono hg8) (HFl7.out.head hwh.1).2)
  clear hwh hn8 hg8 HD7 HTab7 HK7 HFl7
  go_wp2_with fail
  refine wpRg 5 ?_
  simp only [List.take_succ_cons, List.take_zero, List.drop_succ_cons, List.drop_zero]
  repeat (refine wpHp fun K hK => ?_; go_simp; refine hK _ ?_; clear hK K)
  refine wpHd (.map (some F)) (fun w' hg => ?_) ?_
  ·have q0 := cell_of_one ((hg.below.block _ (lt_of_block (show w8.heap[T]? = _ from HTab8.out))).trans HTab8.out)
   clear hg
   go_simp
   exact Below.refl _ _
  try go_simp
  repeat (refine wpHp fun K hK => ?_; go_simp; refine hK _ ?_; clear hK K)
  refine wpHd (.agg #[.int .u32 src, .int .u32 dst, .int .u8 proto, .int .u16 id]) (fun w' hg => ?_) ?_
  ·obtain ⟨⟨q0, q1, q2, q3⟩, _⟩ := blk4 ((hg.below.block _ (lt_of_block HK8.out)).trans HK8.out)
   clear hg
   go_simp
   exact Below.refl _ _
  try go_simp
  refine wpH_nil ?_
  intro xs w9 hg hx1 hx2
  have HB9 : Hid (BelowF F B0 w w9) := GrowBut.trans HB8.out (below_grow hg.below (Nat.le_trans HGe.out HB8.out.size))
  have HD9 := Lib.hid (owns_mono HD8.out hg.below)
  have HHd9 : Hid (HdOk w9 _ ∧ _) := ⟨HHd.out.1.mono hg.below, HHd.out.2⟩
  have HNb9 : Hid (BytesV w9 v8 (pkt { (s.lay ⟨tos, id, evil, df, true, o, ttl, proto, src, dst, .slice va os.length vc, os⟩ o Lp).H with mf := false } P)) := ⟨pkt_bytes (raw_whole HHd9.out.1 HHd9.out.2) HPb.out, (ints_of_owns HNb8.out).mono hg.below⟩
  clear hg hx1 hx2
  simp only [fill]
  try go_simp
  obtain ⟨wz, hdel, hDz, hturn⟩ := HD9.out.drop pieceKeyed Tryz.underlying83 HK.out 0
  have HFin : Hid (BelowF F B0 w wz ∧ BytesV wz v8 (pkt { (s.lay ⟨tos, id, evil, df, true, o, ttl, proto, src, dst, .slice va os.length vc, os⟩ o Lp).H with mf := false } P)) := by
   have hgz := hturn.grown
   have hgb : GrowBut (fun j => j = F) w9 wz := ⟨hgz.os, hgz.tape, hgz.output, hgz.size, fun k hk hn => hgz.block k hk (fun e => hn (by injection e))⟩
   exact ⟨GrowBut.trans HB9.out (below_but hgb (Nat.le_trans HGe.out HB9.out.size) (fun k e => Or.inl e)), map_bytes HD9.out HNb9.out hgb⟩
  unfold pieceV at hdel
  clear hDz hturn
  obtain ⟨x8, k8, c8, e8⟩ : ∃ a n c, v8 = .slice a n c := by obtain ⟨a, c, e, _, _⟩ := HNb9.out.2.shape; exact ⟨_, _, _, e⟩
  subst e8
  go_wp2_with fail
  refine bodyPost_ret (v := .tuple #[.slice x8 k8 c8, .int .i64 0]) (by simp [results, Tryz.results10, go_sem]) rfl ?_
  exact ⟨_, HFin.out.1, Or.inl ⟨HWh.out, _, rfl, HFin.out.2⟩⟩
 ·have HWh := Lib.hid hwh
  have HD8 := Lib.hid (owns_mono HD7.out hg8)
  have HTab8 : Hid (TabAt w8 T F) := (hg8.block _ (lt_of_block (show w7.heap[T]? = _ from HTab7.out))).trans HTab7.out
  have HFl8 := Lib.hid (HFl7.out.mono hg8)
  have HB8 : Hid (BelowF F B0 w w8) := GrowBut.trans HB7.out (below_grow hg8 HSz7.out)
  clear hwh hg8 HD7 HTab7 HK7 HFl7
  go_wp2_with fail
  refine bodyPost_ret (v := .tuple #[.slice none 0 0, .int .i64 0]) (by simp [results, Tryz.results10, go_sem]) rfl ?_
  exact ⟨_, HB8.out, Or.inr ⟨HWh.out, rfl, ⟨HTab8.out, Nat.le_trans HGe.out HB8.out.size⟩, D, X, m, base, n7, HD8.out, HDk.out, HFl8.out, HFm.out⟩⟩
set_option maxHeartbeats 4000000 in
theorem take_some_false {w : World} {T F B0 N b off L cap Z S o Lp : Nat} {zs pl P os : List Int} {tos id ttl proto src dst : Int} {evil df : Bool} {v0 : Value} {kl : Lit} {s : FS}
  (p : PktAt w b off L cap Z S zs ⟨tos, id, evil, df, false, o, ttl, proto, src, dst, v0, os⟩ pl) (hL : L ≤ 2048) (ho0 : 0 < o) (hend : 8 * o + Lp = P.length) (hlp : pl.length = Lp) (hlp0 : 0 < Lp) (hP : ∀ q, 8 * q < Lp → Blk P (o + q) = (pl.drop (8 * q)).take 8) (hPl : P.length ≤ 2000) (hPb : Bytes P) (hle : 8 * o + Lp ≤ P.length)
  (hk : keyOf Tryz.prog 89 (pieceV src dst proto id) = some kl) (hN : N ≤ 900000) (hst : TabSome w T F B0 N kl P s) :
  Calls Tryz.prog 10 #[.pointer (some ⟨T, 0, none⟩), .slice (some ⟨b, off, none⟩) L cap] w (Took w T F B0 (N + 300) kl P s ⟨tos, id, evil, df, false, o, ttl, proto, src, dst, v0, os⟩ o Lp) := by
 have HP := Lib.hid p
 have HPP := Lib.hid hP
 have HPb := Lib.hid hPb
 have HK := Lib.hid hk
 have HLp := Lib.hid hlp
 have HRaw : Hid (Raw ⟨tos, id, evil, df, false, o, ttl, proto, src, dst, v0, os⟩) := p.raw
 have HEnd : Hid (false = false → 8 * o + Lp = P.length) := by
  intro _; exact hend
 have HNN : Hid (N ≤ 900000 ∧ P.length ≤ 2000 ∧ 8 * o + Lp ≤ P.length) := ⟨hN, hPl, hle⟩
 obtain ⟨ht, hs⟩ := hst
 have HTab := Lib.hid ht.tab
 have HGe := Lib.hid ht.ge
 have HS := Lib.hid hs
 have HPar : Hid (∀ x, Grow w x → Calls Tryz.prog 11 #[.slice (some ⟨b, off, none⟩) L cap] x (Parsed ⟨tos, id, evil, df, false, o, ttl, proto, src, dst, v0, os⟩ pl x)) := fun x hx => parse_any (p.mono hx) (by omega)
 have hlo : IntKind.i64.wrap (8 * (o : Int)) = 8 * (o : Int) := IntWalk.i64_in _ (by omega)
 have hls : IntKind.i64.wrap (8 * (o : Int) + (Lp : Int)) = 8 * (o : Int) + (Lp : Int) := IntWalk.i64_in _ (by omega)
 have hlt : ¬ (65535 < 8 * (o : Int) + (Lp : Int)) := by omega
 have hl0 : ((Lp : Int) == 0) = false := by simp; omega
 skip
 clear p hP hPb hk hlp ht hs hN
 go_enter Tryz.func10, Tryz.ntmps10
 go_wp2_with fail
 with_reducible refine (rthere HTab.out).mono ?_
 rintro e w0 ⟨rfl, hw0⟩
 obtain rfl : w = w0 := hw0.symm
 clear hw0
 go_wp2_with fail
 with_reducible refine (HPar.out _ (Grow.refl _)).mono ?_
 rintro e w1 ⟨v, u, rfl, hok, hu, hg⟩
 obtain ⟨va, vc, hve, _, _⟩ := hok.body.2.shape
 dsimp only at hve
 subst hve
 obtain ⟨ua, uc, hue, _, _⟩ := hu.2.shape
 rw [HLp.out] at hue
 subst hue
 have HOk : Hid (HdOk w1 ⟨tos, id, evil, df, false, o, ttl, proto, src, dst, .slice va os.length vc, os⟩) := hok
 have HU := Lib.hid hu
 have HG1 := Lib.hid hg
 unfold Hd.val Hd.cells hdCells
 dsimp only
 clear hok hu hg HPar
 go_wp2_with fail
 obtain ⟨w2, hw2⟩ : ∃ x, w1.alloc (.cells #[.int .u8 tos, .int .u16 id, .bool evil, .bool df, .bool false, .int .i64 o, .int .u8 ttl, .int .u8 proto, .int .u32 src, .int .u32 dst, .slice va os.length vc] 27) = x := ⟨_, rfl⟩
 have hN2 := heap_alloc_new w1 (.cells #[.int .u8 tos, .int .u16 id, .bool evil, .bool df, .bool false, .int .i64 o, .int .u8 ttl, .int .u8 proto, .int .u32 src, .int .u32 dst, .slice va os.length vc] 27)
 have hg2 : Grow w1 (w1.alloc (.cells #[.int .u8 tos, .int .u16 id, .bool evil, .bool df, .bool false, .int .i64 o, .int .u8 ttl, .int .u8 proto, .int .u32 src, .int .u32 dst, .slice va os.length vc] 27)) := (Grow.refl w1).alloc _
 rw [hw2] at hN2 hg2 ⊢
 obtain ⟨Hb, hHb⟩ : ∃ x, w1.heap.size = x := ⟨_, rfl⟩
 have HHb : Hid (w.heap.size ≤ Hb) := by have := HG1.out.size; show _ ≤ _; omega
 rw [hHb] at hN2 ⊢
 have HN2 := Lib.hid hN2
 have HOk2 := Lib.hid (HOk.out.mono hg2)
 have HU2 := Lib.hid (HU.out.mono hg2)
 have HG2 := Lib.hid (HG1.out.trans hg2)
 have HFr : Hid (∀ x, Grow w2 x → Calls Tryz.prog 26 #[.agg #[.int .u8 tos, .int .u16 id, .bool evil, .bool df, .bool false, .int .i64 o, .int .u8 ttl, .int .u8 proto, .int .u32 src, .int .u32 dst, .slice va os.length vc]] x fun e w' => e = .returned (.bool true) ∧ Grow x w') := fun x hx => by
  have h := fragment_hdr ⟨tos, id, evil, df, false, o, ttl, proto, src, dst, .slice va os.length vc, os⟩ x (HOk2.out.mono hx)
  have e : isPiece ⟨tos, id, evil, df, false, o, ttl, proto, src, dst, .slice va os.length vc, os⟩ = true := by unfold isPiece; dsimp only; simp; omega
  rw [e] at h
  exact h
 have HKy : Hid (∀ x, Grow w2 x → Calls Tryz.prog 29 #[.agg #[.int .u8 tos, .int .u16 id, .bool evil, .bool df, .bool false, .int .i64 o, .int .u8 ttl, .int .u8 proto, .int .u32 src, .int .u32 dst, .slice va os.length vc]] x fun e w' => e = .returned (pieceV src dst proto id) ∧ Grow x w') := fun x hx => key_any ⟨tos, id, evil, df, false, o, ttl, proto, src, dst, .slice va os.length vc, os⟩ x (HOk2.out.mono hx)
 clear hN2 hg2 hw2 hHb HOk HU HG1
 obtain ⟨⟨d0, d1, d2, d3, d4, d5⟩, d6, d7, d8, d9, d10⟩ := blkH HN2.out
 go_wp2_with fail
 with_reducible refine (HFr.out _ (Grow.refl _)).mono ?_
 rintro e w3 ⟨rfl, hg⟩
 have HG3 := Lib.hid hg
 have HN3 := Lib.hid ((hg.block _ (lt_of_block HN2.out)).trans HN2.out)
 clear hg HFr d0 d1 d2 d3 d4 d5 d6 d7 d8 d9 d10
 obtain ⟨⟨d0, d1, d2, d3, d4, d5⟩, d6, d7, d8, d9, d10⟩ := blkH HN3.out
 go_wp2_with fail
 with_reducible refine (HKy.out _ HG3.out).mono ?_
 rintro e w4 ⟨rfl, hg⟩
 unfold pieceV
 have HG4 := Lib.hid (HG3.out.trans hg)
 clear hg HKy d0 d1 d2 d3 d4 d5 d6 d7 d8 d9 d10
 go_wp2_with fail
 obtain ⟨w5, hw5⟩ : ∃ x, w4.alloc (.cells #[.int .u32 src, .int .u32 dst, .int .u8 proto, .int .u16 id] 89) = x := ⟨_, rfl⟩
 have hN5 := heap_alloc_new w4 (.cells #[.int .u32 src, .int .u32 dst, .int .u8 proto, .int .u16 id] 89)
 have hg5 : Grow w4 (w4.alloc (.cells #[.int .u32 src, .int .u32 dst, .int .u8 proto, .int .u16 id] 89)) := (Grow.refl w4).alloc _
 rw [hw5] at hN5 hg5 ⊢
 obtain ⟨Kb, hKb⟩ : ∃ x, w4.heap.size = x := ⟨_, rfl⟩
 have HKb : Hid (w.heap.size ≤ Kb) := by have h1 := HG4.out.size; have h2 := HG2.out.size; show _ ≤ _; omega
 rw [hKb] at hN5 ⊢
 have HK5 := Lib.hid hN5
 have HG25 : Hid (Grow w2 w5) := HG4.out.trans hg5
 have HG5 : Hid (Grow w w5) := HG2.out.trans HG25.out
 have HN5 := Lib.hid ((HG25.out.block _ (lt_of_block HN2.out)).trans HN2.out)
 have HTab5 : Hid (TabAt w5 T F) := (HG5.out.block _ (lt_of_block HTab.out)).trans HTab.out
 have HOk5 := Lib.hid (HOk2.out.mono HG25.out)
 have HU5 := Lib.hid (HU2.out.mono HG25.out)
 clear hN5 hg5 hw5 hKb HG4 HG3 HN3 HN2 HOk2 HU2 HTab
 obtain ⟨D, X, m, base, n, hD, hDk, hFl, hFm⟩ := HS.out
 have HD := Lib.hid hD
 have HDk := Lib.hid hDk
 have HFl := Lib.hid hFl
 have HFm := Lib.hid hFm
 have HLk : Hid (∀ x, Grow w5 x → (Instr.lookup 83 (.map (some F)) (.agg #[.int .u32 src, .int .u32 dst, .int .u8 proto, .int .u16 id]) false).run Tryz.prog x = .ok (.pointer (some ⟨X, 0, none⟩)) x) := fun x hx => look_flow (owns_mono HD.out (HG5.out.trans hx)) HK.out (HDk.out _)
 clear hD hDk hFl hFm
 refine wpRg 7 ?_
 simp only [List.take_succ_cons, List.take_zero, List.drop_succ_cons, List.drop_zero]
 repeat (refine wpHp fun K hK => ?_; go_simp; refine hK _ ?_; clear hK K)
 refine wpHd (.map (some F)) (fun w' hg => ?_) ?_
 ·have q0 := cell_of_one ((hg.below.block _ (lt_of_block HTab5.out)).trans HTab5.out)
  clear hg
  go_simp
  exact Below.refl _ _
 try go_simp
 repeat (refine wpHp fun K hK => ?_; go_simp; refine hK _ ?_; clear hK K)
 refine wpHd (.agg #[.int .u32 src, .int .u32 dst, .int .u8 proto, .int .u16 id]) (fun w' hg => ?_) ?_
 ·obtain ⟨⟨q0, q1, q2, q3⟩, _⟩ := blk4 ((hg.below.block _ (lt_of_block HK5.out)).trans HK5.out)
  clear hg
  go_simp
  exact Below.refl _ _
 try go_simp
 refine wpHd (.pointer (some ⟨X, 0, none⟩)) (fun w' hg => ?_) ?_
 ·have q0 := HLk.out w' hg.below
  clear hg
  go_simp
  exact Below.refl _ _
 try go_simp
 repeat (refine wpHp fun K hK => ?_; go_simp; refine hK _ ?_; clear hK K)
 refine wpH_nil ?_
 intro xs w6 hg hx1 hx2
 have HG6 := Lib.hid (HG5.out.trans hg.below)
 have HN6 := Lib.hid ((hg.below.block _ (lt_of_block HN5.out)).trans HN5.out)
 have HK6 := Lib.hid ((hg.below.block _ (lt_of_block HK5.out)).trans HK5.out)
 have HTab6 : Hid (TabAt w6 T F) := (hg.below.block _ (lt_of_block HTab5.out)).trans HTab5.out
 have HOk6 := Lib.hid (HOk5.out.mono hg.below)
 have HU6 := Lib.hid (HU5.out.mono hg.below)
 have HD6 := Lib.hid (owns_mono HD.out HG6.out)
 have HFl6 := Lib.hid (HFl.out.mono HG6.out)
 clear hg hx1 hx2 HG5 HN5 HK5 HTab5 HOk5 HU5 HLk HG25
 simp only [fill]
 try go_simp
 skip
 obtain ⟨⟨d0, d1, d2, d3, d4, d5⟩, d6, d7, d8, d9, d10⟩ := blkH HN6.out
 have HLay := Lib.hid (lay_st HFl6.out (h := ⟨tos, id, evil, df, false, o, ttl, proto, src, dst, .slice va os.length vc, os⟩) (u := .slice ua Lp uc) (pl := pl) (o := o) (L := Lp) HNN.out.1 HOk6.out (by have := HRaw.out.may; exact this) rfl (by have := HNN.out; omega) HU6.out HLp.out hlp0 (by have := HNN.out; omega) HPP.out (fun e => HEnd.out (by first | exact trivial | exact e)))
 go_wp2_with fail
 unfold Hd.val Hd.cells hdCells at HLay
 dsimp only at HLay
 with_reducible refine HLay.out.mono ?_
 rintro e w7 ⟨⟨uu, rfl⟩, ⟨n7, hf7⟩, hg7⟩
 have HFl7 := Lib.hid hf7
 have HGx7 := Lib.hid hg7
 have hF1 : F ≠ X := fun e => by
  obtain ⟨es, clock, hb, _⟩ := HD6.out
  have h := HFl6.out.flow
  unfold FlowAt at h
  rw [← e, hb] at h
  simp at h
 have hT1 : T ≠ m := fun e => by
  obtain ⟨DD, ⟨es, clock, hb, _⟩, _⟩ := HFl6.out.map
  have h : w6.heap[T]? = _ := HTab6.out
  rw [e, hb] at h
  simp at h
 have hT2 : T ≠ X := fun e => by
  have h := HFl6.out.flow
  unfold FlowAt at h
  have h2 : w6.heap[T]? = _ := HTab6.out
  rw [e, h] at h2
  simp at h2
 have hK1 : Kb ≠ m ∧ Kb ≠ X := by
  refine ⟨fun e => ?_, fun e => ?_⟩
  ·obtain ⟨DD, ⟨es, clock, hb, _⟩, _⟩ := HFl6.out.map
   have h := HK6.out
   rw [e, hb] at h
   simp at h
  ·have h := HFl6.out.flow
   unfold FlowAt at h
   have h2 := HK6.out
   rw [e, h] at h2
   simp at h2
 have HD7 : Hid (w7.ownsMap (H := Value) Tryz.prog 89 anyElem F 1 D) := owns_but HD6.out hg7 (fun e => by rcases e with e | e; exact HFm.out e; exact hF1 e)
 have HTab7 : Hid (TabAt w7 T F) := (hg7.block _ (lt_of_block (show w6.heap[T]? = _ from HTab6.out)) (fun e => by rcases e with e | e; exact hT1 e; exact hT2 e)).trans HTab6.out
 have HK7 := Lib.hid ((hg7.block _ (lt_of_block HK6.out) (fun e => by rcases e with e | e; exact hK1.1 e; exact hK1.2 e)).trans HK6.out)
 have HB7 : Hid (BelowF F B0 w w7) := GrowBut.trans (below_grow HG6.out HGe.out) (below_but hg7 (Nat.le_trans HGe.out HG6.out.size) (fun k e => by rcases e with e | e; exact Or.inr (e ▸ HFl6.out.ge.2); exact Or.inr (e ▸ HFl6.out.ge.1)))
 have HSz7 : Hid (B0 ≤ w7.heap.size) := Nat.le_trans HGe.out HB7.out.size
 clear hf7 hg7 hF1 hT1 hT2 hK1 d0 d1 d2 d3 d4 d5 d6 d7 d8 d9 d10 HLay
 go_wp2_with fail
 with_reducible refine (whole_st HFl7.out (by have := HNN.out; omega) (by have := HNN.out; omega) HPb.out).mono ?_
 rintro e w8 (⟨hwh, v8, rfl, hn8, hg8⟩ | ⟨hwh, rfl, hg8⟩)
 ·have HWh := Lib.hid hwh
  have HNb8 := Lib.hid hn8
  have HD8 := Lib.hid (owns_mono HD7.out hg8)
  have HTab8 : Hid (TabAt w8 T F) := (hg8.block _ (lt_of_block (show w7.heap[T]? = _ from HTab7.out))).trans HTab7.out
  have HK8 := Lib.hid ((hg8.block _ (lt_of_block HK7.out)).trans HK7.out)
  have HB8 : Hid (BelowF F B0 w w8) := GrowBut.trans HB7.out (below_grow hg8 HSz7.out)
  have HHd := Lib.hid (And.intro ((HFl7.out.head hwh.1).1.mono hg8) (HFl7.out.head hwh.1).2)
  clear hwh hn8 hg8 HD7 HTab7 HK7 HFl7
  go_wp2_with fail
  refine wpRg 5 ?_
  simp only [List.take_succ_cons, List.take_zero, List.drop_succ_cons, List.drop_zero]
  repeat (refine wpHp fun K hK => ?_; go_simp; refine hK _ ?_; clear hK K)
  refine wpHd (.map (some F)) (fun w' hg => ?_) ?_
  ·have q0 := cell_of_one ((hg.below.block _ (lt_of_block (show w8.heap[T]? = _ from HTab8.out))).trans HTab8.out)
   clear hg
   go_simp
   exact Below.refl _ _
  try go_simp
  repeat (refine wpHp fun K hK => ?_; go_simp; refine hK _ ?_; clear hK K)
  refine wpHd (.agg #[.int .u32 src, .int .u32 dst, .int .u8 proto, .int .u16 id]) (fun w' hg => ?_) ?_
  ·obtain ⟨⟨q0, q1, q2, q3⟩, _⟩ := blk4 ((hg.below.block _ (lt_of_block HK8.out)).trans HK8.out)
   clear hg
   go_simp
   exact Below.refl _ _
  try go_simp
  refine wpH_nil ?_
  intro xs w9 hg hx1 hx2
  have HB9 : Hid (BelowF F B0 w w9) := GrowBut.trans HB8.out (below_grow hg.below (Nat.le_trans HGe.out HB8.out.size))
  have HD9 := Lib.hid (owns_mono HD8.out hg.below)
  have HHd9 : Hid (HdOk w9 _ ∧ _) := ⟨HHd.out.1.mono hg.below, HHd.out.2⟩
  have HNb9 : Hid (BytesV w9 v8 (pkt { (s.lay ⟨tos, id, evil, df, false, o, ttl, proto, src, dst, .slice va os.length vc, os⟩ o Lp).H with mf := false } P)) := ⟨pkt_bytes (raw_whole HHd9.out.1 HHd9.out.2) HPb.out, (ints_of_owns HNb8.out).mono hg.below⟩
  clear hg hx1 hx2
  simp only [fill]
  try go_simp
  obtain ⟨wz, hdel, hDz, hturn⟩ := HD9.out.drop pieceKeyed Tryz.underlying83 HK.out 0
  have HFin : Hid (BelowF F B0 w wz ∧ BytesV wz v8 (pkt { (s.lay ⟨tos, id, evil, df, false, o, ttl, proto, src, dst, .slice va os.length vc, os⟩ o Lp).H with mf := false } P)) := by
   have hgz := hturn.grown
   have hgb : GrowBut (fun j => j = F) w9 wz := ⟨hgz.os, hgz.tape, hgz.output, hgz.size, fun k hk hn => hgz.block k hk (fun e => hn (by injection e))⟩
   exact ⟨GrowBut.trans HB9.out (below_but hgb (Nat.le_trans HGe.out HB9.out.size) (fun k e => Or.inl e)), map_bytes HD9.out HNb9.out hgb⟩
  unfold pieceV at hdel
  clear hDz hturn
  obtain ⟨x8, k8, c8, e8⟩ : ∃ a n c, v8 = .slice a n c := by obtain ⟨a, c, e, _, _⟩ := HNb9.out.2.shape; exact ⟨_, _, _, e⟩
  subst e8
  go_wp2_with fail
  refine bodyPost_ret (v := .tuple #[.slice x8 k8 c8, .int .i64 0]) (by simp [results, Tryz.results10, go_sem]) rfl ?_
  exact ⟨_, HFin.out.1, Or.inl ⟨HWh.out, _, rfl, HFin.out.2⟩⟩
 ·have HWh := Lib.hid hwh
  have HD8 := Lib.hid (owns_mono HD7.out hg8)
  have HTab8 : Hid (TabAt w8 T F) := (hg8.block _ (lt_of_block (show w7.heap[T]? = _ from HTab7.out))).trans HTab7.out
  have HFl8 := Lib.hid (HFl7.out.mono hg8)
  have HB8 : Hid (BelowF F B0 w w8) := GrowBut.trans HB7.out (below_grow hg8 HSz7.out)
  clear hwh hg8 HD7 HTab7 HK7 HFl7
  go_wp2_with fail
  refine bodyPost_ret (v := .tuple #[.slice none 0 0, .int .i64 0]) (by simp [results, Tryz.results10, go_sem]) rfl ?_
  exact ⟨_, HB8.out, Or.inr ⟨HWh.out, rfl, ⟨HTab8.out, Nat.le_trans HGe.out HB8.out.size⟩, D, X, m, base, n7, HD8.out, HDk.out, HFl8.out, HFm.out⟩⟩
set_option maxHeartbeats 4000000 in
theorem take_none_true {w : World} {T F B0 N b off L cap Z S o Lp : Nat} {zs pl P os : List Int} {tos id ttl proto src dst : Int} {evil df : Bool} {v0 : Value} {kl : Lit}
  (p : PktAt w b off L cap Z S zs ⟨tos, id, evil, df, true, o, ttl, proto, src, dst, v0, os⟩ pl) (hL : L ≤ 2048) (h8 : Lp % 8 = 0) (hlp : pl.length = Lp) (hlp0 : 0 < Lp) (hP : ∀ q, 8 * q < Lp → Blk P (o + q) = (pl.drop (8 * q)).take 8) (hPl : P.length ≤ 2000) (hPb : Bytes P) (hle : 8 * o + Lp ≤ P.length)
  (hk : keyOf Tryz.prog 89 (pieceV src dst proto id) = some kl) (hN : N ≤ 900000) (hst : TabNone w T F B0) :
  Calls Tryz.prog 10 #[.pointer (some ⟨T, 0, none⟩), .slice (some ⟨b, off, none⟩) L cap] w (Took w T F B0 (N + 300) kl P FS.zero ⟨tos, id, evil, df, true, o, ttl, proto, src, dst, v0, os⟩ o Lp) := by
 have HP := Lib.hid p
 have HPP := Lib.hid hP
 have HPb := Lib.hid hPb
 have HK := Lib.hid hk
 have HLp := Lib.hid hlp
 have HRaw : Hid (Raw ⟨tos, id, evil, df, true, o, ttl, proto, src, dst, v0, os⟩) := p.raw
 have HEnd : Hid (true = false → 8 * o + Lp = P.length) := by
  intro h; cases h
 have HNN : Hid (N ≤ 900000 ∧ P.length ≤ 2000 ∧ 8 * o + Lp ≤ P.length) := ⟨hN, hPl, hle⟩
 obtain ⟨ht, hs⟩ := hst
 have HTab := Lib.hid ht.tab
 have HGe := Lib.hid ht.ge
 have HS := Lib.hid hs
 have HPar : Hid (∀ x, Grow w x → Calls Tryz.prog 11 #[.slice (some ⟨b, off, none⟩) L cap] x (Parsed ⟨tos, id, evil, df, true, o, ttl, proto, src, dst, v0, os⟩ pl x)) := fun x hx => parse_any (p.mono hx) (by omega)
 have hlo : IntKind.i64.wrap (8 * (o : Int)) = 8 * (o : Int) := IntWalk.i64_in _ (by omega)
 have hls : IntKind.i64.wrap (8 * (o : Int) + (Lp : Int)) = 8 * (o : Int) + (Lp : Int) := IntWalk.i64_in _ (by omega)
 have hlt : ¬ (65535 < 8 * (o : Int) + (Lp : Int)) := by omega
 have hl0 : ((Lp : Int) == 0) = false := by simp; omega
 have h81 : (Lp : Int).tmod 8 = 0 := by rw [Int.tmod_eq_emod_of_nonneg (by omega)]; omega
 have h82 : (Lp : Int) % 8 = 0 := by omega
 clear p hP hPb hk hlp ht hs hN
 go_enter Tryz.func10, Tryz.ntmps10
 go_wp2_with fail
 with_reducible refine (rthere HTab.out).mono ?_
 rintro e w0 ⟨rfl, hw0⟩
 obtain rfl : w = w0 := hw0.symm
 clear hw0
 go_wp2_with fail
 with_reducible refine (HPar.out _ (Grow.refl _)).mono ?_
 rintro e w1 ⟨v, u, rfl, hok, hu, hg⟩
 obtain ⟨va, vc, hve, _, _⟩ := hok.body.2.shape
 dsimp only at hve
 subst hve
 obtain ⟨ua, uc, hue, _, _⟩ := hu.2.shape
 rw [HLp.out] at hue
 subst hue
 have HOk : Hid (HdOk w1 ⟨tos, id, evil, df, true, o, ttl, proto, src, dst, .slice va os.length vc, os⟩) := hok
 have HU := Lib.hid hu
 have HG1 := Lib.hid hg
 unfold Hd.val Hd.cells hdCells
 dsimp only
 clear hok hu hg HPar
 go_wp2_with fail
 obtain ⟨w2, hw2⟩ : ∃ x, w1.alloc (.cells #[.int .u8 tos, .int .u16 id, .bool evil, .bool df, .bool true, .int .i64 o, .int .u8 ttl, .int .u8 proto, .int .u32 src, .int .u32 dst, .slice va os.length vc] 27) = x := ⟨_, rfl⟩
 have hN2 := heap_alloc_new w1 (.cells #[.int .u8 tos, .int .u16 id, .bool evil, .bool df, .bool true, .int .i64 o, .int .u8 ttl, .int .u8 proto, .int .u32 src, .int .u32 dst, .slice va os.length vc] 27)
 have hg2 : Grow w1 (w1.alloc (.cells #[.int .u8 tos, .int .u16 id, .bool evil, .bool df, .bool true, .int .i64 o, .int .u8 ttl, .int .u8 proto, .int .u32 src, .int .u32 dst, .slice va os.length vc] 27)) := (Grow.refl w1).alloc _
 rw [hw2] at hN2 hg2 ⊢
 obtain ⟨Hb, hHb⟩ : ∃ x, w1.heap.size = x := ⟨_, rfl⟩
 have HHb : Hid (w.heap.size ≤ Hb) := by have := HG1.out.size; show _ ≤ _; omega
 rw [hHb] at hN2 ⊢
 have HN2 := Lib.hid hN2
 have HOk2 := Lib.hid (HOk.out.mono hg2)
 have HU2 := Lib.hid (HU.out.mono hg2)
 have HG2 := Lib.hid (HG1.out.trans hg2)
 have HFr : Hid (∀ x, Grow w2 x → Calls Tryz.prog 26 #[.agg #[.int .u8 tos, .int .u16 id, .bool evil, .bool df, .bool true, .int .i64 o, .int .u8 ttl, .int .u8 proto, .int .u32 src, .int .u32 dst, .slice va os.length vc]] x fun e w' => e = .returned (.bool true) ∧ Grow x w') := fun x hx => by
  have h := fragment_hdr ⟨tos, id, evil, df, true, o, ttl, proto, src, dst, .slice va os.length vc, os⟩ x (HOk2.out.mono hx)
  have e : isPiece ⟨tos, id, evil, df, true, o, ttl, proto, src, dst, .slice va os.length vc, os⟩ = true := by rfl
  rw [e] at h
  exact h
 have HKy : Hid (∀ x, Grow w2 x → Calls Tryz.prog 29 #[.agg #[.int .u8 tos, .int .u16 id, .bool evil, .bool df, .bool true, .int .i64 o, .int .u8 ttl, .int .u8 proto, .int .u32 src, .int .u32 dst, .slice va os.length vc]] x fun e w' => e = .returned (pieceV src dst proto id) ∧ Grow x w') := fun x hx => key_any ⟨tos, id, evil, df, true, o, ttl, proto, src, dst, .slice va os.length vc, os⟩ x (HOk2.out.mono hx)
 clear hN2 hg2 hw2 hHb HOk HU HG1
 obtain ⟨⟨d0, d1, d2, d3, d4, d5⟩, d6, d7, d8, d9, d10⟩ := blkH HN2.out
 go_wp2_with fail
 with_reducible refine (HFr.out _ (Grow.refl _)).mono ?_
 rintro e w3 ⟨rfl, hg⟩
 have HG3 := Lib.hid hg
 have HN3 := Lib.hid ((hg.block _ (lt_of_block HN2.out)).trans HN2.out)
 clear hg HFr d0 d1 d2 d3 d4 d5 d6 d7 d8 d9 d10
 obtain ⟨⟨d0, d1, d2, d3, d4, d5⟩, d6, d7, d8, d9, d10⟩ := blkH HN3.out
 go_wp2_with fail
 with_reducible refine (HKy.out _ HG3.out).mono ?_
 rintro e w4 ⟨rfl, hg⟩
 unfold pieceV
 have HG4 := Lib.hid (HG3.out.trans hg)
 clear hg HKy d0 d1 d2 d3 d4 d5 d6 d7 d8 d9 d10
 go_wp2_with fail
 obtain ⟨w5, hw5⟩ : ∃ x, w4.alloc (.cells #[.int .u32 src, .int .u32 dst, .int .u8 proto, .int .u16 id] 89) = x := ⟨_, rfl⟩
 have hN5 := heap_alloc_new w4 (.cells #[.int .u32 src, .int .u32 dst, .int .u8 proto, .int .u16 id] 89)
 have hg5 : Grow w4 (w4.alloc (.cells #[.int .u32 src, .int .u32 dst, .int .u8 proto, .int .u16 id] 89)) := (Grow.refl w4).alloc _
 rw [hw5] at hN5 hg5 ⊢
 obtain ⟨Kb, hKb⟩ : ∃ x, w4.heap.size = x := ⟨_, rfl⟩
 have HKb : Hid (w.heap.size ≤ Kb) := by have h1 := HG4.out.size; have h2 := HG2.out.size; show _ ≤ _; omega
 rw [hKb] at hN5 ⊢
 have HK5 := Lib.hid hN5
 have HG25 : Hid (Grow w2 w5) := HG4.out.trans hg5
 have HG5 : Hid (Grow w w5) := HG2.out.trans HG25.out
 have HN5 := Lib.hid ((HG25.out.block _ (lt_of_block HN2.out)).trans HN2.out)
 have HTab5 : Hid (TabAt w5 T F) := (HG5.out.block _ (lt_of_block HTab.out)).trans HTab.out
 have HOk5 := Lib.hid (HOk2.out.mono HG25.out)
 have HU5 := Lib.hid (HU2.out.mono HG25.out)
 clear hN5 hg5 hw5 hKb HG4 HG3 HN3 HN2 HOk2 HU2 HTab
 have HLk : Hid (∀ x, Grow w5 x → (Instr.lookup 83 (.map (some F)) (.agg #[.int .u32 src, .int .u32 dst, .int .u8 proto, .int .u16 id]) false).run Tryz.prog x = .ok (.pointer none) x) := fun x hx => look_flow (owns_mono HS.out (HG5.out.trans hx)) HK.out rfl
 refine wpRg 7 ?_
 simp only [List.take_succ_cons, List.take_zero, List.drop_succ_cons, List.drop_zero]
 repeat (refine wpHp fun K hK => ?_; go_simp; refine hK _ ?_; clear hK K)
 refine wpHd (.map (some F)) (fun w' hg => ?_) ?_
 ·have q0 := cell_of_one ((hg.below.block _ (lt_of_block HTab5.out)).trans HTab5.out)
  clear hg
  go_simp
  exact Below.refl _ _
 try go_simp
 repeat (refine wpHp fun K hK => ?_; go_simp; refine hK _ ?_; clear hK K)
 refine wpHd (.agg #[.int .u32 src, .int .u32 dst, .int .u8 proto, .int .u16 id]) (fun w' hg => ?_) ?_
 ·obtain ⟨⟨q0, q1, q2, q3⟩, _⟩ := blk4 ((hg.below.block _ (lt_of_block HK5.out)).trans HK5.out)
  clear hg
  go_simp
  exact Below.refl _ _
 try go_simp
 refine wpHd (.pointer none) (fun w' hg => ?_) ?_
 ·have q0 := HLk.out w' hg.below
  clear hg
  go_simp
  exact Below.refl _ _
 try go_simp
 repeat (refine wpHp fun K hK => ?_; go_simp; refine hK _ ?_; clear hK K)
 refine wpH_nil ?_
 intro xs w6 hg hx1 hx2
 have HG6 := Lib.hid (HG5.out.trans hg.below)
 have HN6 := Lib.hid ((hg.below.block _ (lt_of_block HN5.out)).trans HN5.out)
 have HK6 := Lib.hid ((hg.below.block _ (lt_of_block HK5.out)).trans HK5.out)
 have HTab6 : Hid (TabAt w6 T F) := (hg.below.block _ (lt_of_block HTab5.out)).trans HTab5.out
 have HOk6 := Lib.hid (HOk5.out.mono hg.below)
 have HU6 := Lib.hid (HU5.out.mono hg.below)
 have HE6 := Lib.hid (owns_mono HS.out HG6.out)
 clear hg hx1 hx2 HG5 HN5 HK5 HTab5 HOk5 HU5 HLk HG25
 simp only [fill]
 try go_simp
 have q0 := cell_of_one (show w6.heap[T]? = _ from HTab6.out)
 have hlen := fun ty => HE6.out.len Tryz.underlying83 ty
 have hmm := @run_makeMap Tryz.prog
 have hmz : Maps.size (DataW.map (H := Value) []) = 0 := rfl
 rw [hmz] at hlen
 go_wp2_with fail
 clear q0 hlen hmm hmz
 have hs1 : (w6.alloc (.map #[] 0)).heap.size = w6.heap.size + 1 := World.size_alloc _ _
 have hX0 := heap_alloc_new (w6.alloc (.map #[] 0)) (.cells #[.map (some w6.heap.size), .int .u8 0, .int .u16 0, .bool false, .bool false, .bool false, .int .i64 0, .int .u8 0, .int .u8 0, .int .u32 0, .int .u32 0, .slice none 0 0, .bool false, .int .i64 (-1)] 94)
 rw [hs1] at hX0
 have hA0 : AtMap ((w6.alloc (.map #[] 0)).alloc (.cells #[.map (some w6.heap.size), .int .u8 0, .int .u16 0, .bool false, .bool false, .bool false, .int .i64 0, .int .u8 0, .int .u8 0, .int .u32 0, .int .u32 0, .slice none 0 0, .bool false, .int .i64 (-1)] 94)) w6.heap.size 0 (w6.heap.size + 2) P (fun _ => false) := (AtMap.made w6 _ P).mono ((Grow.refl _).alloc _)
 have hgA : Grow w6 ((w6.alloc (.map #[] 0)).alloc (.cells #[.map (some w6.heap.size), .int .u8 0, .int .u16 0, .bool false, .bool false, .bool false, .int .i64 0, .int .u8 0, .int .u8 0, .int .u32 0, .int .u32 0, .slice none 0 0, .bool false, .int .i64 (-1)] 94)) := ((Grow.refl w6).alloc _).alloc _
 have hsA : ((w6.alloc (.map #[] 0)).alloc (.cells #[.map (some w6.heap.size), .int .u8 0, .int .u16 0, .bool false, .bool false, .bool false, .int .i64 0, .int .u8 0, .int .u8 0, .int .u32 0, .int .u32 0, .slice none 0 0, .bool false, .int .i64 (-1)] 94)).heap.size = w6.heap.size + 1 + 1 := by rw [World.size_alloc, hs1]
 obtain ⟨wA, hwA⟩ : ∃ x, ((w6.alloc (.map #[] 0)).alloc (.cells #[.map (some w6.heap.size), .int .u8 0, .int .u16 0, .bool false, .bool false, .bool false, .int .i64 0, .int .u8 0, .int .u8 0, .int .u32 0, .int .u32 0, .slice none 0 0, .bool false, .int .i64 (-1)] 94)) = x := ⟨_, rfl⟩
 rw [hwA] at hX0 hA0 hgA hsA ⊢
 have hFlt : F < w6.heap.size := HE6.out.lt
 obtain ⟨m, hmE⟩ : ∃ x, w6.heap.size = x := ⟨_, rfl⟩
 have HmE : Hid (B0 ≤ m) := by have h1 := HG6.out.size; have h2 := HGe.out; show _ ≤ _; omega
 rw [hmE] at hX0 hA0 hsA hFlt ⊢
 obtain ⟨X, hXE⟩ : ∃ x, m + 1 = x := ⟨_, rfl⟩
 rw [hXE] at hX0 hsA ⊢
 have HXE := Lib.hid hXE
 have HmF : Hid (F < m) := hFlt
 have HsA := Lib.hid hsA
 have HXA := Lib.hid hX0
 have HAA := Lib.hid hA0
 have HEA := Lib.hid (owns_mono HE6.out hgA)
 have HGA := Lib.hid (HG6.out.trans hgA)
 have HNA := Lib.hid ((hgA.block _ (lt_of_block HN6.out)).trans HN6.out)
 have HKA := Lib.hid ((hgA.block _ (lt_of_block HK6.out)).trans HK6.out)
 have HTabA : Hid (TabAt wA T F) := (hgA.block _ (lt_of_block (show w6.heap[T]? = _ from HTab6.out))).trans HTab6.out
 have HOkA := Lib.hid (HOk6.out.mono hgA)
 have HUA := Lib.hid (HU6.out.mono hgA)
 clear hs1 hX0 hA0 hgA hsA hwA hmE hXE hFlt HE6 HG6 HN6 HK6 HTab6 HOk6 HU6
 refine wpRg 6 ?_
 simp only [List.take_succ_cons, List.take_zero, List.drop_succ_cons, List.drop_zero]
 repeat (refine wpHp fun K hK => ?_; go_simp; refine hK _ ?_; clear hK K)
 refine wpHd (.map (some F)) (fun w' hg => ?_) ?_
 ·have q0 := cell_of_one ((hg.below.block _ (lt_of_block HTabA.out)).trans HTabA.out)
  clear hg
  go_simp
  exact Below.refl _ _
 try go_simp
 repeat (refine wpHp fun K hK => ?_; go_simp; refine hK _ ?_; clear hK K)
 refine wpHd (.agg #[.int .u32 src, .int .u32 dst, .int .u8 proto, .int .u16 id]) (fun w' hg => ?_) ?_
 ·obtain ⟨⟨q0, q1, q2, q3⟩, _⟩ := blk4 ((hg.below.block _ (lt_of_block HKA.out)).trans HKA.out)
  clear hg
  go_simp
  exact Below.refl _ _
 try go_simp
 repeat (refine wpHp fun K hK => ?_; go_simp; refine hK _ ?_; clear hK K)
 refine wpH_nil ?_
 intro xs wC hg hx1 hx2
 have HEC := Lib.hid (owns_mono HEA.out hg.below)
 have HGC := Lib.hid hg.below
 clear hg hx1 hx2
 simp only [fill]
 try go_simp
 refine wpList_mapUpdate_own _ rfl (.tmp 83) (.tmp 84) (.tmp 85) 83 rfl 89 91 pieceKeyed Tryz.underlying83 anyElem F 0 (.map []) rfl HEC.out (by unfold maxLen; omega) (pieceV src dst proto id) (.pointer (some ⟨X, 0, none⟩)) kl rfl rfl HK.out (.held (.pointer (some ⟨X, 0, none⟩))) [] rfl ?_
 intro w6 hDB hgB
 have hFd : GrowBut (fun j => j = F) wC w6 := ⟨hgB.os, hgB.tape, hgB.output, hgB.size, fun k hk hn => hgB.block k hk (fun e => hn (by injection e))⟩
 have hM : GrowBut (fun j => j = F) wA w6 := (GrowBut.of_below HGC.out).trans hFd
 obtain ⟨D, hDE⟩ : ∃ x, (DataW.map (H := Value) []).put kl (.held (.pointer (some ⟨X, 0, none⟩))) = x := ⟨_, rfl⟩
 have HDk : Hid (∀ z, D.atKey kl z = .held (.pointer (some ⟨X, 0, none⟩))) := fun z => by rw [← hDE]; exact Maps.atKey_put_same ⟨_, rfl⟩ (pieceKeyed.key HK.out) _ _
 rw [hDE] at hDB
 have HD6 := Lib.hid hDB
 have hne : ∀ (B : Nat) (cs : Array Value) (TT : TypeId), wA.heap[B]? = some (.cells cs TT (0, 0)) → B ≠ F := fun B cs TT h e => by
  obtain ⟨es, clock, hb, _⟩ := HEA.out
  rw [e, hb] at h
  simp at h
 have HN6 := Lib.hid ((hM.block _ (lt_of_block HNA.out) (hne _ _ _ HNA.out)).trans HNA.out)
 have HK6 := Lib.hid ((hM.block _ (lt_of_block HKA.out) (hne _ _ _ HKA.out)).trans HKA.out)
 have HTab6 : Hid (TabAt w6 T F) := (hM.block _ (lt_of_block (show wA.heap[T]? = _ from HTabA.out)) (hne _ _ _ HTabA.out)).trans HTabA.out
 have HU6 := Lib.hid (map_bytes HEA.out HUA.out hM)
 have HOk6 : Hid (HdOk w6 ⟨tos, id, evil, df, true, o, ttl, proto, src, dst, .slice va os.length vc, os⟩) := ⟨HOkA.out.tos, HOkA.out.id, HOkA.out.off, HOkA.out.ttl, HOkA.out.proto, HOkA.out.src, HOkA.out.dst, map_bytes HEA.out HOkA.out.body hM⟩
 have HFm : Hid (F ≠ m) := by have := HmF.out; show _ ≠ _; omega
 have HB6 : Hid (BelowF F B0 w w6) := GrowBut.trans (below_grow HGA.out HGe.out) (below_but hM (Nat.le_trans HGe.out HGA.out.size) (fun k e => Or.inl e))
 obtain ⟨base, hbaseE⟩ : ∃ x, m + 2 = x := ⟨_, rfl⟩
 have HFl6 : Hid (FlowSt w6 B0 N X m base 0 P FS.zero) := by
  have h1 := HXE.out; have h2 := HmE.out; have h3 := HsA.out; have h4 := HmF.out; have h5 := hM.size
  refine ⟨(hM.block _ (lt_of_block HXA.out) (by show X ≠ F; omega)).trans HXA.out, ?_, Nat.zero_le _, ⟨by omega, by omega, by omega⟩, ⟨by omega, by omega⟩, fun e => (by cases e), Or.inl rfl, ⟨none, 0, 0, rfl⟩⟩
  rw [← hbaseE]
  exact HAA.out.but hM (by show m ≠ F; omega) (fun k e => by have e : k = F := e; omega)
 clear hDB hgB hFd hM hDE hne hbaseE HEC HGC HXE HmE HsA HXA HAA HEA HGA HNA HKA HTabA HUA HOkA
 obtain ⟨⟨d0, d1, d2, d3, d4, d5⟩, d6, d7, d8, d9, d10⟩ := blkH HN6.out
 have HLay := Lib.hid (lay_st HFl6.out (h := ⟨tos, id, evil, df, true, o, ttl, proto, src, dst, .slice va os.length vc, os⟩) (u := .slice ua Lp uc) (pl := pl) (o := o) (L := Lp) HNN.out.1 HOk6.out (by have := HRaw.out.may; exact this) rfl (by have := HNN.out; omega) HU6.out HLp.out hlp0 (by have := HNN.out; omega) HPP.out (fun e => HEnd.out (by first | exact trivial | exact e)))
 go_wp2_with fail
 unfold Hd.val Hd.cells hdCells at HLay
 dsimp only at HLay
 with_reducible refine HLay.out.mono ?_
 rintro e w7 ⟨⟨uu, rfl⟩, ⟨n7, hf7⟩, hg7⟩
 have HFl7 := Lib.hid hf7
 have HGx7 := Lib.hid hg7
 have hF1 : F ≠ X := fun e => by
  obtain ⟨es, clock, hb, _⟩ := HD6.out
  have h := HFl6.out.flow
  unfold FlowAt at h
  rw [← e, hb] at h
  simp at h
 have hT1 : T ≠ m := fun e => by
  obtain ⟨DD, ⟨es, clock, hb, _⟩, _⟩ := HFl6.out.map
  have h : w6.heap[T]? = _ := HTab6.out
  rw [e, hb] at h
  simp at h
 have hT2 : T ≠ X := fun e => by
  have h := HFl6.out.flow
  unfold FlowAt at h
  have h2 : w6.heap[T]? = _ := HTab6.out
  rw [e, h] at h2
  simp at h2
 have hK1 : Kb ≠ m ∧ Kb ≠ X := by
  refine ⟨fun e => ?_, fun e => ?_⟩
  ·obtain ⟨DD, ⟨es, clock, hb, _⟩, _⟩ := HFl6.out.map
   have h := HK6.out
   rw [e, hb] at h
   simp at h
  ·have h := HFl6.out.flow
   unfold FlowAt at h
   have h2 := HK6.out
   rw [e, h] at h2
   simp at h2
 have HD7 : Hid (w7.ownsMap (H := Value) Tryz.prog 89 anyElem F 1 D) := owns_but HD6.out hg7 (fun e => by rcases e with e | e; exact HFm.out e; exact hF1 e)
 have HTab7 : Hid (TabAt w7 T F) := (hg7.block _ (lt_of_block (show w6.heap[T]? = _ from HTab6.out)) (fun e => by rcases e with e | e; exact hT1 e; exact hT2 e)).trans HTab6.out
 have HK7 := Lib.hid ((hg7.block _ (lt_of_block HK6.out) (fun e => by rcases e with e | e; exact hK1.1 e; exact hK1.2 e)).trans HK6.out)
 have HB7 : Hid (BelowF F B0 w w7) := GrowBut.trans (HB6.out) (below_but hg7 (Nat.le_trans HGe.out HB6.out.size) (fun k e => by rcases e with e | e; exact Or.inr (e ▸ HFl6.out.ge.2); exact Or.inr (e ▸ HFl6.out.ge.1)))
 have HSz7 : Hid (B0 ≤ w7.heap.size) := Nat.le_trans HGe.out HB7.out.size
 clear hf7 hg7 hF1 hT1 hT2 hK1 d0 d1 d2 d3 d4 d5 d6 d7 d8 d9 d10 HLay
 go_wp2_with fail
 with_reducible refine (whole_st HFl7.out (by have := HNN.out; omega) (by have := HNN.out; omega) HPb.out).mono ?_
 rintro e w8 (⟨hwh, v8, rfl, hn8, hg8⟩ | ⟨hwh, rfl, hg8⟩)
 ·have HWh := Lib.hid hwh
  have HNb8 := Lib.hid hn8
  have HD8 := Lib.hid (owns_mono HD7.out hg8)
  have HTab8 : Hid (TabAt w8 T F) := (hg8.block _ (lt_of_block (show w7.heap[T]? = _ from HTab7.out))).trans HTab7.out
  have HK8 := Lib.hid ((hg8.block _ (lt_of_block HK7.out)).trans HK7.out)
  have HB8 : Hid (BelowF F B0 w w8) := GrowBut.trans HB7.out (below_grow hg8 HSz7.out)
  have HHd := Lib.hid (And.intro ((HFl7.out.head hwh.1).1.mono hg8) (HFl7.out.head hwh.1).2)
  clear hwh hn8 hg8 HD7 HTab7 HK7 HFl7
  go_wp2_with fail
  refine wpRg 5 ?_
  simp only [List.take_succ_cons, List.take_zero, List.drop_succ_cons, List.drop_zero]
  repeat (refine wpHp fun K hK => ?_; go_simp; refine hK _ ?_; clear hK K)
  refine wpHd (.map (some F)) (fun w' hg => ?_) ?_
  ·have q0 := cell_of_one ((hg.below.block _ (lt_of_block (show w8.heap[T]? = _ from HTab8.out))).trans HTab8.out)
   clear hg
   go_simp
   exact Below.refl _ _
  try go_simp
  repeat (refine wpHp fun K hK => ?_; go_simp; refine hK _ ?_; clear hK K)
  refine wpHd (.agg #[.int .u32 src, .int .u32 dst, .int .u8 proto, .int .u16 id]) (fun w' hg => ?_) ?_
  ·obtain ⟨⟨q0, q1, q2, q3⟩, _⟩ := blk4 ((hg.below.block _ (lt_of_block HK8.out)).trans HK8.out)
   clear hg
   go_simp
   exact Below.refl _ _
  try go_simp
  refine wpH_nil ?_
  intro xs w9 hg hx1 hx2
  have HB9 : Hid (BelowF F B0 w w9) := GrowBut.trans HB8.out (below_grow hg.below (Nat.le_trans HGe.out HB8.out.size))
  have HD9 := Lib.hid (owns_mono HD8.out hg.below)
  have HHd9 : Hid (HdOk w9 _ ∧ _) := ⟨HHd.out.1.mono hg.below, HHd.out.2⟩
  have HNb9 : Hid (BytesV w9 v8 (pkt { (FS.zero.lay ⟨tos, id, evil, df, true, o, ttl, proto, src, dst, .slice va os.length vc, os⟩ o Lp).H with mf := false } P)) := ⟨pkt_bytes (raw_whole HHd9.out.1 HHd9.out.2) HPb.out, (ints_of_owns HNb8.out).mono hg.below⟩
  clear hg hx1 hx2
  simp only [fill]
  try go_simp
  obtain ⟨wz, hdel, hDz, hturn⟩ := HD9.out.drop pieceKeyed Tryz.underlying83 HK.out 0
  have HFin : Hid (BelowF F B0 w wz ∧ BytesV wz v8 (pkt { (FS.zero.lay ⟨tos, id, evil, df, true, o, ttl, proto, src, dst, .slice va os.length vc, os⟩ o Lp).H with mf := false } P)) := by
   have hgz := hturn.grown
   have hgb : GrowBut (fun j => j = F) w9 wz := ⟨hgz.os, hgz.tape, hgz.output, hgz.size, fun k hk hn => hgz.block k hk (fun e => hn (by injection e))⟩
   exact ⟨GrowBut.trans HB9.out (below_but hgb (Nat.le_trans HGe.out HB9.out.size) (fun k e => Or.inl e)), map_bytes HD9.out HNb9.out hgb⟩
  unfold pieceV at hdel
  clear hDz hturn
  obtain ⟨x8, k8, c8, e8⟩ : ∃ a n c, v8 = .slice a n c := by obtain ⟨a, c, e, _, _⟩ := HNb9.out.2.shape; exact ⟨_, _, _, e⟩
  subst e8
  go_wp2_with fail
  refine bodyPost_ret (v := .tuple #[.slice x8 k8 c8, .int .i64 0]) (by simp [results, Tryz.results10, go_sem]) rfl ?_
  exact ⟨_, HFin.out.1, Or.inl ⟨HWh.out, _, rfl, HFin.out.2⟩⟩
 ·have HWh := Lib.hid hwh
  have HD8 := Lib.hid (owns_mono HD7.out hg8)
  have HTab8 : Hid (TabAt w8 T F) := (hg8.block _ (lt_of_block (show w7.heap[T]? = _ from HTab7.out))).trans HTab7.out
  have HFl8 := Lib.hid (HFl7.out.mono hg8)
  have HB8 : Hid (BelowF F B0 w w8) := GrowBut.trans HB7.out (below_grow hg8 HSz7.out)
  clear hwh hg8 HD7 HTab7 HK7 HFl7
  go_wp2_with fail
  refine bodyPost_ret (v := .tuple #[.slice none 0 0, .int .i64 0]) (by simp [results, Tryz.results10, go_sem]) rfl ?_
  exact ⟨_, HB8.out, Or.inr ⟨HWh.out, rfl, ⟨HTab8.out, Nat.le_trans HGe.out HB8.out.size⟩, D, X, m, base, n7, HD8.out, HDk.out, HFl8.out, HFm.out⟩⟩
set_option maxHeartbeats 4000000 in
theorem take_none_false {w : World} {T F B0 N b off L cap Z S o Lp : Nat} {zs pl P os : List Int} {tos id ttl proto src dst : Int} {evil df : Bool} {v0 : Value} {kl : Lit}
  (p : PktAt w b off L cap Z S zs ⟨tos, id, evil, df, false, o, ttl, proto, src, dst, v0, os⟩ pl) (hL : L ≤ 2048) (ho0 : 0 < o) (hend : 8 * o + Lp = P.length) (hlp : pl.length = Lp) (hlp0 : 0 < Lp) (hP : ∀ q, 8 * q < Lp → Blk P (o + q) = (pl.drop (8 * q)).take 8) (hPl : P.length ≤ 2000) (hPb : Bytes P) (hle : 8 * o + Lp ≤ P.length)
  (hk : keyOf Tryz.prog 89 (pieceV src dst proto id) = some kl) (hN : N ≤ 900000) (hst : TabNone w T F B0) :
  Calls Tryz.prog 10 #[.pointer (some ⟨T, 0, none⟩), .slice (some ⟨b, off, none⟩) L cap] w (Took w T F B0 (N + 300) kl P FS.zero ⟨tos, id, evil, df, false, o, ttl, proto, src, dst, v0, os⟩ o Lp) := by
 have HP := Lib.hid p
 have HPP := Lib.hid hP
 have HPb := Lib.hid hPb
 have HK := Lib.hid hk
 have HLp := Lib.hid hlp
 have HRaw : Hid (Raw ⟨tos, id, evil, df, false, o, ttl, proto, src, dst, v0, os⟩) := p.raw
 have HEnd : Hid (false = false → 8 * o + Lp = P.length) := by
  intro _; exact hend
 have HNN : Hid (N ≤ 900000 ∧ P.length ≤ 2000 ∧ 8 * o + Lp ≤ P.length) := ⟨hN, hPl, hle⟩
 obtain ⟨ht, hs⟩ := hst
 have HTab := Lib.hid ht.tab
 have HGe := Lib.hid ht.ge
 have HS := Lib.hid hs
 have HPar : Hid (∀ x, Grow w x → Calls Tryz.prog 11 #[.slice (some ⟨b, off, none⟩) L cap] x (Parsed ⟨tos, id, evil, df, false, o, ttl, proto, src, dst, v0, os⟩ pl x)) := fun x hx => parse_any (p.mono hx) (by omega)
 have hlo : IntKind.i64.wrap (8 * (o : Int)) = 8 * (o : Int) := IntWalk.i64_in _ (by omega)
 have hls : IntKind.i64.wrap (8 * (o : Int) + (Lp : Int)) = 8 * (o : Int) + (Lp : Int) := IntWalk.i64_in _ (by omega)
 have hlt : ¬ (65535 < 8 * (o : Int) + (Lp : Int)) := by omega
 have hl0 : ((Lp : Int) == 0) = false := by simp; omega
 skip
 clear p hP hPb hk hlp ht hs hN
 go_enter Tryz.func10, Tryz.ntmps10
 go_wp2_with fail
 with_reducible refine (rthere HTab.out).mono ?_
 rintro e w0 ⟨rfl, hw0⟩
 obtain rfl : w = w0 := hw0.symm
 clear hw0
 go_wp2_with fail
 with_reducible refine (HPar.out _ (Grow.refl _)).mono ?_
 rintro e w1 ⟨v, u, rfl, hok, hu, hg⟩
 obtain ⟨va, vc, hve, _, _⟩ := hok.body.2.shape
 dsimp only at hve
 subst hve
 obtain ⟨ua, uc, hue, _, _⟩ := hu.2.shape
 rw [HLp.out] at hue
 subst hue
 have HOk : Hid (HdOk w1 ⟨tos, id, evil, df, false, o, ttl, proto, src, dst, .slice va os.length vc, os⟩) := hok
 have HU := Lib.hid hu
 have HG1 := Lib.hid hg
 unfold Hd.val Hd.cells hdCells
 dsimp only
 clear hok hu hg HPar
 go_wp2_with fail
 obtain ⟨w2, hw2⟩ : ∃ x, w1.alloc (.cells #[.int .u8 tos, .int .u16 id, .bool evil, .bool df, .bool false, .int .i64 o, .int .u8 ttl, .int .u8 proto, .int .u32 src, .int .u32 dst, .slice va os.length vc] 27) = x := ⟨_, rfl⟩
 have hN2 := heap_alloc_new w1 (.cells #[.int .u8 tos, .int .u16 id, .bool evil, .bool df, .bool false, .int .i64 o, .int .u8 ttl, .int .u8 proto, .int .u32 src, .int .u32 dst, .slice va os.length vc] 27)
 have hg2 : Grow w1 (w1.alloc (.cells #[.int .u8 tos, .int .u16 id, .bool evil, .bool df, .bool false, .int .i64 o, .int .u8 ttl, .int .u8 proto, .int .u32 src, .int .u32 dst, .slice va os.length vc] 27)) := (Grow.refl w1).alloc _
 rw [hw2] at hN2 hg2 ⊢
 obtain ⟨Hb, hHb⟩ : ∃ x, w1.heap.size = x := ⟨_, rfl⟩
 have HHb : Hid (w.heap.size ≤ Hb) := by have := HG1.out.size; show _ ≤ _; omega
 rw [hHb] at hN2 ⊢
 have HN2 := Lib.hid hN2
 have HOk2 := Lib.hid (HOk.out.mono hg2)
 have HU2 := Lib.hid (HU.out.mono hg2)
 have HG2 := Lib.hid (HG1.out.trans hg2)
 have HFr : Hid (∀ x, Grow w2 x → Calls Tryz.prog 26 #[.agg #[.int .u8 tos, .int .u16 id, .bool evil, .bool df, .bool false, .int .i64 o, .int .u8 ttl, .int .u8 proto, .int .u32 src, .int .u32 dst, .slice va os.length vc]] x fun e w' => e = .returned (.bool true) ∧ Grow x w') := fun x hx => by
  have h := fragment_hdr ⟨tos, id, evil, df, false, o, ttl, proto, src, dst, .slice va os.length vc, os⟩ x (HOk2.out.mono hx)
  have e : isPiece ⟨tos, id, evil, df, false, o, ttl, proto, src, dst, .slice va os.length vc, os⟩ = true := by unfold isPiece; dsimp only; simp; omega
  rw [e] at h
  exact h
 have HKy : Hid (∀ x, Grow w2 x → Calls Tryz.prog 29 #[.agg #[.int .u8 tos, .int .u16 id, .bool evil, .bool df, .bool false, .int .i64 o, .int .u8 ttl, .int .u8 proto, .int .u32 src, .int .u32 dst, .slice va os.length vc]] x fun e w' => e = .returned (pieceV src dst proto id) ∧ Grow x w') := fun x hx => key_any ⟨tos, id, evil, df, false, o, ttl, proto, src, dst, .slice va os.length vc, os⟩ x (HOk2.out.mono hx)
 clear hN2 hg2 hw2 hHb HOk HU HG1
 obtain ⟨⟨d0, d1, d2, d3, d4, d5⟩, d6, d7, d8, d9, d10⟩ := blkH HN2.out
 go_wp2_with fail
 with_reducible refine (HFr.out _ (Grow.refl _)).mono ?_
 rintro e w3 ⟨rfl, hg⟩
 have HG3 := Lib.hid hg
 have HN3 := Lib.hid ((hg.block _ (lt_of_block HN2.out)).trans HN2.out)
 clear hg HFr d0 d1 d2 d3 d4 d5 d6 d7 d8 d9 d10
 obtain ⟨⟨d0, d1, d2, d3, d4, d5⟩, d6, d7, d8, d9, d10⟩ := blkH HN3.out
 go_wp2_with fail
 with_reducible refine (HKy.out _ HG3.out).mono ?_
 rintro e w4 ⟨rfl, hg⟩
 unfold pieceV
 have HG4 := Lib.hid (HG3.out.trans hg)
 clear hg HKy d0 d1 d2 d3 d4 d5 d6 d7 d8 d9 d10
 go_wp2_with fail
 obtain ⟨w5, hw5⟩ : ∃ x, w4.alloc (.cells #[.int .u32 src, .int .u32 dst, .int .u8 proto, .int .u16 id] 89) = x := ⟨_, rfl⟩
 have hN5 := heap_alloc_new w4 (.cells #[.int .u32 src, .int .u32 dst, .int .u8 proto, .int .u16 id] 89)
 have hg5 : Grow w4 (w4.alloc (.cells #[.int .u32 src, .int .u32 dst, .int .u8 proto, .int .u16 id] 89)) := (Grow.refl w4).alloc _
 rw [hw5] at hN5 hg5 ⊢
 obtain ⟨Kb, hKb⟩ : ∃ x, w4.heap.size = x := ⟨_, rfl⟩
 have HKb : Hid (w.heap.size ≤ Kb) := by have h1 := HG4.out.size; have h2 := HG2.out.size; show _ ≤ _; omega
 rw [hKb] at hN5 ⊢
 have HK5 := Lib.hid hN5
 have HG25 : Hid (Grow w2 w5) := HG4.out.trans hg5
 have HG5 : Hid (Grow w w5) := HG2.out.trans HG25.out
 have HN5 := Lib.hid ((HG25.out.block _ (lt_of_block HN2.out)).trans HN2.out)
 have HTab5 : Hid (TabAt w5 T F) := (HG5.out.block _ (lt_of_block HTab.out)).trans HTab.out
 have HOk5 := Lib.hid (HOk2.out.mono HG25.out)
 have HU5 := Lib.hid (HU2.out.mono HG25.out)
 clear hN5 hg5 hw5 hKb HG4 HG3 HN3 HN2 HOk2 HU2 HTab
 have HLk : Hid (∀ x, Grow w5 x → (Instr.lookup 83 (.map (some F)) (.agg #[.int .u32 src, .int .u32 dst, .int .u8 proto, .int .u16 id]) false).run Tryz.prog x = .ok (.pointer none) x) := fun x hx => look_flow (owns_mono HS.out (HG5.out.trans hx)) HK.out rfl
 refine wpRg 7 ?_
 simp only [List.take_succ_cons, List.take_zero, List.drop_succ_cons, List.drop_zero]
 repeat (refine wpHp fun K hK => ?_; go_simp; refine hK _ ?_; clear hK K)
 refine wpHd (.map (some F)) (fun w' hg => ?_) ?_
 ·have q0 := cell_of_one ((hg.below.block _ (lt_of_block HTab5.out)).trans HTab5.out)
  clear hg
  go_simp
  exact Below.refl _ _
 try go_simp
 repeat (refine wpHp fun K hK => ?_; go_simp; refine hK _ ?_; clear hK K)
 refine wpHd (.agg #[.int .u32 src, .int .u32 dst, .int .u8 proto, .int .u16 id]) (fun w' hg => ?_) ?_
 ·obtain ⟨⟨q0, q1, q2, q3⟩, _⟩ := blk4 ((hg.below.block _ (lt_of_block HK5.out)).trans HK5.out)
  clear hg
  go_simp
  exact Below.refl _ _
 try go_simp
 refine wpHd (.pointer none) (fun w' hg => ?_) ?_
 ·have q0 := HLk.out w' hg.below
  clear hg
  go_simp
  exact Below.refl _ _
 try go_simp
 repeat (refine wpHp fun K hK => ?_; go_simp; refine hK _ ?_; clear hK K)
 refine wpH_nil ?_
 intro xs w6 hg hx1 hx2
 have HG6 := Lib.hid (HG5.out.trans hg.below)
 have HN6 := Lib.hid ((hg.below.block _ (lt_of_block HN5.out)).trans HN5.out)
 have HK6 := Lib.hid ((hg.below.block _ (lt_of_block HK5.out)).trans HK5.out)
 have HTab6 : Hid (TabAt w6 T F) := (hg.below.block _ (lt_of_block HTab5.out)).trans HTab5.out
 have HOk6 := Lib.hid (HOk5.out.mono hg.below)
 have HU6 := Lib.hid (HU5.out.mono hg.below)
 have HE6 := Lib.hid (owns_mono HS.out HG6.out)
 clear hg hx1 hx2 HG5 HN5 HK5 HTab5 HOk5 HU5 HLk HG25
 simp only [fill]
 try go_simp
 have q0 := cell_of_one (show w6.heap[T]? = _ from HTab6.out)
 have hlen := fun ty => HE6.out.len Tryz.underlying83 ty
 have hmm := @run_makeMap Tryz.prog
 have hmz : Maps.size (DataW.map (H := Value) []) = 0 := rfl
 rw [hmz] at hlen
 go_wp2_with fail
 clear q0 hlen hmm hmz
 have hs1 : (w6.alloc (.map #[] 0)).heap.size = w6.heap.size + 1 := World.size_alloc _ _
 have hX0 := heap_alloc_new (w6.alloc (.map #[] 0)) (.cells #[.map (some w6.heap.size), .int .u8 0, .int .u16 0, .bool false, .bool false, .bool false, .int .i64 0, .int .u8 0, .int .u8 0, .int .u32 0, .int .u32 0, .slice none 0 0, .bool false, .int .i64 (-1)] 94)
 rw [hs1] at hX0
 have hA0 : AtMap ((w6.alloc (.map #[] 0)).alloc (.cells #[.map (some w6.heap.size), .int .u8 0, .int .u16 0, .bool false, .bool false, .bool false, .int .i64 0, .int .u8 0, .int .u8 0, .int .u32 0, .int .u32 0, .slice none 0 0, .bool false, .int .i64 (-1)] 94)) w6.heap.size 0 (w6.heap.size + 2) P (fun _ => false) := (AtMap.made w6 _ P).mono ((Grow.refl _).alloc _)
 have hgA : Grow w6 ((w6.alloc (.map #[] 0)).alloc (.cells #[.map (some w6.heap.size), .int .u8 0, .int .u16 0, .bool false, .bool false, .bool false, .int .i64 0, .int .u8 0, .int .u8 0, .int .u32 0, .int .u32 0, .slice none 0 0, .bool false, .int .i64 (-1)] 94)) := ((Grow.refl w6).alloc _).alloc _
 have hsA : ((w6.alloc (.map #[] 0)).alloc (.cells #[.map (some w6.heap.size), .int .u8 0, .int .u16 0, .bool false, .bool false, .bool false, .int .i64 0, .int .u8 0, .int .u8 0, .int .u32 0, .int .u32 0, .slice none 0 0, .bool false, .int .i64 (-1)] 94)).heap.size = w6.heap.size + 1 + 1 := by rw [World.size_alloc, hs1]
 obtain ⟨wA, hwA⟩ : ∃ x, ((w6.alloc (.map #[] 0)).alloc (.cells #[.map (some w6.heap.size), .int .u8 0, .int .u16 0, .bool false, .bool false, .bool false, .int .i64 0, .int .u8 0, .int .u8 0, .int .u32 0, .int .u32 0, .slice none 0 0, .bool false, .int .i64 (-1)] 94)) = x := ⟨_, rfl⟩
 rw [hwA] at hX0 hA0 hgA hsA ⊢
 have hFlt : F < w6.heap.size := HE6.out.lt
 obtain ⟨m, hmE⟩ : ∃ x, w6.heap.size = x := ⟨_, rfl⟩
 have HmE : Hid (B0 ≤ m) := by have h1 := HG6.out.size; have h2 := HGe.out; show _ ≤ _; omega
 rw [hmE] at hX0 hA0 hsA hFlt ⊢
 obtain ⟨X, hXE⟩ : ∃ x, m + 1 = x := ⟨_, rfl⟩
 rw [hXE] at hX0 hsA ⊢
 have HXE := Lib.hid hXE
 have HmF : Hid (F < m) := hFlt
 have HsA := Lib.hid hsA
 have HXA := Lib.hid hX0
 have HAA := Lib.hid hA0
 have HEA := Lib.hid (owns_mono HE6.out hgA)
 have HGA := Lib.hid (HG6.out.trans hgA)
 have HNA := Lib.hid ((hgA.block _ (lt_of_block HN6.out)).trans HN6.out)
 have HKA := Lib.hid ((hgA.block _ (lt_of_block HK6.out)).trans HK6.out)
 have HTabA : Hid (TabAt wA T F) := (hgA.block _ (lt_of_block (show w6.heap[T]? = _ from HTab6.out))).trans HTab6.out
 have HOkA := Lib.hid (HOk6.out.mono hgA)
 have HUA := Lib.hid (HU6.out.mono hgA)
 clear hs1 hX0 hA0 hgA hsA hwA hmE hXE hFlt HE6 HG6 HN6 HK6 HTab6 HOk6 HU6
 refine wpRg 6 ?_
 simp only [List.take_succ_cons, List.take_zero, List.drop_succ_cons, List.drop_zero]
 repeat (refine wpHp fun K hK => ?_; go_simp; refine hK _ ?_; clear hK K)
 refine wpHd (.map (some F)) (fun w' hg => ?_) ?_
 ·have q0 := cell_of_one ((hg.below.block _ (lt_of_block HTabA.out)).trans HTabA.out)
  clear hg
  go_simp
  exact Below.refl _ _
 try go_simp
 repeat (refine wpHp fun K hK => ?_; go_simp; refine hK _ ?_; clear hK K)
 refine wpHd (.agg #[.int .u32 src, .int .u32 dst, .int .u8 proto, .int .u16 id]) (fun w' hg => ?_) ?_
 ·obtain ⟨⟨q0, q1, q2, q3⟩, _⟩ := blk4 ((hg.below.block _ (lt_of_block HKA.out)).trans HKA.out)
  clear hg
  go_simp
  exact Below.refl _ _
 try go_simp
 repeat (refine wpHp fun K hK => ?_; go_simp; refine hK _ ?_; clear hK K)
 refine wpH_nil ?_
 intro xs wC hg hx1 hx2
 have HEC := Lib.hid (owns_mono HEA.out hg.below)
 have HGC := Lib.hid hg.below
 clear hg hx1 hx2
 simp only [fill]
 try go_simp
 refine wpList_mapUpdate_own _ rfl (.tmp 83) (.tmp 84) (.tmp 85) 83 rfl 89 91 pieceKeyed Tryz.underlying83 anyElem F 0 (.map []) rfl HEC.out (by unfold maxLen; omega) (pieceV src dst proto id) (.pointer (some ⟨X, 0, none⟩)) kl rfl rfl HK.out (.held (.pointer (some ⟨X, 0, none⟩))) [] rfl ?_
 intro w6 hDB hgB
 have hFd : GrowBut (fun j => j = F) wC w6 := ⟨hgB.os, hgB.tape, hgB.output, hgB.size, fun k hk hn => hgB.block k hk (fun e => hn (by injection e))⟩
 have hM : GrowBut (fun j => j = F) wA w6 := (GrowBut.of_below HGC.out).trans hFd
 obtain ⟨D, hDE⟩ : ∃ x, (DataW.map (H := Value) []).put kl (.held (.pointer (some ⟨X, 0, none⟩))) = x := ⟨_, rfl⟩
 have HDk : Hid (∀ z, D.atKey kl z = .held (.pointer (some ⟨X, 0, none⟩))) := fun z => by rw [← hDE]; exact Maps.atKey_put_same ⟨_, rfl⟩ (pieceKeyed.key HK.out) _ _
 rw [hDE] at hDB
 have HD6 := Lib.hid hDB
 have hne : ∀ (B : Nat) (cs : Array Value) (TT : TypeId), wA.heap[B]? = some (.cells cs TT (0, 0)) → B ≠ F := fun B cs TT h e => by
  obtain ⟨es, clock, hb, _⟩ := HEA.out
  rw [e, hb] at h
  simp at h
 have HN6 := Lib.hid ((hM.block _ (lt_of_block HNA.out) (hne _ _ _ HNA.out)).trans HNA.out)
 have HK6 := Lib.hid ((hM.block _ (lt_of_block HKA.out) (hne _ _ _ HKA.out)).trans HKA.out)
 have HTab6 : Hid (TabAt w6 T F) := (hM.block _ (lt_of_block (show wA.heap[T]? = _ from HTabA.out)) (hne _ _ _ HTabA.out)).trans HTabA.out
 have HU6 := Lib.hid (map_bytes HEA.out HUA.out hM)
 have HOk6 : Hid (HdOk w6 ⟨tos, id, evil, df, false, o, ttl, proto, src, dst, .slice va os.length vc, os⟩) := ⟨HOkA.out.tos, HOkA.out.id, HOkA.out.off, HOkA.out.ttl, HOkA.out.proto, HOkA.out.src, HOkA.out.dst, map_bytes HEA.out HOkA.out.body hM⟩
 have HFm : Hid (F ≠ m) := by have := HmF.out; show _ ≠ _; omega
 have HB6 : Hid (BelowF F B0 w w6) := GrowBut.trans (below_grow HGA.out HGe.out) (below_but hM (Nat.le_trans HGe.out HGA.out.size) (fun k e => Or.inl e))
 obtain ⟨base, hbaseE⟩ : ∃ x, m + 2 = x := ⟨_, rfl⟩
 have HFl6 : Hid (FlowSt w6 B0 N X m base 0 P FS.zero) := by
  have h1 := HXE.out; have h2 := HmE.out; have h3 := HsA.out; have h4 := HmF.out; have h5 := hM.size
  refine ⟨(hM.block _ (lt_of_block HXA.out) (by show X ≠ F; omega)).trans HXA.out, ?_, Nat.zero_le _, ⟨by omega, by omega, by omega⟩, ⟨by omega, by omega⟩, fun e => (by cases e), Or.inl rfl, ⟨none, 0, 0, rfl⟩⟩
  rw [← hbaseE]
  exact HAA.out.but hM (by show m ≠ F; omega) (fun k e => by have e : k = F := e; omega)
 clear hDB hgB hFd hM hDE hne hbaseE HEC HGC HXE HmE HsA HXA HAA HEA HGA HNA HKA HTabA HUA HOkA
 obtain ⟨⟨d0, d1, d2, d3, d4, d5⟩, d6, d7, d8, d9, d10⟩ := blkH HN6.out
 have HLay := Lib.hid (lay_st HFl6.out (h := ⟨tos, id, evil, df, false, o, ttl, proto, src, dst, .slice va os.length vc, os⟩) (u := .slice ua Lp uc) (pl := pl) (o := o) (L := Lp) HNN.out.1 HOk6.out (by have := HRaw.out.may; exact this) rfl (by have := HNN.out; omega) HU6.out HLp.out hlp0 (by have := HNN.out; omega) HPP.out (fun e => HEnd.out (by first | exact trivial | exact e)))
 go_wp2_with fail
 unfold Hd.val Hd.cells hdCells at HLay
 dsimp only at HLay
 with_reducible refine HLay.out.mono ?_
 rintro e w7 ⟨⟨uu, rfl⟩, ⟨n7, hf7⟩, hg7⟩
 have HFl7 := Lib.hid hf7
 have HGx7 := Lib.hid hg7
 have hF1 : F ≠ X := fun e => by
  obtain ⟨es, clock, hb, _⟩ := HD6.out
  have h := HFl6.out.flow
  unfold FlowAt at h
  rw [← e, hb] at h
  simp at h
 have hT1 : T ≠ m := fun e => by
  obtain ⟨DD, ⟨es, clock, hb, _⟩, _⟩ := HFl6.out.map
  have h : w6.heap[T]? = _ := HTab6.out
  rw [e, hb] at h
  simp at h
 have hT2 : T ≠ X := fun e => by
  have h := HFl6.out.flow
  unfold FlowAt at h
  have h2 : w6.heap[T]? = _ := HTab6.out
  rw [e, h] at h2
  simp at h2
 have hK1 : Kb ≠ m ∧ Kb ≠ X := by
  refine ⟨fun e => ?_, fun e => ?_⟩
  ·obtain ⟨DD, ⟨es, clock, hb, _⟩, _⟩ := HFl6.out.map
   have h := HK6.out
   rw [e, hb] at h
   simp at h
  ·have h := HFl6.out.flow
   unfold FlowAt at h
   have h2 := HK6.out
   rw [e, h] at h2
   simp at h2
 have HD7 : Hid (w7.ownsMap (H := Value) Tryz.prog 89 anyElem F 1 D) := owns_but HD6.out hg7 (fun e => by rcases e with e | e; exact HFm.out e; exact hF1 e)
 have HTab7 : Hid (TabAt w7 T F) := (hg7.block _ (lt_of_block (show w6.heap[T]? = _ from HTab6.out)) (fun e => by rcases e with e | e; exact hT1 e; exact hT2 e)).trans HTab6.out
 have HK7 := Lib.hid ((hg7.block _ (lt_of_block HK6.out) (fun e => by rcases e with e | e; exact hK1.1 e; exact hK1.2 e)).trans HK6.out)
 have HB7 : Hid (BelowF F B0 w w7) := GrowBut.trans (HB6.out) (below_but hg7 (Nat.le_trans HGe.out HB6.out.size) (fun k e => by rcases e with e | e; exact Or.inr (e ▸ HFl6.out.ge.2); exact Or.inr (e ▸ HFl6.out.ge.1)))
 have HSz7 : Hid (B0 ≤ w7.heap.size) := Nat.le_trans HGe.out HB7.out.size
 clear hf7 hg7 hF1 hT1 hT2 hK1 d0 d1 d2 d3 d4 d5 d6 d7 d8 d9 d10 HLay
 go_wp2_with fail
 with_reducible refine (whole_st HFl7.out (by have := HNN.out; omega) (by have := HNN.out; omega) HPb.out).mono ?_
 rintro e w8 (⟨hwh, v8, rfl, hn8, hg8⟩ | ⟨hwh, rfl, hg8⟩)
 ·have HWh := Lib.hid hwh
  have HNb8 := Lib.hid hn8
  have HD8 := Lib.hid (owns_mono HD7.out hg8)
  have HTab8 : Hid (TabAt w8 T F) := (hg8.block _ (lt_of_block (show w7.heap[T]? = _ from HTab7.out))).trans HTab7.out
  have HK8 := Lib.hid ((hg8.block _ (lt_of_block HK7.out)).trans HK7.out)
  have HB8 : Hid (BelowF F B0 w w8) := GrowBut.trans HB7.out (below_grow hg8 HSz7.out)
  have HHd := Lib.hid (And.intro ((HFl7.out.head hwh.1).1.mono hg8) (HFl7.out.head hwh.1).2)
  clear hwh hn8 hg8 HD7 HTab7 HK7 HFl7
  go_wp2_with fail
  refine wpRg 5 ?_
  simp only [List.take_succ_cons, List.take_zero, List.drop_succ_cons, List.drop_zero]
  repeat (refine wpHp fun K hK => ?_; go_simp; refine hK _ ?_; clear hK K)
  refine wpHd (.map (some F)) (fun w' hg => ?_) ?_
  ·have q0 := cell_of_one ((hg.below.block _ (lt_of_block (show w8.heap[T]? = _ from HTab8.out))).trans HTab8.out)
   clear hg
   go_simp
   exact Below.refl _ _
  try go_simp
  repeat (refine wpHp fun K hK => ?_; go_simp; refine hK _ ?_; clear hK K)
  refine wpHd (.agg #[.int .u32 src, .int .u32 dst, .int .u8 proto, .int .u16 id]) (fun w' hg => ?_) ?_
  ·obtain ⟨⟨q0, q1, q2, q3⟩, _⟩ := blk4 ((hg.below.block _ (lt_of_block HK8.out)).trans HK8.out)
   clear hg
   go_simp
   exact Below.refl _ _
  try go_simp
  refine wpH_nil ?_
  intro xs w9 hg hx1 hx2
  have HB9 : Hid (BelowF F B0 w w9) := GrowBut.trans HB8.out (below_grow hg.below (Nat.le_trans HGe.out HB8.out.size))
  have HD9 := Lib.hid (owns_mono HD8.out hg.below)
  have HHd9 : Hid (HdOk w9 _ ∧ _) := ⟨HHd.out.1.mono hg.below, HHd.out.2⟩
  have HNb9 : Hid (BytesV w9 v8 (pkt { (FS.zero.lay ⟨tos, id, evil, df, false, o, ttl, proto, src, dst, .slice va os.length vc, os⟩ o Lp).H with mf := false } P)) := ⟨pkt_bytes (raw_whole HHd9.out.1 HHd9.out.2) HPb.out, (ints_of_owns HNb8.out).mono hg.below⟩
  clear hg hx1 hx2
  simp only [fill]
  try go_simp
  obtain ⟨wz, hdel, hDz, hturn⟩ := HD9.out.drop pieceKeyed Tryz.underlying83 HK.out 0
  have HFin : Hid (BelowF F B0 w wz ∧ BytesV wz v8 (pkt { (FS.zero.lay ⟨tos, id, evil, df, false, o, ttl, proto, src, dst, .slice va os.length vc, os⟩ o Lp).H with mf := false } P)) := by
   have hgz := hturn.grown
   have hgb : GrowBut (fun j => j = F) w9 wz := ⟨hgz.os, hgz.tape, hgz.output, hgz.size, fun k hk hn => hgz.block k hk (fun e => hn (by injection e))⟩
   exact ⟨GrowBut.trans HB9.out (below_but hgb (Nat.le_trans HGe.out HB9.out.size) (fun k e => Or.inl e)), map_bytes HD9.out HNb9.out hgb⟩
  unfold pieceV at hdel
  clear hDz hturn
  obtain ⟨x8, k8, c8, e8⟩ : ∃ a n c, v8 = .slice a n c := by obtain ⟨a, c, e, _, _⟩ := HNb9.out.2.shape; exact ⟨_, _, _, e⟩
  subst e8
  go_wp2_with fail
  refine bodyPost_ret (v := .tuple #[.slice x8 k8 c8, .int .i64 0]) (by simp [results, Tryz.results10, go_sem]) rfl ?_
  exact ⟨_, HFin.out.1, Or.inl ⟨HWh.out, _, rfl, HFin.out.2⟩⟩
 ·have HWh := Lib.hid hwh
  have HD8 := Lib.hid (owns_mono HD7.out hg8)
  have HTab8 : Hid (TabAt w8 T F) := (hg8.block _ (lt_of_block (show w7.heap[T]? = _ from HTab7.out))).trans HTab7.out
  have HFl8 := Lib.hid (HFl7.out.mono hg8)
  have HB8 : Hid (BelowF F B0 w w8) := GrowBut.trans HB7.out (below_grow hg8 HSz7.out)
  clear hwh hg8 HD7 HTab7 HK7 HFl7
  go_wp2_with fail
  refine bodyPost_ret (v := .tuple #[.slice none 0 0, .int .i64 0]) (by simp [results, Tryz.results10, go_sem]) rfl ?_
  exact ⟨_, HB8.out, Or.inr ⟨HWh.out, rfl, ⟨HTab8.out, Nat.le_trans HGe.out HB8.out.size⟩, D, X, m, base, n7, HD8.out, HDk.out, HFl8.out, HFm.out⟩⟩
end
end Go.Proofs.YtgckhdepnmiejaaGreat
