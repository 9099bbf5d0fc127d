/- A piece's bytes are laid: flow.lay (and what stands on it). -/
import Derived.Maps.RangeWalk
import Derived.Test.YtgckhdepnmiejaaGreatZ09
import Derived.Test.YtgckhdepnmiejaaGreatZ10
import Derived.Test.YtgckhdepnmiejaaGreatZ13
set_option linter.unusedVariables false
set_option linter.unusedSimpArgs false
namespace Go.Proofs.YtgckhdepnmiejaaGreat
section
set_option maxRecDepth 100000
open Go.RowKit
set_option maxHeartbeats 1000000 in
theorem clone_nil (w : World) : Calls Tryz.prog 27 #[.slice none 0 0] w fun e w' => e = .returned (.slice none 0 0) ∧ Grow w w' := by
 have HG := Lib.hid (Grow.refl w)
 have q : ∀ (W : World), (binOp .eql 25 (.slice none 0 0) (.slice none 0 0)).run Tryz.prog W = .ok (.bool true) W := fun W => by kernel_rfl
 go_enter Tryz.func27, Tryz.ntmps27
 go_wp2_with fail
 go_ret
 exact ⟨by first | rfl | simp, HG.out⟩
/-- A flow in memory. -/
def FlowAt (w : World) (X m : Nat) (H : Hd) (first : Bool) (fin : Int) : Prop :=
 w.heap[X]? = some (.cells #[.map (some m), .int .u8 H.tos, .int .u16 H.id, .bool H.evil, .bool H.df, .bool H.mf, .int .i64 H.off, .int .u8 H.ttl, .int .u8 H.proto, .int .u32 H.src, .int .u32 H.dst, H.v, .bool first, .int .i64 fin] 94 (0, 0))
theorem blkF {w : World} {B : Nat} {T : TypeId} {a b c d e f g h i j k l m n : Value} (hh : w.heap[B]? = some (.cells #[a, b, c, d, e, f, g, h, i, j, k, l, m, n] T (0, 0))) :
  (w.cell? ⟨B, 0, none⟩ = some a ∧ w.cell? ⟨B, 1, none⟩ = some b ∧ w.cell? ⟨B, 2, none⟩ = some c ∧ w.cell? ⟨B, 3, none⟩ = some d ∧ w.cell? ⟨B, 4, none⟩ = some e ∧ w.cell? ⟨B, 5, none⟩ = some f ∧ w.cell? ⟨B, 6, none⟩ = some g) ∧ w.cell? ⟨B, 7, none⟩ = some h ∧ w.cell? ⟨B, 8, none⟩ = some i ∧ w.cell? ⟨B, 9, none⟩ = some j ∧ w.cell? ⟨B, 10, none⟩ = some k ∧ w.cell? ⟨B, 11, none⟩ = some l ∧ w.cell? ⟨B, 12, none⟩ = some m ∧ w.cell? ⟨B, 13, none⟩ = some n := by
 refine ⟨⟨?_, ?_, ?_, ?_, ?_, ?_, ?_⟩, ?_, ?_, ?_, ?_, ?_, ?_, ?_⟩ <;> simp [World.cell?, hh]
/-- Blocks from o on, q of them. -/
def layN (K : Nat → Bool) (o q : Nat) : Nat → Bool := fun j => K j || (decide (o ≤ j) && decide (j < o + q))
theorem layN_zero (K : Nat → Bool) (o : Nat) : layN K o 0 = K := by
 funext j; unfold layN
 by_cases h : o ≤ j
 ·have : decide (j < o + 0) = false := decide_eq_false (by omega)
  rw [this]; simp
 ·simp [h]
theorem layN_skip {K : Nat → Bool} {o q : Nat} (h : layN K o q (o + q) = true) : layN K o (q + 1) = layN K o q := by
 have hK : K (o + q) = true := by simpa [layN] using h
 funext j
 unfold layN
 by_cases e : j = o + q
 ·subst e; rw [hK]; simp
 ·congr 2
  exact decide_eq_decide.2 (by omega)
theorem layN_put (K : Nat → Bool) (o q : Nat) : layN K o (q + 1) = lay1 (layN K o q) (o + q) := by
 funext j
 unfold layN lay1
 by_cases e : j = o + q
 ·subst e; simp
 ·have e2 : (j == o + q) = false := by simpa using e
  rw [e2]
  simp only [Bool.false_or]
  congr 2
  exact decide_eq_decide.2 (by omega)
theorem flow_ne {w : World} {X m m' n base : Nat} {P : List Int} {K : Nat → Bool} {H : Hd} {first : Bool} {fin : Int} (hF : FlowAt w X m' H first fin) (hA : AtMap w m n base P K) : X ≠ m := by
 obtain ⟨D, ⟨es, clock, hb, _⟩, _⟩ := hA
 intro e
 subst e
 unfold FlowAt at hF
 rw [hb] at hF
 simp at hF
theorem ints_but {w0 wr : World} {m n base : Nat} {P : List Int} {K : Nat → Bool} {v : Value} {zs : List Int} (h : IntsV .u8 w0 v zs) (hA : AtMap w0 m n base P K) (hg : GrowBut (fun j => j = m) w0 wr) : IntsV .u8 wr v zs := by
 obtain ⟨D, ⟨es, clock, hb, _⟩, _⟩ := hA
 rcases h with h | ⟨b, off, cap, e, h1, h2, h3⟩
 ·exact Or.inl h
 ·exact Or.inr ⟨b, off, cap, e, h1, h2, fun i hi => hg.cell (h3 i hi) (fun e => by
   have e : b = m := e
   have h4 := h3 i hi
   rw [e] at h4
   simp [World.cell?, hb] at h4)⟩
def NewB (k base : Nat) (P : List Int) (u : Value) (z : World) : Prop := z.ownsRow base 5 1 u (Blk P k).length ((Blk P k).map (Value.int .u8))
/-- What a piece leaves of a flow. -/
def Laid1 (w : World) (X m n base : Nat) (P : List Int) (K : Nat → Bool) (o L : Nat) (H : Hd) (first : Bool) (fin : Int) (e : Ending) (w' : World) : Prop :=
 (∃ v, e = .returned v) ∧ FlowAt w' X m H first fin ∧ (∃ n', n' ≤ n + (L + 7) / 8 ∧ AtMap w' m n' base P (layN K o ((L + 7) / 8))) ∧ GrowBut (fun j => j = m ∨ j = X) w w'
theorem hmore {m X : Nat} {w w' : World} (h : GrowBut (fun j => j = m) w w') : GrowBut (fun j => j = m ∨ j = X) w w' := ⟨h.os, h.tape, h.output, h.size, fun k hk hn => h.block k hk (fun e => hn (Or.inl e))⟩
def LaidH (w : World) (X m n base : Nat) (P : List Int) (K : Nat → Bool) (o L : Nat) (h H : Hd) (first : Bool) (fin : Int) (e : Ending) (w' : World) : Prop :=
 Laid1 w X m n base P K o L (if h.off = 0 ∧ first = false then h else H) (if h.off = 0 then true else first) (if h.mf = false ∧ fin < 0 then ((8 * o + L : Nat) : Int) else fin) e w'
theorem laidH_of {w w' : World} {X m n base : Nat} {P : List Int} {K : Nat → Bool} {o L : Nat} {h H H' : Hd} {first first' : Bool} {fin fin' : Int} {e : Ending} (e1 : (if h.off = 0 ∧ first = false then h else H) = H') (e2 : (if h.off = 0 then true else first) = first') (e3 : (if h.mf = false ∧ fin < 0 then ((8 * o + L : Nat) : Int) else fin) = fin')
  (k : Laid1 w X m n base P K o L H' first' fin' e w') : LaidH w X m n base P K o L h H first fin e w' := by unfold LaidH; rw [e1, e2, e3]; exact k
set_option maxHeartbeats 8000000 in
theorem lay_any {w : World} {X m n base : Nat} {P : List Int} {K : Nat → Bool} {H h : Hd} {first : Bool} {fin : Int} {u : Value} {pl : List Int} {o L : Nat} (hF : FlowAt w X m H first fin) (hA : AtMap w m n base P K) (hn : n ≤ 1000000) (hX : X < base) (hm : m < base) (hb : base ≤ w.heap.size)
  (hk : HdOk w h) (ho : h.off = o) (ho2 : o ≤ 9000) (hu : BytesV w u pl) (hL : pl.length = L) (hL1 : 0 < L) (hL2 : L ≤ 10000) (hP : ∀ q, 8 * q < L → Blk P (o + q) = (pl.drop (8 * q)).take 8) :
  Calls Tryz.prog 30 #[.pointer (some ⟨X, 0, none⟩), h.val, u] w (LaidH w X m n base P K o L h H first fin) := by
 obtain ⟨tos, id, evil, df, mf, of, ttl, proto, src, dst, hv, os⟩ := h
 dsimp only at ho
 subst ho
 unfold Hd.val Hd.cells hdCells
 dsimp only
 obtain ⟨ub, uo, uc, rfl, huc, hum⟩ := hu.2.solid (by intro e; rw [e] at hL; simp at hL; omega)
 rw [hL] at hu huc ⊢
 have HF := Lib.hid hF
 have HA := Lib.hid hA
 have HP := Lib.hid hP
 have HK := Lib.hid hk
 have HU := Lib.hid hu
 have HL := Lib.hid hL
 have HXm : Hid (X ≠ m) := flow_ne hF hA
 obtain ⟨va, vc, hve, _, _⟩ := hk.body.2.shape
 dsimp only at hve
 subst hve
 unfold maxLen at hum
 clear hF hA hP hk hu hL
 go_enter Tryz.func30, Tryz.ntmps30
 go_wp2_with fail
 obtain ⟨w0, hw0⟩ : ∃ x, w.alloc (.cells #[.int .u8 tos, .int .u16 id, .bool evil, .bool df, .bool mf, .int .i64 o, .int .u8 ttl, .int .u8 proto, .int .u32 src, .int .u32 dst, .slice va os.length vc] 27) = x := ⟨_, rfl⟩
 have hN := heap_alloc_new w (.cells #[.int .u8 tos, .int .u16 id, .bool evil, .bool df, .bool mf, .int .i64 o, .int .u8 ttl, .int .u8 proto, .int .u32 src, .int .u32 dst, .slice va os.length vc] 27)
 have hg0 : Grow w (w.alloc (.cells #[.int .u8 tos, .int .u16 id, .bool evil, .bool df, .bool mf, .int .i64 o, .int .u8 ttl, .int .u8 proto, .int .u32 src, .int .u32 dst, .slice va os.length vc] 27)) := (Grow.refl w).alloc _
 rw [hw0] at hN hg0 ⊢
 have HNb : Hid (n ≤ 1000000 ∧ X < base ∧ m < base ∧ base ≤ w.heap.size) := ⟨hn, hX, hm, hb⟩
 obtain ⟨N, hNN⟩ : ∃ x, w.heap.size = x := ⟨_, rfl⟩
 have HNN := Lib.hid hNN
 rw [hNN] at hN ⊢
 have HN0 := Lib.hid hN
 have HF0 : Hid (FlowAt w0 X m H first fin) := (hg0.block _ (lt_of_block HF.out)).trans HF.out
 have HA0 := Lib.hid (HA.out.mono hg0)
 have HU0 := Lib.hid (HU.out.mono hg0)
 have HG0 := Lib.hid hg0
 clear hN hg0 hw0 HF HA HU HK hb hn hX hm hNN
 go_loopw [6] (fun i wr => ∃ q : Nat, i = .int .i64 ((8 * q : Nat) : Int) ∧ 8 * q ≤ L + 7 ∧ AtMap wr m (n + q) base P (layN K o q) ∧ GrowBut (fun j => j = m) w0 wr) (fun i _ => L - (intOf i).toNat)
 case atStart => exact ⟨0, rfl, by omega, by rw [layN_zero]; exact HA0.out, GrowBut.refl _ _⟩
 case round =>
  obtain ⟨q, rfl, hq, ha, hg⟩ := hrel
  have HAr := Lib.hid ha
  have HGr := Lib.hid hg
  have HNr : Hid (wr.heap[N]? = some (.cells #[.int .u8 tos, .int .u16 id, .bool evil, .bool df, .bool mf, .int .i64 o, .int .u8 ttl, .int .u8 proto, .int .u32 src, .int .u32 dst, .slice va os.length vc] 27 (0, 0))) := (hg.block _ (lt_of_block HN0.out) (fun e => by have h1 := HNb.out; have h2 := HNN.out; have e : N = m := e; omega)).trans HN0.out
  have HFr : Hid (FlowAt wr X m H first fin) := (hg.block _ (lt_of_block HF0.out) (fun e => HXm.out e)).trans HF0.out
  have HUr : Hid (BytesV wr (.slice (some ⟨ub, uo, none⟩) L uc) pl) := ⟨HU0.out.1, ints_but HU0.out.2 HA0.out hg⟩
  clear ha hg
  obtain ⟨⟨d0, d1, d2, d3, d4, d5⟩, d6, d7, d8, d9, d10⟩ := blkH HNr.out
  by_cases hlt : 8 * q < L
  ·obtain ⟨i, hi⟩ : ∃ i, 8 * q = i := ⟨_, rfl⟩
   have HIi := Lib.hid hi
   have hiL : (i : Int) < (L : Int) := by omega
   have hi2 : i ≤ 10000 := by omega
   obtain ⟨k, hk⟩ : ∃ k, o + q = k := ⟨_, rfl⟩
   have HKk := Lib.hid hk
   have hkb : k ≤ 1000000 := by omega
   have hq1 : (i : Int) / 8 = (q : Int) := by omega
   have hq2 : (i : Int).tdiv 8 = (q : Int) := by rw [Int.tdiv_eq_ediv_of_nonneg (by omega)]; omega
   have hk1 : (o : Int) + (q : Int) = (k : Int) := by omega
   obtain ⟨d, hd⟩ : ∃ d, L - i = d := ⟨_, rfl⟩
   have hd1 : (L : Int) - (i : Int) = (d : Int) := by omega
   obtain ⟨r, hr⟩ : ∃ r, min 8 d = r := ⟨_, rfl⟩
   have hm1 : (if (d : Int) < 8 then (d : Int) else 8) = (r : Int) := by split <;> omega
   have HBl : Hid (Blk P k = (pl.drop i).take r) := by
    have h := HP.out q hlt
    rw [hk, hi] at h
    show _ = _
    rw [h, ← hr, ← hd]
    have hl : (pl.drop i).length = L - i := by rw [List.length_drop, HL.out]
    rcases Nat.le_total 8 (L - i) with h8 | h8
    ·rw [Nat.min_eq_left h8]
    ·rw [Nat.min_eq_right h8, List.take_of_length_le (by omega), List.take_of_length_le (by omega)]
   have HBn : Hid ((Blk P k).length = r) := by show _ = _; rw [HBl.out, List.length_take, List.length_drop, HL.out, hd, ← hr]; omega
   have hr8 : 0 < r ∧ r ≤ 8 := by omega
   obtain ⟨⟨f0, f1, f2, f3, f4, f5, f6⟩, f7, f8, f9, f10, f11, f12, f13⟩ := blkF HFr.out
   rw [hi]
   clear hi hk hq hlt d6 d7 d8 d9 d10 f1 f2 f3 f4 f5 f6 f7 f8 f9 f10 f11 f12 f13
   cases hK : layN K o q k with
   | true =>
    obtain ⟨v, hv, hown⟩ := HAr.out.yes (k := k) hkb hK
    rw [HBn.out] at hown
    obtain ⟨va, vc, rfl, _, _⟩ := owns_shape hown
    have HAl : Hid (layN K o (q + 1) = layN K o q) := by rw [← HKk.out] at hK; exact layN_skip hK
    clear hown hK hd hr
    go_wp2_with fail
    refine ⟨⟨q + 1, by have := HIi.out; congr 1; omega, by have := HIi.out; omega, by rw [HAl.out]; exact HAr.out.more (by omega), HGr.out⟩, by simp [intOf]; omega⟩
   | false =>
    have hv := HAr.out.no (k := k) hkb hK
    have HAl : Hid (layN K o (q + 1) = lay1 (layN K o q) k) := by show _ = _; rw [← HKk.out]; exact layN_put _ _ _
    have HDr : Hid (L - i = d ∧ min 8 d = r) := ⟨hd, hr⟩
    obtain ⟨e8, he8⟩ : ∃ x, i + 8 = x := ⟨_, rfl⟩
    have he1 : (i : Int) + 8 = (e8 : Int) := by omega
    obtain ⟨e9, he9⟩ : ∃ x, i + r = x := ⟨_, rfl⟩
    have hm2 : (if (L : Int) < (e8 : Int) then (L : Int) else (e8 : Int)) = (e9 : Int) := by split <;> omega
    have hm3 : (if L < e8 then (L : Int) else (e8 : Int)) = (e9 : Int) := by split <;> omega
    have hx5 : e9 - i = r := by omega
    have hx6 : i ≤ e9 := by omega
    have hx7 : e9 ≤ uc := by omega
    have HE9 : Hid (i + r = e9 ∧ e9 ≤ L ∧ i ≤ e9 ∧ e9 - i = r ∧ 0 < r) := by refine ⟨he9, ?_, ?_, ?_, ?_⟩ <;> omega
    have hwi : IntKind.i64.wrap (i : Int) = (i : Int) := IntWalk.i64_in _ (by omega)
    have hwe : IntKind.i64.wrap (e8 : Int) = (e8 : Int) := IntWalk.i64_in _ (by omega)
    have hx1 : ¬ (uc = i) := by omega
    have hx2 : (i : Int) ≤ (e9 : Int) := by omega
    have hx3 : (e9 : Int) ≤ (uc : Int) := by omega
    have hx4 : (i : Int) ≤ (uc : Int) := by omega
    clear hK hd hr he8 he9
    go_wp2_with fail
    clear d0 d1 d2 d3 d4 d5 f0 hv
    refine wpRg 19 ?_
    simp only [List.take_succ_cons, List.take_zero, List.drop_succ_cons, List.drop_zero]
    repeat (refine wpHp fun K hK => ?_; go_simp; refine hK _ ?_; clear hK K)
    refine wpHd (.map (some m)) (fun w' hg => ?_) ?_
    ·have hff : FlowAt w' X m H first fin := (hg.below.block _ (lt_of_block HFr.out)).trans HFr.out
     obtain ⟨⟨y0, y1, y2, y3, y4, y5, y6⟩, y7, y8, y9, y10, y11, y12, y13⟩ := blkF hff
     clear hg hff
     go_simp
     exact Below.refl _ _
    try go_simp
    repeat (refine wpHp fun K hK => ?_; go_simp; refine hK _ ?_; clear hK K)
    refine wpHd (.slice none 0 0) (fun w' hg => ?_) ?_
    ·have h := clone_nil w'
     clear hg
     go_simp
     with_reducible refine h.mono ?_
     rintro e w1 ⟨rfl, hg⟩
     exact ⟨_, rfl, rfl, hg⟩
    try go_simp
    repeat (refine wpHp fun K hK => ?_; go_simp; refine hK _ ?_; clear hK K)
    refine wpH_hid' (NewB k base P) (by intro _ _ h; cases h) rfl (by rfl) (fun u x x' hg h => own_grow h hg.below) (by rfl) (by rfl) (fun w' hg => ?_) ?_
    ·obtain ⟨i0, hi, hz0, hz1, hz2⟩ := info_parts infoByte
     have hb1 := bytes_sub (HUr.out.mono hg.below) i e9 HE9.out.2.2.1 (by rw [HL.out]; exact HE9.out.2.1)
     rw [HE9.out.2.2.2.1, ← HBl.out] at hb1
     have hbn := HBn.out
     have hr8' := HE9.out
     refine mild_append_nil (k := .u8) _ _ _ (by rfl) base 5 i0 1 Tryz.underlying25 hi hz0 hz1 hz2 (by rfl) _ (Blk P k) (by rfl) hb1.2 (by unfold maxLen; omega) (by omega) (Nat.le_trans HNb.out.2.2.2 (Nat.le_trans HG0.out.size (Nat.le_trans HGr.out.size hg.below.size))) (fun v' w1 ho hb => ⟨ho, hb⟩)
    try go_simp
    refine wpH_nil ?_
    intro xs w2 hg hx1 hx2
    have hO := hx2 _ _ (List.Mem.head _)
    try dsimp only at hO
    have HO := Lib.hid hO
    have HG2 := Lib.hid hg.below
    clear hg hx1 hx2 hO
    simp only [fill]
    generalize xs 52 = y52 at *
    try go_simp
    refine wpList_at_put (HAr.out.mono HG2.out) (by have := HNb.out; have := HIi.out; unfold maxLen; omega) hkb HNb.out.2.2.1 HO.out rfl (.tmp 37) (.tmp 38) (.tmp 52) rfl rfl rfl rfl ?_
    intro w3 ha3 hg3
    have HA3 : Hid (AtMap w3 m (n + (q + 1)) base P (layN K o (q + 1))) := by show AtMap _ _ _ _ _ _; rw [HAl.out]; exact ha3
    have HG3 : Hid (GrowBut (fun j => j = m) w0 w3) := (HGr.out.trans (GrowBut.of_below HG2.out)).trans hg3
    clear ha3 hg3
    go_wp2_with fail
    refine ⟨⟨q + 1, by have := HIi.out; congr 1; omega, by have := HIi.out; omega, HA3.out, HG3.out⟩, by simp [intOf]; omega⟩
  ·have hqq : q = (L + 7) / 8 := by omega
   have HAe : Hid (AtMap wr m (n + (L + 7) / 8) base P (layN K o ((L + 7) / 8))) := by have h := HAr.out; rw [hqq] at h; exact h
   have HGe : Hid (GrowBut (fun j => j = m ∨ j = X) w wr) := (GrowBut.of_below HG0.out).trans (hmore HGr.out)
   have hge : ¬ (8 * (q : Int) < (L : Int)) := by omega
   have HBx : Hid (∀ x : World, GrowBut (Only X) wr x → AtMap x m (n + (L + 7) / 8) base P (layN K o ((L + 7) / 8)) ∧ GrowBut (fun j => j = m ∨ j = X) w x) := fun x hx =>
    ⟨HAe.out.but hx (fun e => HXm.out (show m = X from e).symm) (fun k e => by have := HNb.out; have e : k = X := e; omega), HGe.out.trans ⟨hx.os, hx.tape, hx.output, hx.size, fun k hk hn => hx.block k hk (fun e => hn (Or.inr e))⟩⟩
   obtain ⟨⟨f0, f1, f2, f3, f4, f5, f6⟩, f7, f8, f9, f10, f11, f12, f13⟩ := blkF HFr.out
   have fz : ∀ i, wr.frozen? ⟨X, i, none⟩ = false := fun i => by have h := HFr.out; unfold FlowAt at h; simp [World.frozen?, h]
   have hlo : (o : Int) * 8 ≤ 72000 := by omega
   have hlw : IntKind.i64.wrap (8 * (o : Int)) = 8 * (o : Int) := IntWalk.i64_in _ (by omega)
   have hlw2 : IntKind.i64.wrap (8 * (o : Int) + (L : Int)) = ((8 * o + L : Nat) : Int) := by rw [show 8 * (o : Int) + (L : Int) = ((8 * o + L : Nat) : Int) by omega]; exact IntWalk.i64_in _ (by omega)
   have z1 := fz 1
   have z2 := fz 2
   have z3 := fz 3
   have z4 := fz 4
   have z5 := fz 5
   have z6 := fz 6
   have z7 := fz 7
   have z8 := fz 8
   have z9 := fz 9
   have z10 := fz 10
   have z11 := fz 11
   have z12 := fz 12
   have z13 := fz 13
   by_cases c1 : o = 0
   ·subst c1
    cases first with
    | false =>
     go_upto_region 10 with fail
     generalize hwz : ((((((((((((wr.setCell ⟨X, 1, none⟩ (.int .u8 tos)).setCell ⟨X, 2, none⟩ (.int .u16 id)).setCell ⟨X, 3, none⟩ (.bool evil)).setCell ⟨X, 4, none⟩ (.bool df)).setCell ⟨X, 5, none⟩ (.bool mf)).setCell ⟨X, 6, none⟩ (.int .i64 0)).setCell ⟨X, 7, none⟩ (.int .u8 ttl)).setCell ⟨X, 8, none⟩ (.int .u8 proto)).setCell ⟨X, 9, none⟩ (.int .u32 src)).setCell ⟨X, 10, none⟩ (.int .u32 dst)).setCell ⟨X, 11, none⟩ (.slice va os.length vc)).setCell ⟨X, 12, none⟩ (.bool true)) = wz
     have HFz : Hid (FlowAt wz X m ⟨tos, id, evil, df, mf, 0, ttl, proto, src, dst, .slice va os.length vc, os⟩ true fin) := by have h := HFr.out; unfold FlowAt at h; rw [← hwz]; show _ = _; simp [heap_put, h, setObj]
     have HGz : Hid (GrowBut (Only X) wr wz) := by rw [← hwz]; show GrowBut _ _ _; simp only [only_put]; exact GrowBut.refl _ _
     have HNz : Hid (wz.heap[N]? = some (.cells #[.int .u8 tos, .int .u16 id, .bool evil, .bool df, .bool mf, .int .i64 ((0 : Nat) : Int), .int .u8 ttl, .int .u8 proto, .int .u32 src, .int .u32 dst, .slice va os.length vc] 27 (0, 0))) := (HGz.out.block _ (lt_of_block HNr.out) (fun e => by have h1 := HNb.out; have h2 := HNN.out; have e : N = X := e; omega)).trans HNr.out
     clear hwz d0 d1 d2 d3 d4 d5 d6 d7 d8 d9 d10 f0 f1 f2 f3 f4 f5 f6 f7 f8 f9 f10 f11 f12 f13 fz z1 z2 z3 z4 z5 z6 z7 z8 z9 z10 z11 z12 z13
     obtain ⟨⟨d0, d1, d2, d3, d4, d5⟩, d6, d7, d8, d9, d10⟩ := blkH HNz.out
     have hfz := HFz.out
     obtain ⟨⟨f0, f1, f2, f3, f4, f5, f6⟩, f7, f8, f9, f10, f11, f12, f13⟩ := blkF hfz
     have z13 : wz.frozen? ⟨X, 13, none⟩ = false := by unfold FlowAt at hfz; simp [World.frozen?, hfz]
     clear hfz
     by_cases c3 : mf = false ∧ fin < 0
     ·obtain ⟨rfl, c4⟩ := c3
      go_wp2_with fail
      go_end0
      refine laidH_of (H' := ⟨tos, id, evil, df, false, 0, ttl, proto, src, dst, .slice va os.length vc, os⟩) (first' := true) (fin' := ((8 * 0 + L : Nat) : Int)) (by exact if_pos ⟨rfl, rfl⟩) (by exact if_pos rfl) (by exact if_pos ⟨rfl, c4⟩) ⟨⟨_, rfl⟩, (by have h := heap_setCell_same _ _ 13 _ _ (.int .i64 (L : Int)) HFz.out; rw [show ((8 * 0 + L : Nat) : Int) = (L : Int) by omega]; exact h), ⟨_, Nat.le_refl _, (HBx.out _ (HGz.out.trans (only_set _))).1⟩, (HBx.out _ (HGz.out.trans (only_set _))).2⟩
     ·have c5 : mf = true ∨ (mf = false ∧ ¬ fin < 0) := by cases mf <;> simp_all
      rcases c5 with rfl | ⟨rfl, c4⟩
      ·go_wp2_with fail
       go_end0
       refine laidH_of (H' := ⟨tos, id, evil, df, true, 0, ttl, proto, src, dst, .slice va os.length vc, os⟩) (first' := true) (fin' := fin) (by exact if_pos ⟨rfl, rfl⟩) (by exact if_pos rfl) (by exact if_neg (fun e => by cases e.1)) ⟨⟨_, rfl⟩, HFz.out, ⟨_, Nat.le_refl _, (HBx.out _ HGz.out).1⟩, (HBx.out _ HGz.out).2⟩
      ·go_wp2_with fail
       go_end0
       refine laidH_of (H' := ⟨tos, id, evil, df, false, 0, ttl, proto, src, dst, .slice va os.length vc, os⟩) (first' := true) (fin' := fin) (by exact if_pos ⟨rfl, rfl⟩) (by exact if_pos rfl) (by refine if_neg (fun e => ?_); have := e.2; omega) ⟨⟨_, rfl⟩, HFz.out, ⟨_, Nat.le_refl _, (HBx.out _ HGz.out).1⟩, (HBx.out _ HGz.out).2⟩
    | true =>
     by_cases c3 : mf = false ∧ fin < 0
     ·obtain ⟨rfl, c4⟩ := c3
      go_wp2_with fail
      go_end0
      refine laidH_of (H' := H) (first' := true) (fin' := ((8 * 0 + L : Nat) : Int)) (by exact if_neg (by simp)) (by exact if_pos rfl) (by exact if_pos ⟨rfl, c4⟩) ⟨⟨_, rfl⟩, (by have h := heap_setCell_same _ _ 13 _ _ (.int .i64 (L : Int)) HFr.out; rw [show ((8 * 0 + L : Nat) : Int) = (L : Int) by omega]; exact h), ⟨_, Nat.le_refl _, (HBx.out _ (only_set _)).1⟩, (HBx.out _ (only_set _)).2⟩
     ·have c5 : mf = true ∨ (mf = false ∧ ¬ fin < 0) := by cases mf <;> simp_all
      rcases c5 with rfl | ⟨rfl, c4⟩
      all_goals
       go_wp2_with fail
       go_end0
       refine laidH_of (H' := H) (first' := true) (fin' := fin) (by exact if_neg (by simp)) (by exact if_pos rfl) (by first | (refine if_neg (fun e => ?_); cases e.1; done) | (refine if_neg (fun e => ?_); have := e.2; omega)) ⟨⟨_, rfl⟩, HFr.out, ⟨_, Nat.le_refl _, (HBx.out _ (GrowBut.refl _ _)).1⟩, (HBx.out _ (GrowBut.refl _ _)).2⟩
   ·have c1' : ((o : Int) == 0) = false := by simp; omega
    by_cases c3 : mf = false ∧ fin < 0
    ·obtain ⟨rfl, c4⟩ := c3
     go_wp2_with fail
     go_end0
     refine laidH_of (H' := H) (first' := first) (fin' := ((8 * o + L : Nat) : Int)) (by exact if_neg (fun e => c1 (by have e1 : (o : Int) = 0 := e.1; omega))) (by exact if_neg (fun e => c1 (by have e1 : (o : Int) = 0 := e; omega))) (by exact if_pos ⟨rfl, c4⟩) ⟨⟨_, rfl⟩, (by have h := heap_setCell_same _ _ 13 _ _ (.int .i64 (8 * (o : Int) + (L : Int))) HFr.out; rw [show ((8 * o + L : Nat) : Int) = 8 * (o : Int) + (L : Int) by omega]; exact h), ⟨_, Nat.le_refl _, (HBx.out _ (only_set _)).1⟩, (HBx.out _ (only_set _)).2⟩
    ·have c5 : mf = true ∨ (mf = false ∧ ¬ fin < 0) := by cases mf <;> simp_all
     rcases c5 with rfl | ⟨rfl, c4⟩
     all_goals
      go_wp2_with fail
      go_end0
      refine laidH_of (H' := H) (first' := first) (fin' := fin) (by exact if_neg (fun e => c1 (by have e1 : (o : Int) = 0 := e.1; omega))) (by exact if_neg (fun e => c1 (by have e1 : (o : Int) = 0 := e; omega))) (by first | (refine if_neg (fun e => ?_); cases e.1; done) | (refine if_neg (fun e => ?_); have := e.2; omega)) ⟨⟨_, rfl⟩, HFr.out, ⟨_, Nat.le_refl _, (HBx.out _ (GrowBut.refl _ _)).1⟩, (HBx.out _ (GrowBut.refl _ _)).2⟩
end
end Go.Proofs.YtgckhdepnmiejaaGreat
namespace Go.Proofs.YtgckhdepnmiejaaGreat
section
set_option maxRecDepth 100000
open Go.RowKit
open Go.Maps (Keyed)
theorem _root_.Go.RowKit.Below.mono0 {Hb : Nat} {a b w : World} (h : Below Hb a b) (e : w.heap.size = Hb) : Below w.heap.size a b := by rw [e]; exact h
theorem all_true {K : Nat → Bool} {c q : Nat} (h : c = 0 ↔ ∀ j, j < q → K j = true) (hK : K q = true) : c = 0 ↔ ∀ j, j < q + 1 → K j = true :=
 h.trans ⟨fun g j hj => by
  by_cases e : j = q
  ·rw [e]; exact hK
  ·exact g j (by omega), fun g j hj => g j (by omega)⟩
theorem all_false {K : Nat → Bool} {c q : Nat} (hK : K q = false) : c + 1 = 0 ↔ ∀ j, j < q + 1 → K j = true :=
 ⟨fun e => by omega, fun g => by have := g q (by omega); rw [hK] at this; cases this⟩
theorem all_end {K : Nat → Bool} {c q L : Nat} (h : c = 0 ↔ ∀ j, j < q → K j = true) (h1 : ¬ 8 * q < L) (h2 : 8 * q ≤ L + 7) : c = 0 ↔ ∀ j, 8 * j < L → K j = true :=
 h.trans ⟨fun g j hj => g j (by omega), fun g j hj => g j (by omega)⟩
def lenV : Value → Nat
 | .slice _ n _ => n
 | _ => 0
theorem ints_one (w : World) (x : Int) : IntsV .i64 (w.alloc (.cells #[.int .i64 x] 3)) (.slice (some ⟨w.heap.size, 0, none⟩) 1 1) [x] := by
 refine Or.inr ⟨w.heap.size, 0, 1, rfl, Nat.le_refl _, by unfold maxLen; omega, fun i hi => ?_⟩
 have h0 : i = 0 := by simp at hi; exact hi
 subst h0
 exact cell_new w [.int .i64 x] 3 0 _ rfl
theorem grow_ext {M : Nat → Prop} {w a b : World} (h : Grow w a) (k : GrowBut M a b) (hM : ∀ j, M j → w.heap.size ≤ j) : Grow w b :=
 ⟨k.os.trans h.os, k.tape.trans h.tape, k.output.trans h.output, Nat.le_trans h.size k.size, fun j hj => (k.block j (Nat.lt_of_lt_of_le hj h.size) (fun e => by have := hM j e; omega)).trans (h.block j hj)⟩
theorem but_grown {M : Nat → Prop} {a b c : World} {row : Option Nat} (h : GrowBut M a b) (k : b.grownBy c row) (hr : ∀ j, row = some j → a.heap.size ≤ j) : GrowBut M a c :=
 ⟨k.os.trans h.os, k.tape.trans h.tape, k.output.trans h.output, Nat.le_trans h.size k.size, fun j hj hn => (k.block j (Nat.lt_of_lt_of_le hj h.size) (fun e => by have := hr j e.symm; omega)).trans (h.block j hj hn)⟩
theorem PlG.kept {w w' : World} {H base g cap n : Nat} {row : Option Nat} (h : PlG w H base g cap n) (hg : w.grownBy w' row) (h1 : row ≠ some H) (h2 : row ≠ some g) : PlG w' H base g cap n := by
 obtain ⟨xs, k1, k2⟩ := h
 exact ⟨xs, (hg.block _ (lt_of_block k1) (fun e => h1 e.symm)).trans k1, World.ownsRow.kept k2 hg (Or.inr (fun e => h2 e.symm))⟩
/-- How many it tells, or none. -/
def MissR (w : World) (P : List Int) (K : Nat → Bool) (e : Ending) (w' : World) : Prop :=
 ∃ a cnt cap, e = .returned (.slice a cnt cap) ∧ (cnt = 0 ↔ ∀ j, 8 * j < P.length → K j = true) ∧ Grow w w'
set_option maxHeartbeats 4000000 in
theorem missing_any {w : World} {X m n base : Nat} {P : List Int} {K : Nat → Bool} {H : Hd} {first : Bool} (hF : FlowAt w X m H first P.length) (hA : AtMap w m n base P K) (hP : P.length ≤ 10000) :
  Calls Tryz.prog 49 #[.pointer (some ⟨X, 0, none⟩)] w (MissR w P K) := by
 have HF := Lib.hid hF
 have HA := Lib.hid hA
 obtain ⟨D, hD, _⟩ := hA
 have HD := Lib.hid hD
 obtain ⟨L, hL⟩ : ∃ L, P.length = L := ⟨_, rfl⟩
 rw [hL] at HF
 have HL := Lib.hid hL
 have hL1 : (L : Int) ≤ 10000 := by omega
 have hL2 : ¬ ((L : Int) < 0) := by omega
 obtain ⟨⟨f0, f1, f2, f3, f4, f5, f6⟩, f7, f8, f9, f10, f11, f12, f13⟩ := blkF HF.out
 clear hF hD hP hL
 go_enter Tryz.func49, Tryz.ntmps49
 go_wp2_with (at_range; refine wpList_range_own _ rfl _ 92 rfl 3 25 intKeyed Tryz.underlying92 anyElem m n D rfl HD.out ?_; intro w0 hrg0 hg0 hs0)
 have HRg := Lib.hid hrg0
 have HG0 : Hid (Grow w w0) := ⟨hg0.os, hg0.tape, hg0.output, hg0.size, fun k hk => hg0.block k hk (by simp)⟩
 obtain ⟨r, hr⟩ : ∃ x, w.heap.size = x := ⟨_, rfl⟩
 have HRr := Lib.hid hr
 rw [hr] at HRg ⊢
 clear hrg0 hg0 hs0 hr f0 f1 f2 f3 f4 f5 f6 f7 f8 f9 f10 f11 f12 f13
 go_loopw [3] (fun e3 wr => e3 = .int .i64 L ∧ ∃ left cnt, wr.ranges Tryz.prog 3 anyElem m r n D left cnt ∧ Grow w wr) (fun e3 wr => wr.rangeLeft m r)
 case atStart => exact ⟨rfl, _, _, HRg.out, HG0.out⟩
 case round =>
  obtain ⟨rfl, left, cnt, hrg, hg⟩ := hrel
  have HRr2 := Lib.hid hrg
  have HGr := Lib.hid hg
  have hff : FlowAt wr X m H first L := (hg.block _ (lt_of_block HF.out)).trans HF.out
  obtain ⟨⟨f0, f1, f2, f3, f4, f5, f6⟩, f7, f8, f9, f10, f11, f12, f13⟩ := blkF hff
  clear hrg hg hff
  go_wp2_with (at_next; refine wpList_next_ranges _ rfl _ rfl 3 intKeyed anyElem (Value.int .i64) (fun v : Value => v) (fun key kl hk => by obtain ⟨x, rfl, _⟩ := Maps.keyOf_int_inv Tryz.underlying3 hk; exact ⟨x, rfl⟩) (fun v y _ => ⟨v, rfl⟩) m r n D left cnt rfl HRr2.out ?_ ?_)
  ·intro _ _
   rename World => wA
   have HAr := Lib.hid (HA.out.mono HGr.out)
   have HGA := Lib.hid HGr.out
   have HFr : Hid (FlowAt wA X m H first L) := (HGr.out.block _ (lt_of_block HF.out)).trans HF.out
   clear f0 f1 f2 f3 f4 f5 f6 f7 f8 f9 f10 f11 f12 f13
   go_wp2_with fail
   obtain ⟨w1, hw1⟩ : ∃ x, wA.alloc (.cells #[.slice none 0 0] 150) = x := ⟨_, rfl⟩
   have hN := heap_alloc_new wA (.cells #[.slice none 0 0] 150)
   have hg1 : Grow wA (wA.alloc (.cells #[.slice none 0 0] 150)) := (Grow.refl wA).alloc _
   rw [hw1] at hN hg1 ⊢
   obtain ⟨Hb, hHb⟩ : ∃ x, wA.heap.size = x := ⟨_, rfl⟩
   have HHb := Lib.hid hHb
   rw [hHb] at hN ⊢
   have HP1 : Hid (Pl w1 Hb Hb 0) := ⟨_, [], hN, World.ownsRow_nil _ _ _ _⟩
   have HG1 := Lib.hid hg1
   have HS1 : Hid (Hb ≤ w1.heap.size) := Nat.le_of_lt (lt_of_block hN)
   clear hN hg1 hw1 hHb
   go_loopw [6] (fun k6 wr => ∃ q cnt : Nat, k6 = .int .i64 (q : Int) ∧ 8 * q ≤ L + 7 ∧ cnt ≤ q ∧ Pl wr Hb Hb cnt ∧ Below Hb w1 wr ∧ (cnt = 0 ↔ ∀ j, j < q → K j = true)) (fun k6 _ => L - (8 * intOf k6).toNat)
   case atStart => exact ⟨0, 0, rfl, by omega, by omega, HP1.out, Below.refl _ _, by simp⟩
   case round =>
    obtain ⟨q, cq, rfl, hq, hcq, hpq, hgq, hall⟩ := hrel
    have HPq := Lib.hid hpq
    have HGq : Hid (Grow wA wr) := by
     have h1 := HG1.out; have h2 := HHb.out
     exact Below.trans h1 (hgq.mono0 h2)
    have HBq := Lib.hid hgq
    have HAll := Lib.hid hall
    have HAq := Lib.hid (HAr.out.mono HGq.out)
    have hff : FlowAt wr X m H first L := (HGq.out.block _ (lt_of_block HFr.out)).trans HFr.out
    obtain ⟨⟨f0, f1, f2, f3, f4, f5, f6⟩, f7, f8, f9, f10, f11, f12, f13⟩ := blkF hff
    clear hpq hgq hall hff f1 f2 f3 f4 f5 f6 f7 f8 f9 f10 f11 f12 f13
    have hw8 : IntKind.i64.wrap (8 * (q : Int)) = 8 * (q : Int) := IntWalk.i64_in _ (by omega)
    by_cases hlt : 8 * q < L
    ·obtain ⟨d, hd⟩ : ∃ d, L - 8 * q = d := ⟨_, rfl⟩
     have hd1 : (L : Int) - 8 * (q : Int) = (d : Int) := by omega
     have hwd : IntKind.i64.wrap ((L : Int) - 8 * (q : Int)) = (d : Int) := by rw [hd1]; exact IntWalk.i64_in _ (by omega)
     obtain ⟨r8, hr8⟩ : ∃ r, min 8 d = r := ⟨_, rfl⟩
     have hm1 : (if (d : Int) < 8 then (d : Int) else 8) = (r8 : Int) := by split <;> omega
     have hpos : 0 < (r8 : Int) := by omega
     have hi1 : 8 * (q : Int) < (L : Int) := by omega
     have HBn : Hid ((Blk P q).length = r8) := by show _ = _; rw [Blk_length, HL.out, hd, hr8]
     cases hK : K q with
     | true =>
      obtain ⟨v, hv, hown⟩ := HAq.out.yes (k := q) (by omega) hK
      rw [HBn.out] at hown
      obtain ⟨va, vc, rfl, _, _⟩ := owns_shape hown
      have HKq := Lib.hid hK
      clear hown hK hd hr8 hlt hwd
      go_wp2_with fail
      exact ⟨⟨q + 1, cq, by simp, by omega, by omega, HPq.out, HBq.out, all_true HAll.out HKq.out⟩, by simp [intOf]; omega⟩
     | false =>
      have hv := HAq.out.no (k := q) (by omega) hK
      have HKq := Lib.hid hK
      clear hK hd hr8 hlt hwd
      go_wp2_with fail
      with_reducible refine (heap_push HPq.out (Nat.le_trans HS1.out HBq.out.size) (Nat.le_refl _) (by omega)).mono ?_
      rintro e w5 ⟨⟨u, rfl⟩, hp5, hg5⟩
      have HP5 := Lib.hid hp5
      have HG5 := Lib.hid (HBq.out.trans hg5)
      clear hp5 hg5
      go_wp2_with fail
      exact ⟨⟨q + 1, cq + 1, by simp, by omega, by omega, HP5.out, HG5.out, all_false HKq.out⟩, by simp [intOf]; omega⟩
    ·have HE := Lib.hid (all_end HAll.out hlt hq)
     have hi1 : ¬ (8 * (q : Int) < (L : Int)) := by omega
     clear hlt
     cases cq with
     | zero =>
      obtain ⟨v, xs, hpl, hpo⟩ := HPq.out
      have hvn : v = .slice none 0 0 ∨ ∃ g cap, v = .slice (some ⟨g, 0, none⟩) 0 cap := by
       rcases hpo.2 with ⟨e, _⟩ | ⟨g, cap, cur, e, _⟩
       ·exact Or.inl e
       ·exact Or.inr ⟨g, cap, e⟩
      have c0 := cell_of_one hpl
      have HR : Hid (MissR w P K (.returned (.slice none 0 0)) wr) := ⟨none, 0, 0, rfl, by rw [HL.out]; exact HE.out, HGA.out.trans HGq.out⟩
      clear hpl hpo
      rcases hvn with rfl | ⟨g, cap, rfl⟩
      all_goals
       go_wp2_with fail
       refine wp_loop_rounds 1 ?_
       rw [rounds_succ]
       go_wp2_with fail
       go_ret
       exact HR.out
     | succ c =>
      obtain ⟨g, cap, hpg⟩ := HPq.out.solid (by omega)
      rename World => wB
      have HPg := Lib.hid hpg
      have HGw : Hid (Grow w wB) := HGA.out.trans HGq.out
      have HCl : Hid (c + 1 ≤ 10000) := by show _ ≤ _; omega
      have hfa := hpg.facts
      have HFa : Hid (Hb < wB.heap.size ∧ g < wB.heap.size ∧ w.heap.size ≤ Hb ∧ w.heap.size ≤ g) := ⟨hfa.2.2.2.2.1, hfa.2.2.2.2.2, by have h1 := HHb.out; have h2 := HGA.out.size; omega, by have h1 := HHb.out; have h2 := HGA.out.size; have h3 := hfa.1; omega⟩
      have HRow0 : Hid (wB.ownsRow wB.heap.size 3 1 (.slice none 0 0) 0 (intsL [])) := World.ownsRow_nil _ _ _ _
      clear hpg hfa
      go_wp2_with fail
      go_loopw [7] (fun o7 wr => ∃ (v : Value) (xs : List Int) (c1 : Nat), o7 = v ∧ xs.length + c1 = c + 1 ∧ wr.ownsRow wB.heap.size 3 1 v xs.length (intsL xs) ∧ PlG wr Hb Hb g cap c1 ∧ GrowBut (Two Hb g) wB wr) (fun o7 _ => c + 1 - lenV o7)
      case atStart => exact ⟨_, [], c + 1, rfl, by simp, HRow0.out, HPg.out, GrowBut.refl _ _⟩
      case round =>
       obtain ⟨v, xs, c1, rfl, hc1, hrow, hpl, hgr⟩ := hrel
       obtain ⟨va, vc, rfl, _, _⟩ := owns_shape hrow
       have HRow := Lib.hid hrow
       have HPl := Lib.hid hpl
       have HGr3 := Lib.hid hgr
       have c0 := hpl.facts.2.2.2.1
       clear hrow hpl hgr
       cases c1 with
       | zero =>
        have HR : Hid (MissR w P K (.returned (.slice va xs.length vc)) wr) := ⟨va, xs.length, vc, rfl, by rw [HL.out]; exact ⟨fun e => by omega, fun h => by have := HE.out.2 h; omega⟩, grow_ext HGw.out HGr3.out (fun k e => by have := HFa.out; rcases e with e | e <;> omega)⟩
        go_wp2_with fail
        go_ret
        exact HR.out
       | succ c2 =>
        have hpos : (0 : Int) < ((c2 + 1 : Nat) : Int) := by omega
        obtain ⟨c3, hc3⟩ : ∃ c3, c2 + 1 = c3 := ⟨_, rfl⟩
        rw [hc3] at HPl c0 hpos hc1
        have HC3 := Lib.hid hc3
        clear hc3
        go_wp2_with fail
        with_reducible refine (heap_pop HPl.out HC3.out.symm (by have := HCl.out; omega)).mono ?_
        rintro e w5 ⟨⟨x, rfl⟩, hp5, hg5⟩
        have HP5 := Lib.hid hp5
        have HG5 := Lib.hid (HGr3.out.trans hg5)
        have HRow5 := Lib.hid (own_but HRow.out hg5 (fun k e => by have := HFa.out; rcases e with e | e <;> omega))
        have hta := assert_int x w5
        have HX := Lib.hid (ints_one w5 x)
        have HRow6 := Lib.hid (own_grow HRow5.out ((Grow.refl w5).alloc (.cells #[.int .i64 x] 3)))
        have HSz : Hid (wB.heap.size ≤ (w5.alloc (.cells #[.int .i64 x] 3)).heap.size) := by have h1 := HG5.out.size; show _ ≤ _; rw [World.size_alloc]; omega
        obtain ⟨i0, hi, hz0, hz1, hz2⟩ := info_parts infoI3
        clear hp5 hg5 c0
        go_wp2_with (at_builtin; refine wpList_append_ints (k := .i64) rfl _ _ 28 rfl wB.heap.size 3 i0 8 Tryz.underlying28 hi hz0 hz1 hz2 _ xs.length (intsL xs) rfl HRow6.out _ [x] rfl HX.out ?c3 ?c4 ?c5 ?_)
        case c3 => have := HCl.out; unfold maxLen; simp; omega
        case c4 => have := HCl.out; simp; omega
        case c5 => exact HSz.out
        intro v6 w6 ho6 hg6
        have ho7 : w6.ownsRow wB.heap.size 3 1 v6 (xs ++ [x]).length (intsL (xs ++ [x])) := by simpa [intsL] using ho6
        obtain ⟨vb, vd, rfl, _, _⟩ := owns_shape ho7
        have hblk : ∀ j, (Value.slice va xs.length vc).ownBlock = some j → wB.heap.size ≤ j := fun j hj => (World.ownsRow.lt HRow6.out j hj).1
        have HP6 : Hid (PlG w6 Hb Hb g cap c2) := PlG.kept (HP5.out.mono ((Grow.refl w5).alloc _)) hg6 (fun e => by have := hblk _ e; have := HFa.out; omega) (fun e => by have := hblk _ e; have := HFa.out; omega)
        have HG6 : Hid (GrowBut (Two Hb g) wB w6) := but_grown (HG5.out.trans (GrowBut.of_below ((Grow.refl w5).alloc _))) hg6 hblk
        have HO7 := Lib.hid ho7
        clear ho6 ho7 hg6 hblk hi hz0 hz1 hz2 hta
        go_wp2_with fail
        refine ⟨⟨_, xs ++ [x], c2, rfl, by have := HC3.out; simp; omega, HO7.out, HP6.out, HG6.out⟩, by simp [lenV]; omega⟩
  ·intro x c kl y1 y2 w2 cnt2 hkey hlk hv hat hrg2 hlt hgr hsz hen
   have HR2 := Lib.hid hrg2
   have HRd := Lib.hid HRr2.out
   have HG2 : Hid (Grow w w2) := by
    have h1 := HGr.out; have h2 := HRr.out
    exact ⟨hgr.os.trans h1.os, hgr.tape.trans h1.tape, hgr.output.trans h1.output, Nat.le_trans h1.size hgr.size, fun k hk => (hgr.block k (Nat.lt_of_lt_of_le hk h1.size) (fun e => by injection e with e; omega)).trans (h1.block k hk)⟩
   have HLe : Hid (w2.rangeLeft m r < wr.rangeLeft m r) := by show _ < _; rw [HR2.out.left_eq, HRd.out.left_eq]; omega
   have hff : FlowAt w2 X m H first L := (HG2.out.block _ (lt_of_block HF.out)).trans HF.out
   clear f0 f1 f2 f3 f4 f5 f6 f7 f8 f9 f10 f11 f12 f13 hkey hlk hv hat hrg2 hlt hgr hsz
   obtain ⟨⟨f0, f1, f2, f3, f4, f5, f6⟩, f7, f8, f9, f10, f11, f12, f13⟩ := blkF hff
   clear hff
   go_wp2_with fail
   exact ⟨⟨rfl, _, _, HR2.out, HG2.out⟩, HLe.out⟩
end
end Go.Proofs.YtgckhdepnmiejaaGreat
namespace Go.Proofs.YtgckhdepnmiejaaGreat
section
set_option maxRecDepth 100000
open Go.RowKit
/-- Not yet. -/
def NotYet (w : World) (e : Ending) (w' : World) : Prop := e = .returned (.tuple #[.slice none 0 0, .bool false, .int .i64 0]) ∧ Grow w w'
set_option maxHeartbeats 2000000 in
theorem whole_no {w : World} {X m : Nat} {H : Hd} {first : Bool} {fin : Int} (hF : FlowAt w X m H first fin) (h : first = false ∨ fin < 0) :
  Calls Tryz.prog 31 #[.pointer (some ⟨X, 0, none⟩)] w (NotYet w) := by
 have HG := Lib.hid (Grow.refl w)
 obtain ⟨⟨f0, f1, f2, f3, f4, f5, f6⟩, f7, f8, f9, f10, f11, f12, f13⟩ := blkF hF
 clear hF
 cases first with
 | false =>
  clear h
  go_enter Tryz.func31, Tryz.ntmps31
  go_wp2_with fail
  refine bodyPost_ret (v := .tuple #[.slice none 0 0, .bool false, .int .i64 0]) (by simp [results, Tryz.results31, go_sem]) rfl ⟨rfl, HG.out⟩
 | true =>
  have hf : fin < 0 := by rcases h with h | h; cases h; exact h
  clear h
  go_enter Tryz.func31, Tryz.ntmps31
  go_wp2_with fail
  refine bodyPost_ret (v := .tuple #[.slice none 0 0, .bool false, .int .i64 0]) (by simp [results, Tryz.results31, go_sem]) rfl ⟨rfl, HG.out⟩
set_option maxHeartbeats 2000000 in
theorem whole_wait {w : World} {X m n base : Nat} {P : List Int} {K : Nat → Bool} {H : Hd} (hF : FlowAt w X m H true P.length) (hA : AtMap w m n base P K) (hP : P.length ≤ 10000) (hK : ¬ ∀ j, 8 * j < P.length → K j = true) :
  Calls Tryz.prog 31 #[.pointer (some ⟨X, 0, none⟩)] w (NotYet w) := by
 have HM := Lib.hid (missing_any hF hA hP)
 have HK := Lib.hid hK
 have hl : ¬ ((P.length : Int) < 0) := by omega
 obtain ⟨L, hL⟩ : ∃ L, P.length = L := ⟨_, rfl⟩
 rw [hL] at hF hl
 obtain ⟨⟨f0, f1, f2, f3, f4, f5, f6⟩, f7, f8, f9, f10, f11, f12, f13⟩ := blkF hF
 clear hF hA hP hK hL
 go_enter Tryz.func31, Tryz.ntmps31
 go_wp2_with fail
 with_reducible refine HM.out.mono ?_
 rintro e w1 ⟨a, cnt, cap, rfl, hc, hg⟩
 have hpos : (0 : Int) < (cnt : Int) := by
  rcases Nat.eq_zero_or_pos cnt with h | h
  ·exact absurd (hc.1 h) HK.out
  ·omega
 have HG := Lib.hid hg
 clear hc hg
 go_wp2_with fail
 refine bodyPost_ret (v := .tuple #[.slice none 0 0, .bool false, .int .i64 0]) (by simp [results, Tryz.results31, go_sem]) rfl ⟨rfl, HG.out⟩
theorem take_blk (P : List Int) (q : Nat) : P.take (8 * q) ++ Blk P q = P.take (8 * (q + 1)) := by
 unfold Blk
 rw [show 8 * (q + 1) = 8 * q + 8 by omega, List.take_add]
def HeldRe (b0 : Nat) (zs : List Int) (u : Value) (x : World) : Prop := x.ownsRow b0 5 1 u zs.length (zs.map (Value.int .u8))
def TupRe (b0 : Nat) (zs : List Int) (u : Value) (x : World) : Prop := ∃ v, u = .tuple #[v, .int .i64 0] ∧ x.ownsRow b0 5 1 v zs.length (zs.map (Value.int .u8))
theorem TupRe.mono {b0 : Nat} {zs : List Int} {u : Value} {x x' : World} (h : TupRe b0 zs u x) (hg : Grow x x') : TupRe b0 zs u x' := by
 obtain ⟨v, e, hr⟩ := h
 exact ⟨v, e, own_grow hr hg⟩
/-- Put together. -/
def Together (w : World) (H : Hd) (P : List Int) (e : Ending) (w' : World) : Prop := ∃ v, e = .returned (.tuple #[v, .bool true, .int .i64 0]) ∧ NewBytes w (pkt { H with mf := false } P) v w'
set_option maxHeartbeats 8000000 in
theorem whole_yes {w : World} {X m n base : Nat} {P : List Int} {K : Nat → Bool} {H : Hd} (hF : FlowAt w X m H true P.length) (hA : AtMap w m n base P K) (hP : P.length ≤ 10000) (hP0 : 0 < P.length) (hPb : Bytes P) (hK : ∀ j, 8 * j < P.length → K j = true) (hok : HdOk w H) (hm : mayH H = true) (hl : 20 + H.os.length + P.length ≤ 65535) :
  Calls Tryz.prog 31 #[.pointer (some ⟨X, 0, none⟩)] w (Together w H P) := by
 have HM := Lib.hid (missing_any hF hA hP)
 have HK := Lib.hid hK
 have HF := Lib.hid hF
 have HA := Lib.hid hA
 have HPb := Lib.hid hPb
 have HBy : Hid (∀ x, Grow w x → ∀ u, BytesV x u P → Calls Tryz.prog 50 #[({ H with mf := false } : Hd).val, u] x fun e w' => ∃ v, e = .returned (.tuple #[v, .int .i64 0]) ∧ NewBytes x (pkt { H with mf := false } P) v w') := fun x hx u hu => by
  have h1 := hok.mono hx
  exact ipbytes_any { H with mf := false } P u x ⟨h1.tos, h1.id, h1.off, h1.ttl, h1.proto, h1.src, h1.dst, h1.body⟩ hm hu hl
 obtain ⟨va, vc, hve, _, _⟩ := hok.body.2.shape
 obtain ⟨L, hL⟩ : ∃ L, P.length = L := ⟨_, rfl⟩
 rw [hL] at hF HF hP hP0
 have HL := Lib.hid hL
 have hl1 : ¬ ((L : Int) < 0) := by omega
 obtain ⟨tos, id, evil, df, mf, of, ttl, proto, src, dst, hv, os⟩ := H
 dsimp only at hve
 subst hve
 have HRes : Hid (∀ e w', Together w ⟨tos, id, evil, df, mf, of, ttl, proto, src, dst, .slice va os.length vc, os⟩ P e w' → Together w ⟨tos, id, evil, df, mf, of, ttl, proto, src, dst, .slice va os.length vc, os⟩ P e w') := fun _ _ h => h
 obtain ⟨⟨f0, f1, f2, f3, f4, f5, f6⟩, f7, f8, f9, f10, f11, f12, f13⟩ := blkF hF
 clear hF hA hPb hok hm hl hK hL
 go_enter Tryz.func31, Tryz.ntmps31
 go_wp2_with fail
 with_reducible refine HM.out.mono ?_
 rintro e w1 ⟨a, cnt, cap, rfl, hc, hg⟩
 obtain rfl : cnt = 0 := hc.2 HK.out
 have HG1 := Lib.hid hg
 have HF1 : Hid (FlowAt w1 X m ⟨tos, id, evil, df, mf, of, ttl, proto, src, dst, .slice va os.length vc, os⟩ true L) := (hg.block _ (lt_of_block HF.out)).trans HF.out
 have HA1 := Lib.hid (HA.out.mono hg)
 clear hc hg HM f0 f1 f2 f3 f4 f5 f6 f7 f8 f9 f10 f11 f12 f13
 have HO1 : Hid (w1.ownsRow w1.heap.size 5 1 (.slice none 0 0) (P.take (8 * 0)).length ((P.take (8 * 0)).map (Value.int .u8))) := World.ownsRow_nil _ _ _ _
 go_wp2_with fail
 go_loopw [5, 6] (fun p5 k6 wr => ∃ q : Nat, k6 = .int .i64 (q : Int) ∧ 8 * q ≤ L + 7 ∧ wr.ownsRow w1.heap.size 5 1 p5 (P.take (8 * q)).length ((P.take (8 * q)).map (Value.int .u8)) ∧ Below w1.heap.size w1 wr) (fun _ k6 _ => L - (8 * intOf k6).toNat)
 case atStart => exact ⟨0, rfl, by omega, HO1.out, Below.refl _ _⟩
 case round =>
  obtain ⟨q, rfl, hq, hrow, hg⟩ := hrel
  have HRow := Lib.hid hrow
  have HGr := Lib.hid hg
  have HFr : Hid (FlowAt wr X m ⟨tos, id, evil, df, mf, of, ttl, proto, src, dst, .slice va os.length vc, os⟩ true L) := (hg.block _ (lt_of_block HF1.out)).trans HF1.out
  have HAr := Lib.hid (HA1.out.mono hg)
  obtain ⟨⟨f0, f1, f2, f3, f4, f5, f6⟩, f7, f8, f9, f10, f11, f12, f13⟩ := blkF HFr.out
  clear hrow hg
  have hw8 : IntKind.i64.wrap (8 * (q : Int)) = 8 * (q : Int) := IntWalk.i64_in _ (by omega)
  by_cases hlt : 8 * q < L
  ·have hi1 : 8 * (q : Int) < (L : Int) := by omega
   obtain ⟨v, hv, hown⟩ := HAr.out.yes (k := q) (by omega) (HK.out q (by rw [HL.out]; exact hlt))
   have HI := Lib.hid (ints_of_owns hown)
   obtain ⟨vb, vd, rfl, _, _⟩ := owns_shape hown
   have HBl : Hid ((Blk P q).length ≤ 8) := by show _ ≤ _; rw [Blk_length]; omega
   have HTl : Hid ((P.take (8 * q)).length ≤ 10000) := by show _ ≤ _; rw [List.length_take, HL.out]; omega
   obtain ⟨i0, hi, hz0, hz1, hz2⟩ := info_parts infoByte
   clear hown hlt
   go_wp2_with (at_builtin; refine wpList_append_ints (k := .u8) rfl _ _ 25 rfl w1.heap.size 5 i0 1 Tryz.underlying25 hi hz0 hz1 hz2 _ (P.take (8 * q)).length _ rfl HRow.out _ (Blk P q) rfl HI.out ?c3 ?c4 ?c5 ?_)
   case c3 => have := HBl.out; have := HTl.out; unfold maxLen; omega
   case c4 => have := HBl.out; have := HTl.out; omega
   case c5 => exact HGr.out.size
   intro v6 w6 ho6 hg6
   have HO6 : Hid (w6.ownsRow w1.heap.size 5 1 v6 (P.take (8 * (q + 1))).length ((P.take (8 * (q + 1))).map (Value.int .u8))) := by
    show World.ownsRow _ _ _ _ _ _ _
    rw [← take_blk, List.length_append, List.map_append]; simpa [List.map_take] using ho6
   have HG6 : Hid (Below w1.heap.size w1 w6) := HGr.out.grown hg6 HGr.out.size (fun k e => (World.ownsRow.lt HRow.out k e).1)
   clear ho6 hg6 hi hz0 hz1 hz2
   go_wp2_with fail
   refine ⟨⟨q + 1, by simp, by omega, HO6.out, HG6.out⟩, by simp [intOf]; omega⟩
  ·have hi1 : ¬ (8 * (q : Int) < (L : Int)) := by omega
   have HRe : Hid (wr.ownsRow w1.heap.size 5 1 u5 L (P.map (Value.int .u8))) := by
    have h := HRow.out
    rw [List.take_of_length_le (by rw [HL.out]; omega), HL.out] at h
    exact h
   obtain ⟨g, pc, pcur, rfl, _, _, hpc, hpm, _⟩ := own_row HRe.out (by omega)
   unfold maxLen at hpm
   have HRw := Lib.hid HRe.out
   have HGw : Hid (Grow w wr) := Below.trans HG1.out (HGr.out.mono HG1.out.size)
   have hx1 : (L : Int) ≤ (pc : Int) := by omega
   have hx2 : L ≤ pc := by omega
   clear hlt hq
   go_wp2_with fail
   obtain ⟨w7, hw7⟩ : ∃ x, wr.alloc (.cells #[.int .u8 tos, .int .u16 id, .bool evil, .bool df, .bool false, .int .i64 of, .int .u8 ttl, .int .u8 proto, .int .u32 src, .int .u32 dst, .slice va os.length vc] 27) = x := ⟨_, rfl⟩
   have hN := heap_alloc_new wr (.cells #[.int .u8 tos, .int .u16 id, .bool evil, .bool df, .bool false, .int .i64 of, .int .u8 ttl, .int .u8 proto, .int .u32 src, .int .u32 dst, .slice va os.length vc] 27)
   have hg7 : Grow wr (wr.alloc (.cells #[.int .u8 tos, .int .u16 id, .bool evil, .bool df, .bool false, .int .i64 of, .int .u8 ttl, .int .u8 proto, .int .u32 src, .int .u32 dst, .slice va os.length vc] 27)) := (Grow.refl wr).alloc _
   rw [hw7] at hN hg7 ⊢
   obtain ⟨N, hNN⟩ : ∃ x, wr.heap.size = x := ⟨_, rfl⟩
   rw [hNN] at hN ⊢
   have HN7 := Lib.hid hN
   have HF7 : Hid (FlowAt w7 X m ⟨tos, id, evil, df, mf, of, ttl, proto, src, dst, .slice va os.length vc, os⟩ true L) := (hg7.block _ (lt_of_block HFr.out)).trans HFr.out
   have HG7 := Lib.hid (HGw.out.trans hg7)
   have HI7 : Hid (BytesV w7 (.slice (some ⟨g, 0, none⟩) L pc) P) := ⟨HPb.out, (ints_of_owns HRw.out).mono hg7⟩
   clear hN hg7 hw7 hNN f0 f1 f2 f3 f4 f5 f6 f7 f8 f9 f10 f11 f12 f13
   refine wpRg 13 ?_
   simp only [List.take_succ_cons, List.take_zero, List.drop_succ_cons, List.drop_zero]
   refine wpHd (.agg #[.int .u8 tos, .int .u16 id, .bool evil, .bool df, .bool false, .int .i64 of, .int .u8 ttl, .int .u8 proto, .int .u32 src, .int .u32 dst, .slice va os.length vc]) (fun w' hg => ?_) ?_
   ·obtain ⟨⟨d0, d1, d2, d3, d4, d5⟩, d6, d7, d8, d9, d10⟩ := blkH ((hg.below.block _ (lt_of_block HN7.out)).trans HN7.out)
    clear hg
    go_simp
    exact Below.refl _ _
   try go_simp
   repeat (refine wpHp fun K hK => ?_; go_simp; refine hK _ ?_; clear hK K)
   refine wpHd (.int .i64 L) (fun w' hg => ?_) ?_
   ·have hff : FlowAt w' X m ⟨tos, id, evil, df, mf, of, ttl, proto, src, dst, .slice va os.length vc, os⟩ true L := (hg.below.block _ (lt_of_block HF7.out)).trans HF7.out
    obtain ⟨⟨y0, y1, y2, y3, y4, y5, y6⟩, y7, y8, y9, y10, y11, y12, y13⟩ := blkF hff
    clear hg hff
    go_simp
    exact Below.refl _ _
   try go_simp
   repeat (refine wpHp fun K hK => ?_; go_simp; refine hK _ ?_; clear hK K)
   refine wpH_hid' (TupRe w7.heap.size (pkt ⟨tos, id, evil, df, false, of, ttl, proto, src, dst, .slice va os.length vc, os⟩ P)) (by intro _ _ h; cases h) rfl (by rfl) (fun u x x' hg h => h.mono hg.below) (by rfl) (by rfl) (fun w' hg => ?_) ?_
   ·have h := HBy.out w' (HG7.out.trans hg.below) _ (HI7.out.mono hg.below)
    have HS := Lib.hid hg.below.size
    unfold Hd.val Hd.cells hdCells at h
    dsimp only at h
    clear hg
    go_simp
    with_reducible refine h.mono ?_
    rintro e w1 ⟨v, rfl, hr⟩
    exact ⟨_, rfl, ⟨v, rfl, own_less1 hr.1 HS.out⟩, hr.2⟩
   try go_simp
   refine wpH_hid (TupRe w7.heap.size (pkt ⟨tos, id, evil, df, false, of, ttl, proto, src, dst, .slice va os.length vc, os⟩ P)) rfl (by rfl) (fun u x x' hg h => h.mono hg.below) (fun xs => by rfl) (fun xs w' hg hf => ?_) ?_
   ·have h1 := hf _ (List.Mem.head _) (by rfl)
    try dsimp only at h1
    simp only [fill]
    generalize xs 58 = y at *
    clear hf hg
    obtain ⟨u, rfl, ho⟩ := h1
    have HO := Lib.hid ho
    clear ho
    go_simp
    exact ⟨⟨u, rfl, HO.out⟩, Below.refl _ _⟩
   try go_simp
   refine wpH_hid (HeldRe w7.heap.size (pkt ⟨tos, id, evil, df, false, of, ttl, proto, src, dst, .slice va os.length vc, os⟩ P)) rfl (by rfl) (fun u x x' hg h => own_grow h hg.below) (fun xs => by rfl) (fun xs w' hg hf => ?_) ?_
   ·have h1 := hf _ (List.Mem.head _) (by rfl)
    try dsimp only at h1
    simp only [fill]
    generalize xs 50 = y at *
    clear hf hg
    obtain ⟨u, rfl, ho⟩ := h1
    have HO := Lib.hid ho
    clear ho
    go_simp
    exact ⟨HO.out, Below.refl _ _⟩
   try go_simp
   refine wpH_det (.int .i64 0) (by rfl) (fun xs => by rfl) (fun xs w' hg hf => ?_) ?_
   ·have h1 := hf _ (List.Mem.tail _ (List.Mem.head _)) (by rfl)
    try dsimp only at h1
    simp only [fill]
    generalize xs 50 = y at *
    clear hf hg
    obtain ⟨u, rfl, ho⟩ := h1
    clear ho
    go_simp
    exact Below.refl _ _
   try go_simp
   refine wpH_hid (HeldRe w7.heap.size (pkt ⟨tos, id, evil, df, false, of, ttl, proto, src, dst, .slice va os.length vc, os⟩ P)) rfl (by rfl) (fun u x x' hg h => own_grow h hg.below) (fun xs => by rfl) (fun xs w' hg hf => ?_) ?_
   ·have h1 := hf _ (List.Mem.head _) (by rfl)
    try dsimp only at h1
    simp only [fill]
    generalize xs 59 = y at *
    clear hf hg
    have HO := Lib.hid h1
    clear h1
    go_simp
    exact ⟨HO.out, Below.refl _ _⟩
   try go_simp
   repeat (refine wpHp fun K hK => ?_; go_simp; refine hK _ ?_; clear hK K)
   refine wpH_nil ?_
   intro xs w8 hg hx1 hx2
   have h8 := hx2 _ _ (List.Mem.head _)
   try dsimp only at h8
   have h8' : w8.ownsRow w7.heap.size 5 1 (xs 8) (pkt ⟨tos, id, evil, df, false, of, ttl, proto, src, dst, .slice va os.length vc, os⟩ P).length ((pkt ⟨tos, id, evil, df, false, of, ttl, proto, src, dst, .slice va os.length vc, os⟩ P).map (Value.int .u8)) := h8
   have HO8 := Lib.hid (own_less1 h8' HG7.out.size)
   have HG8 := Lib.hid (HG7.out.trans hg.below)
   clear hg hx1 hx2 h8 h8'
   simp only [fill]
   generalize xs 8 = y8 at *
   generalize xs 59 = y59 at *
   generalize xs 50 = y50 at *
   generalize xs 58 = y58 at *
   try go_simp
   go_wp2_with fail
   refine bodyPost_ret (v := .tuple #[y8, .bool true, .int .i64 0]) (by simp [results, Tryz.results31, go_sem]) rfl ⟨y8, rfl, HO8.out, HG8.out⟩
end
end Go.Proofs.YtgckhdepnmiejaaGreat
namespace Go.Proofs.YtgckhdepnmiejaaGreat
section
set_option maxRecDepth 100000
open Go.RowKit
open Go.Maps (Keyed)
theorem laidOutT : laidOutB Tryz.prog = true := by kernel_rfl
theorem pieceRow : (89 : TypeId) < Tryz.prog.types.size := of_decide_eq_true (by kernel_rfl)
theorem pieceWide : (match Tryz.prog.underlying 89 with | some (.array _ _) | some (.struct _) => true | _ => false) = true := by kernel_rfl
theorem pieceLaw : WideMaps.KeyLaw Tryz.prog 89 := deep_law_laid laidOutT (m := 4) (by omega) pieceRow (by kernel_rfl) pieceWide
theorem pieceKeyed : Keyed Tryz.prog 89 := Keyed.of_law pieceLaw
theorem size_lit : ∃ n, Tryz.prog.types.size + 1 = n + 3 := ⟨Tryz.prog.types.size - 2, by have : 2 ≤ Tryz.prog.types.size := of_decide_eq_true (by kernel_rfl); omega⟩
def pieceV (src dst proto id : Int) : Value := .agg #[.int .u32 src, .int .u32 dst, .int .u8 proto, .int .u16 id]
theorem lits_24 (n : Nat) {x : Int} (h : (Lit.int .u32 x).wf = true) : Tryz.prog.keyLits (n + 1) 24 [.int .u32 x] = some [.int .u32 x] := by
 unfold Program.keyLits
 rw [Tryz.underlying24]
 simp [h]
theorem lits_5 (n : Nat) {x : Int} (h : (Lit.int .u8 x).wf = true) : Tryz.prog.keyLits (n + 1) 5 [.int .u8 x] = some [.int .u8 x] := by
 unfold Program.keyLits
 rw [Tryz.underlying5]
 simp [h]
theorem lits_22 (n : Nat) {x : Int} (h : (Lit.int .u16 x).wf = true) : Tryz.prog.keyLits (n + 1) 22 [.int .u16 x] = some [.int .u16 x] := by
 unfold Program.keyLits
 rw [Tryz.underlying22]
 simp [h]
theorem wf_u32' {n : Int} (h : U32 n) : (Lit.int .u32 n).wf = true := by unfold U32 at h; simp [Lit.wf, IntKind.min, IntKind.max, IntKind.signed, IntKind.bits]; omega
theorem wf_u16' {n : Int} (h : U16 n) : (Lit.int .u16 n).wf = true := by unfold U16 at h; simp [Lit.wf, IntKind.min, IntKind.max, IntKind.signed, IntKind.bits]; omega
theorem wf_u8' {n : Int} (h : U8 n) : (Lit.int .u8 n).wf = true := by unfold U8 at h; simp [Lit.wf, IntKind.min, IntKind.max, IntKind.signed, IntKind.bits]; omega
theorem piece_formed (a b c d : Int) : Value.formed Tryz.prog 89 (pieceV a b c d) = true := by
 have k : Tryz.prog.cellsOf 89 = 4 := by kernel_rfl
 simp [Value.formed, Tryz.underlying89, k, pieceV]
theorem piece_key {a b c d : Int} (h1 : U32 a) (h2 : U32 b) (h3 : U8 c) (h4 : U16 d) : ∃ kl, keyOf Tryz.prog 89 (pieceV a b c d) = some kl := by
 have kt : Tryz.prog.keyType 89 = true := by kernel_rfl
 obtain ⟨n, hn⟩ := size_lit
 have k89 : Tryz.prog.cellsOf 89 = 4 := by kernel_rfl
 have k24 : Tryz.prog.cellsOf 24 = 1 := by kernel_rfl
 have k5 : Tryz.prog.cellsOf 5 = 1 := by kernel_rfl
 have k22 : Tryz.prog.cellsOf 22 = 1 := by kernel_rfl
 unfold keyOf
 rw [Tryz.underlying89]
 dsimp only
 rw [kt, piece_formed, hn]
 have e : (pieceV a b c d).cells.toList = [.int .u32 a, .int .u32 b, .int .u8 c, .int .u16 d] := rfl
 rw [e]
 unfold Program.keyLits
 rw [Tryz.underlying89]
 simp [k89, k24, k5, k22, lits_24 (n + 1) (wf_u32' h1), lits_24 (n + 1) (wf_u32' h2), lits_5 (n + 1) (wf_u8' h3), lits_22 (n + 1) (wf_u16' h4)]
theorem zero91 (w : World) : (zeroValue 91).run Tryz.prog w = .ok (.pointer none) w := by kernel_rfl
set_option maxHeartbeats 1000000 in
theorem key_any (h : Hd) (w : World) (hok : HdOk w h) : Calls Tryz.prog 29 #[h.val] w fun e w' => e = .returned (pieceV h.src h.dst h.proto h.id) ∧ Grow w w' := by
 obtain ⟨va, vc, hve, _, _⟩ := hok.body.2.shape
 obtain ⟨tos, id, evil, df, mf, off, ttl, proto, src, dst, v, os⟩ := h
 dsimp only at hve
 subst hve
 have HG : Hid (Grow w ((w.alloc (.cells #[.int .u8 tos, .int .u16 id, .bool evil, .bool df, .bool mf, .int .i64 off, .int .u8 ttl, .int .u8 proto, .int .u32 src, .int .u32 dst, .slice va os.length vc] 27)).alloc (.cells #[.int .u32 src, .int .u32 dst, .int .u8 proto, .int .u16 id] 89))) := ((Grow.refl w).alloc _).alloc _
 have hs : (w.alloc (.cells #[.int .u8 tos, .int .u16 id, .bool evil, .bool df, .bool mf, .int .i64 off, .int .u8 ttl, .int .u8 proto, .int .u32 src, .int .u32 dst, .slice va os.length vc] 27)).heap.size = w.heap.size + 1 := World.size_alloc _ _
 have hT := heap_alloc_new (w.alloc (.cells #[.int .u8 tos, .int .u16 id, .bool evil, .bool df, .bool mf, .int .i64 off, .int .u8 ttl, .int .u8 proto, .int .u32 src, .int .u32 dst, .slice va os.length vc] 27)) (.cells #[.int .u32 src, .int .u32 dst, .int .u8 proto, .int .u16 id] 89)
 rw [hs] at hT
 have HT := Lib.hid hT
 clear hT
 unfold Hd.val Hd.cells hdCells pieceV
 dsimp only
 clear hok
 go_enter Tryz.func29, Tryz.ntmps29
 go_wp2_with fail
 obtain ⟨⟨c0, c1, c2, c3⟩, _⟩ := blk4 HT.out
 refine bodyPost_ret (v := .agg #[.int .u32 src, .int .u32 dst, .int .u8 proto, .int .u16 id]) (by simp [results, Tryz.results29, go_sem, c0, c1, c2, c3]) rfl ⟨rfl, HG.out⟩
def TabAt (w : World) (T F : Nat) : Prop := w.heap[T]? = some (.cells #[.map (some F)] 85 (0, 0))
set_option maxHeartbeats 1000000 in
theorem rthere {w : World} {T F : Nat} (h : TabAt w T F) : Calls Tryz.prog 25 #[.pointer (some ⟨T, 0, none⟩)] w fun e w' => e = .returned (.bool true) ∧ w' = w := by
 have c0 := cell_of_one (show w.heap[T]? = _ from h)
 have hn : ∀ W : World, (binOp .neq 83 (.map (some F)) (.map none)).run Tryz.prog W = .ok (.bool true) W := fun W => by kernel_rfl
 clear h
 go_enter Tryz.func25, Tryz.ntmps25
 go_wp2_with fail
 go_ret
 exact ⟨by first | rfl | simp, rfl⟩
/-- A table of which nothing was taken. -/
structure NewTab (w : World) (T F : Nat) (w' : World) : Prop where
 tab : TabAt w' T F
 none : w'.ownsMap Tryz.prog 89 anyElem F 0 (.map [])
 le : w.heap.size ≤ T ∧ w.heap.size ≤ F
 grow : Grow w w'
set_option maxHeartbeats 1000000 in
theorem rnew (w : World) : Calls Tryz.prog 9 #[] w fun e w' => ∃ T F, e = .returned (.pointer (some ⟨T, 0, none⟩)) ∧ NewTab w T F w' := by
 have hmm := @run_makeMap Tryz.prog
 have HM := Lib.hid (World.ownsMap_made w Tryz.prog 89 anyElem)
 have hs : (w.alloc (.map #[] 0)).heap.size = w.heap.size + 1 := World.size_alloc _ _
 have hT := heap_alloc_new (w.alloc (.map #[] 0)) (.cells #[.map (some w.heap.size)] 85)
 rw [hs] at hT
 have HT := Lib.hid hT
 have HG : Hid (Grow w ((w.alloc (.map #[] 0)).alloc (.cells #[.map (some w.heap.size)] 85))) := ((Grow.refl w).alloc _).alloc _
 have HG2 : Hid (Grow (w.alloc (.map #[] 0)) ((w.alloc (.map #[] 0)).alloc (.cells #[.map (some w.heap.size)] 85))) := (Grow.refl _).alloc _
 clear hT
 go_enter Tryz.func9, Tryz.ntmps9
 go_wp2_with fail
 refine bodyPost_ret (v := .pointer (some ⟨w.heap.size + 1, 0, none⟩)) (by simp [results, Tryz.results9, go_sem, hs]) rfl ?_
 exact ⟨_, w.heap.size, rfl, HT.out, owns_but HM.out (GrowBut.of_below (M := NoBlock) HG2.out) (fun e => e), ⟨Nat.le_succ _, Nat.le_refl _⟩, HG.out⟩
end
end Go.Proofs.YtgckhdepnmiejaaGreat
namespace Go.Proofs.YtgckhdepnmiejaaGreat
section
set_option maxRecDepth 100000
open Go.RowKit
open Go.Maps (Keyed)
/-- What was taken. -/
structure FS where
 H : Hd
 first : Bool
 fin : Int
 K : Nat → Bool
def FS.zero : FS := ⟨⟨0, 0, false, false, false, 0, 0, 0, 0, 0, .slice none 0 0, []⟩, false, -1, fun _ => false⟩
def FS.lay (s : FS) (h : Hd) (o L : Nat) : FS :=
 ⟨if h.off = 0 ∧ s.first = false then h else s.H, if h.off = 0 then true else s.first, if h.mf = false ∧ s.fin < 0 then ((8 * o + L : Nat) : Int) else s.fin, layN s.K o ((L + 7) / 8)⟩
def FS.whole (s : FS) (P : List Int) : Prop := s.first = true ∧ s.fin = P.length ∧ ∀ j, 8 * j < P.length → s.K j = true
/-- A flow in memory, and what it says. -/
structure FlowSt (w : World) (B0 N X m base n : Nat) (P : List Int) (s : FS) : Prop where
 flow : FlowAt w X m s.H s.first s.fin
 map : AtMap w m n base P s.K
 n : n ≤ N
 lt : X < base ∧ m < base ∧ base ≤ w.heap.size
 ge : B0 ≤ X ∧ B0 ≤ m
 head : s.first = true → HdOk w s.H ∧ mayH s.H = true
 fin : s.fin = -1 ∨ s.fin = P.length
 shape : ∃ a k c, s.H.v = .slice a k c
/-- Bytes by fours lie in no flow's own cells, nor in a map. -/
theorem flow_bytes {w w' : World} {X m n base : Nat} {P : List Int} {K : Nat → Bool} {H : Hd} {first : Bool} {fin : Int} {v : Value} {os : List Int} (hF : FlowAt w X m H first fin) (hA : AtMap w m n base P K) (h : BytesV w v os) (h4 : os.length % 4 = 0) (hv : ∃ a k c, H.v = .slice a k c)
  (hg : GrowBut (fun j => j = m ∨ j = X) w w') : BytesV w' v os := by
 refine ⟨h.1, ?_⟩
 rcases h.2 with h2 | ⟨b, off, cap, e, h1, h2, h3⟩
 ·exact Or.inl h2
 ·by_cases hl : os.length = 0
  ·exact Or.inr ⟨b, off, cap, e, h1, h2, fun i hi => by omega⟩
  ·refine Or.inr ⟨b, off, cap, e, h1, h2, fun i hi => hg.cell (h3 i hi) (fun hb => ?_)⟩
   obtain ⟨D, ⟨es, clock, hm, _⟩, _⟩ := hA
   obtain ⟨va, vk, vc, hv⟩ := hv
   unfold FlowAt at hF
   rw [hv] at hF
   have a0 := h3 0 (by omega)
   have a1 := h3 1 (by omega)
   have a2 := h3 2 (by omega)
   have hb' : b = m ∨ b = X := hb
   rcases hb' with rfl | rfl
   ·simp [World.cell?, hm] at a0
   ·have hoff : off < 14 := by
     rcases Nat.lt_or_ge off 14 with h' | h'
     ·exact h'
     ·simp [World.cell?, hF, Array.getElem?_eq_none (show (#[Value.map (some m), .int .u8 H.tos, .int .u16 H.id, .bool H.evil, .bool H.df, .bool H.mf, .int .i64 H.off, .int .u8 H.ttl, .int .u8 H.proto, .int .u32 H.src, .int .u32 H.dst, .slice va vk vc, .bool first, .int .i64 fin] : Array Value).size ≤ off by simpa using h')] at a0
    have : off = 0 ∨ off = 1 ∨ off = 2 ∨ off = 3 ∨ off = 4 ∨ off = 5 ∨ off = 6 ∨ off = 7 ∨ off = 8 ∨ off = 9 ∨ off = 10 ∨ off = 11 ∨ off = 12 ∨ off = 13 := by omega
    rcases this with rfl | rfl | rfl | rfl | rfl | rfl | rfl | rfl | rfl | rfl | rfl | rfl | rfl | rfl <;> simp [World.cell?, hF] at a0 a1 a2
/-- Bytes lie in no map. -/
theorem map_bytes {w w' : World} {Ht : Type} {k : TypeId} {R : Value → Option (DataW Ht × List MemPlace)} {b n : Nat} {D : DataW Ht} {v : Value} {os : List Int} (hD : w.ownsMap Tryz.prog k R b n D) (h : BytesV w v os) (hg : GrowBut (fun j => j = b) w w') : BytesV w' v os := by
 obtain ⟨es, clock, hm, _⟩ := hD
 refine ⟨h.1, ?_⟩
 rcases h.2 with h2 | ⟨b', off, cap, e, h1, h2, h3⟩
 ·exact Or.inl h2
 ·exact Or.inr ⟨b', off, cap, e, h1, h2, fun i hi => hg.cell (h3 i hi) (fun e => by
   have e : b' = b := e
   have h4 := h3 i hi
   rw [e] at h4
   simp [World.cell?, hm] at h4)⟩
/-- A table, and what it has taken of a key. -/
structure TabSt (w : World) (T F B0 : Nat) : Prop where
 tab : TabAt w T F
 ge : B0 ≤ w.heap.size
/-- What stood before is kept, but for a map. -/
abbrev BelowF (F b : Nat) (w w' : World) : Prop := GrowBut (fun k => k = F ∨ b ≤ k) w w'
/-- .. nothing. -/
def TabNone (w : World) (T F B0 : Nat) : Prop := TabSt w T F B0 ∧ w.ownsMap (H := Value) Tryz.prog 89 anyElem F 0 (.map [])
/-- .. a flow. -/
def TabSome (w : World) (T F B0 N : Nat) (kl : Lit) (P : List Int) (s : FS) : Prop :=
 TabSt w T F B0 ∧ ∃ (D : DataW Value) (X m base n : Nat), w.ownsMap Tryz.prog 89 anyElem F 1 D ∧ (∀ z, D.atKey kl z = .held (.pointer (some ⟨X, 0, none⟩))) ∧ FlowSt w B0 N X m base n P s ∧ F ≠ m
theorem may_four {h : Hd} (hm : mayH h = true) : h.os.length % 4 = 0 := (of_decide_eq_true hm : MayH h).2.2.1
/-- What laying leaves. -/
def LaidSt (w : World) (B0 N X m base : Nat) (P : List Int) (s : FS) (e : Ending) (w' : World) : Prop := (∃ v, e = .returned v) ∧ (∃ n, FlowSt w' B0 N X m base n P s) ∧ GrowBut (fun j => j = m ∨ j = X) w w'
theorem lay_st {w : World} {B0 N X m base n : Nat} {P : List Int} {s : FS} (f : FlowSt w B0 N X m base n P s) {h : Hd} {u : Value} {pl : List Int} {o L : Nat} (hN : N ≤ 900000) (hk : HdOk w h) (hm : mayH h = true) (ho : h.off = o) (ho2 : o ≤ 9000) (hu : BytesV w u pl) (hL : pl.length = L) (hL1 : 0 < L) (hL2 : L ≤ 2000)
  (hP : ∀ q, 8 * q < L → Blk P (o + q) = (pl.drop (8 * q)).take 8) (hend : h.mf = false → 8 * o + L = P.length) :
  Calls Tryz.prog 30 #[.pointer (some ⟨X, 0, none⟩), h.val, u] w (LaidSt w B0 (N + 300) X m base P (s.lay h o L)) := by
 refine (lay_any f.flow f.map (by have := f.n; omega) f.lt.1 f.lt.2.1 f.lt.2.2 hk ho ho2 hu hL hL1 (by omega) hP).mono ?_
 rintro e w' ⟨hv, hF, ⟨n', hn', hA⟩, hg⟩
 have h4 := may_four hm
 have hb : ∀ (v : Value) (os : List Int), BytesV w v os → os.length % 4 = 0 → BytesV w' v os := fun v os h1 h2 => flow_bytes f.flow f.map h1 h2 f.shape hg
 have hok : ∀ (k : Hd), HdOk w k → mayH k = true → HdOk w' k := fun k h1 h2 => ⟨h1.tos, h1.id, h1.off, h1.ttl, h1.proto, h1.src, h1.dst, hb _ _ h1.body (may_four h2)⟩
 refine ⟨hv, ⟨n', hF, hA, by have := f.n; omega, ⟨f.lt.1, f.lt.2.1, Nat.le_trans f.lt.2.2 hg.size⟩, f.ge, ?_, ?_, ?_⟩, hg⟩
 ·intro hfirst
  unfold FS.lay at hfirst ⊢
  dsimp only at hfirst ⊢
  by_cases c : h.off = 0 ∧ s.first = false
  ·rw [if_pos c]; exact ⟨hok h hk hm, hm⟩
  ·rw [if_neg c]
   have hs : s.first = true := by
    cases hs : s.first with
    | true => rfl
    | false =>
     by_cases c0 : h.off = 0
     ·exact absurd ⟨c0, hs⟩ c
     ·rw [if_neg c0] at hfirst; rw [← hfirst, hs]
   have := f.head hs
   exact ⟨hok _ this.1 this.2, this.2⟩
 ·unfold FS.lay
  dsimp only
  by_cases c : h.mf = false ∧ s.fin < 0
  ·rw [if_pos c, hend c.1]; exact Or.inr rfl
  ·rw [if_neg c]; exact f.fin
 ·unfold FS.lay
  dsimp only
  by_cases c : h.off = 0 ∧ s.first = false
  ·rw [if_pos c]
   obtain ⟨a, c, e, _, _⟩ := hk.body.2.shape
   exact ⟨a, _, c, e⟩
  ·rw [if_neg c]; exact f.shape
/-- Whole, or not yet. -/
def WholeR (w : World) (P : List Int) (s : FS) (e : Ending) (w' : World) : Prop := (s.whole P ∧ Together w s.H P e w') ∨ (¬ s.whole P ∧ NotYet w e w')
theorem whole_st {w : World} {B0 N X m base n : Nat} {P : List Int} {s : FS} (f : FlowSt w B0 N X m base n P s) (hP : P.length ≤ 10000) (hP0 : 0 < P.length) (hPb : Bytes P) :
  Calls Tryz.prog 31 #[.pointer (some ⟨X, 0, none⟩)] w (WholeR w P s) := by
 by_cases hw : s.whole P
 ·obtain ⟨h1, h2, h3⟩ := hw
  have hF := f.flow
  rw [h1, h2] at hF
  obtain ⟨hok, hm⟩ := f.head h1
  refine (whole_yes hF f.map hP hP0 hPb h3 hok hm (by have := (of_decide_eq_true hm : MayH s.H).2.1; omega)).mono ?_
  intro e w' h
  exact Or.inl ⟨⟨h1, h2, h3⟩, h⟩
 ·by_cases hc : s.first = true ∧ s.fin = P.length
  ·have hF := f.flow
   rw [hc.1, hc.2] at hF
   refine (whole_wait hF f.map hP (fun h => hw ⟨hc.1, hc.2, h⟩)).mono ?_
   intro e w' h
   exact Or.inr ⟨hw, h⟩
  ·refine (whole_no f.flow ?_).mono ?_
   ·cases hs : s.first with
    | false => exact Or.inl rfl
    | true =>
     right
     rcases f.fin with h | h
     ·omega
     ·exact absurd ⟨hs, h⟩ hc
   ·intro e w' h
    exact Or.inr ⟨hw, h⟩
end
end Go.Proofs.YtgckhdepnmiejaaGreat
