/- A packet that is no piece is taken: Table.Take (and what stands on it). -/
import Derived.Test.YtgckhdepnmiejaaGreatZ05
import Derived.Test.YtgckhdepnmiejaaGreatZ10
import Derived.Test.YtgckhdepnmiejaaGreatZ11
import Derived.Test.YtgckhdepnmiejaaGreatZ17
import Derived.Test.YtgckhdepnmiejaaGreatZ19
import Derived.Test.YtgckhdepnmiejaaGreatZ20
set_option linter.unusedVariables false
set_option linter.unusedSimpArgs false
namespace Go.Proofs.YtgckhdepnmiejaaGreat
section
set_option maxRecDepth 100000
open Go.RowKit
def TookW (w : World) (zs : List Int) (e : Ending) (w' : World) : Prop := ∃ u, e = .returned (.tuple #[u, .int .i64 0]) ∧ NewBytes w zs u w'
set_option maxHeartbeats 4000000 in
theorem take_plain {w : World} {T F b off L cap Z S : Nat} {zs pl : List Int} {h : Hd} (p : PktAt w b off L cap Z S zs h pl) (hL : L ≤ 2048) (hpc : isPiece h = false) (ht : TabAt w T F) :
  Calls Tryz.prog 10 #[.pointer (some ⟨T, 0, none⟩), .slice (some ⟨b, off, none⟩) L cap] w (TookW w zs) := by
 have hz := p.z; have hlz := p.lz; have hcap := p.capL; have hcm := p.capM
 have HL : Hid (20 + h.os.length + pl.length = L) := by show _ = _; omega
 have hsum : (20 : Int) + (h.os.length : Int) + (pl.length : Int) = (L : Int) := by omega
 have HPar : Hid (∀ x, Grow w x → Calls Tryz.prog 11 #[.slice (some ⟨b, off, none⟩) L cap] x (Parsed h pl x)) := fun x hx => parse_any (p.mono hx) (by omega)
 have HCl : Hid (∀ x, Grow w x → Calls Tryz.prog 27 #[.slice (some ⟨b, off, none⟩) L cap] x fun e w' => ∃ u, e = .returned u ∧ NewBytes x zs u w') := fun x hx => clone_any (p.mono hx).bytes (by omega)
 have HT := Lib.hid ht
 have hm := p.raw.may
 have HM := Lib.hid hm
 obtain ⟨tos, id, evil, df, mf, of, ttl, proto, src, dst, v0, os⟩ := h
 have HPc := Lib.hid hpc
 dsimp only at hsum
 obtain ⟨ol, hol⟩ : ∃ x, os.length = x := ⟨_, rfl⟩
 obtain ⟨Lp, hLp⟩ : ∃ x, pl.length = x := ⟨_, rfl⟩
 rw [hol, hLp] at hsum
 have HOl := Lib.hid hol
 have HLp := Lib.hid hLp
 have hw1 : IntKind.i64.wrap ((20 : Int) + (ol : Int) + (Lp : Int)) = (L : Int) := by rw [hsum]; exact IntWalk.i64_in _ (by omega)
 have hLc : (L : Int) ≤ (cap : Int) := by omega
 have hLc2 : L ≤ cap := by omega
 clear p ht hm hpc hol hLp hz hlz hcm hcap
 go_enter Tryz.func10, Tryz.ntmps10
 go_wp2_with fail
 with_reducible refine (rthere HT.out).mono ?_
 rintro e w0 ⟨rfl, hw0⟩
 obtain rfl : w = w0 := hw0.symm
 clear hw0
 go_wp2_with fail
 with_reducible refine (HPar.out _ (Grow.refl _)).mono ?_
 rintro e w1 ⟨v, u, rfl, hok, hu, hg⟩
 obtain ⟨va, vc, hve, _, _⟩ := hok.body.2.shape
 dsimp only at hve
 subst hve
 obtain ⟨ua, uc, hue, _, _⟩ := hu.2.shape
 rw [HLp.out] at hue
 subst hue
 have HOk : Hid (HdOk w1 ⟨tos, id, evil, df, mf, of, ttl, proto, src, dst, .slice va os.length vc, os⟩) := hok
 have HG1 := Lib.hid hg
 unfold Hd.val Hd.cells hdCells
 dsimp only
 clear hok hu hg HPar
 go_wp2_with fail
 obtain ⟨w2, hw2⟩ : ∃ x, w1.alloc (.cells #[.int .u8 tos, .int .u16 id, .bool evil, .bool df, .bool mf, .int .i64 of, .int .u8 ttl, .int .u8 proto, .int .u32 src, .int .u32 dst, .slice va os.length vc] 27) = x := ⟨_, rfl⟩
 have hN2 := heap_alloc_new w1 (.cells #[.int .u8 tos, .int .u16 id, .bool evil, .bool df, .bool mf, .int .i64 of, .int .u8 ttl, .int .u8 proto, .int .u32 src, .int .u32 dst, .slice va os.length vc] 27)
 have hg2 : Grow w1 (w1.alloc (.cells #[.int .u8 tos, .int .u16 id, .bool evil, .bool df, .bool mf, .int .i64 of, .int .u8 ttl, .int .u8 proto, .int .u32 src, .int .u32 dst, .slice va os.length vc] 27)) := (Grow.refl w1).alloc _
 rw [hw2] at hN2 hg2 ⊢
 obtain ⟨Hb, hHb⟩ : ∃ x, w1.heap.size = x := ⟨_, rfl⟩
 rw [hHb] at hN2 ⊢
 have HN2 := Lib.hid hN2
 have HOk2 := Lib.hid (HOk.out.mono hg2)
 have HG2 := Lib.hid (HG1.out.trans hg2)
 have HFr : Hid (∀ x, Grow w2 x → Calls Tryz.prog 26 #[.agg #[.int .u8 tos, .int .u16 id, .bool evil, .bool df, .bool mf, .int .i64 of, .int .u8 ttl, .int .u8 proto, .int .u32 src, .int .u32 dst, .slice va os.length vc]] x fun e w' => e = .returned (.bool false) ∧ Grow x w') := fun x hx => by
  have h := fragment_hdr ⟨tos, id, evil, df, mf, of, ttl, proto, src, dst, .slice va os.length vc, os⟩ x (HOk2.out.mono hx)
  have e : isPiece ⟨tos, id, evil, df, mf, of, ttl, proto, src, dst, .slice va os.length vc, os⟩ = false := HPc.out
  rw [e] at h
  exact h
 have HSz : Hid (∀ x, Grow w2 x → Calls Tryz.prog 28 #[.agg #[.int .u8 tos, .int .u16 id, .bool evil, .bool df, .bool mf, .int .i64 of, .int .u8 ttl, .int .u8 proto, .int .u32 src, .int .u32 dst, .slice va os.length vc]] x fun e w' => e = .returned (.int .i64 ((20 : Int) + (ol : Int))) ∧ Grow x w') := fun x hx => by
  have h := size_hdr ⟨tos, id, evil, df, mf, of, ttl, proto, src, dst, .slice va os.length vc, os⟩ x (HOk2.out.mono hx) HM.out
  have e : ((20 : Int) + (({ tos := tos, id := id, evil := evil, df := df, mf := mf, off := of, ttl := ttl, proto := proto, src := src, dst := dst, v := .slice va os.length vc, os := os } : Hd).os.length : Int)) = 20 + (ol : Int) := by show (20 : Int) + (os.length : Int) = _; rw [HOl.out]
  rw [e] at h
  exact h
 clear hN2 hg2 hw2 hHb HOk HG1
 obtain ⟨⟨d0, d1, d2, d3, d4, d5⟩, d6, d7, d8, d9, d10⟩ := blkH HN2.out
 go_wp2_with fail
 with_reducible refine (HFr.out _ (Grow.refl _)).mono ?_
 rintro e w3 ⟨rfl, hg⟩
 have HG3 := Lib.hid hg
 have HN3 := Lib.hid ((hg.block _ (lt_of_block HN2.out)).trans HN2.out)
 clear hg HFr d0 d1 d2 d3 d4 d5 d6 d7 d8 d9 d10
 obtain ⟨⟨d0, d1, d2, d3, d4, d5⟩, d6, d7, d8, d9, d10⟩ := blkH HN3.out
 go_wp2_with fail
 with_reducible refine (HSz.out _ HG3.out).mono ?_
 rintro e w4 ⟨rfl, hg⟩
 have HG4 := Lib.hid (HG2.out.trans (HG3.out.trans hg))
 clear hg HSz d0 d1 d2 d3 d4 d5 d6 d7 d8 d9 d10
 go_wp2_with fail
 with_reducible refine (HCl.out _ HG4.out).mono ?_
 rintro e w5 ⟨u5, rfl, hn⟩
 have HN5 : Hid (NewBytes w zs u5 w5) := ⟨own_less1 hn.1 HG4.out.size, HG4.out.trans hn.2⟩
 clear hn
 go_wp2_with fail
 refine bodyPost_ret (v := .tuple #[u5, .int .i64 0]) (by simp [results, Tryz.results10, go_sem]) rfl ⟨u5, rfl, HN5.out⟩
end
end Go.Proofs.YtgckhdepnmiejaaGreat
namespace Go.Proofs.YtgckhdepnmiejaaGreat
section
set_option maxRecDepth 100000
open Go.RowKit
/-- A piece: where it lies, whether more comes, its options, its bytes. -/
structure Pc where
 off : Nat
 mf : Bool
 os : List Int
 data : List Int
def Pc.hd (h : Hd) (t : Int) (p : Pc) : Hd := { h with ttl := t, off := p.off, mf := p.mf, os := p.os, v := .slice none 0 0 }
def Pc.row (h : Hd) (t : Int) (p : Pc) : List Int := pkt (p.hd h t) p.data
structure OkO (os : List Int) : Prop where
 good : goodO os = true
 len : os.length ≤ 40
 four : os.length % 4 = 0
 by_ : Bytes os
 rout : routedO os = false
theorem OkO.cop {os : List Int} (k : OkO os) : OkO (copO os) := ⟨copO_good k.good, by have := (copO_len k.four).1; have := k.len; omega, (copO_len k.four).2, copO_bytes k.by_, copO_routed k.good k.rout⟩
theorem OkO.piece {os : List Int} (k : OkO os) (j : Nat) : OkO (pieceO os j) := by
 unfold pieceO
 split
 ·exact k
 ·exact k.cop
/-- They cover a payload's bytes from k up to e; the last one says whether more comes behind. -/
def Tile (os0 P : List Int) : Nat → Nat → Bool → List Pc → Prop
 | _, _, _, [] => False
 | k, e, m, p :: r => k % 8 = 0 ∧ p.off = k / 8 ∧ OkO p.os ∧ (k = 0 → p.os = os0) ∧ p.data = (P.drop k).take p.data.length ∧ k + p.data.length ≤ e ∧ (0 < p.data.length ∨ e = 0) ∧
  ((r = [] ∧ p.mf = m ∧ k + p.data.length = e) ∨ (r ≠ [] ∧ p.mf = true ∧ p.data.length % 8 = 0 ∧ 0 < p.data.length ∧ Tile os0 P (k + p.data.length) e m r))
theorem tile_append {os0 P : List Int} : ∀ (a b : List Pc) (k j e : Nat) (m : Bool), Tile os0 P k j true a → j % 8 = 0 → j ≤ e → k < j → Tile os0 P j e m b → Tile os0 P k e m (a ++ b)
 | [], _, _, _, _, _, h, _, _, _, _ => h.elim
 | p :: r, b, k, j, e, m, h, hj, hje, hkj, hb => by
  obtain ⟨h1, h2, h3, h4, h5, h6, h7, h8⟩ := h
  have hbn : b ≠ [] := by intro e; subst e; exact hb
  refine ⟨h1, h2, h3, h4, h5, by omega, by omega, Or.inr ?_⟩
  rcases h8 with ⟨rfl, h9, h10⟩ | ⟨h9, h10, h11, h12, h13⟩
  ·refine ⟨by simpa using hbn, h9, by omega, by omega, ?_⟩
   rw [h10]; simpa using hb
  ·refine ⟨by simp [h9], h10, h11, h12, ?_⟩
   have hlt : k + p.data.length < j := by
    match r, h9, h13 with
    | q :: r', _, h13 =>
     have := h13.2.2.2.2.2.1
     have := h13.2.2.2.2.2.2.1
     omega
   exact tile_append r b (k + p.data.length) j e m h13 hj hje hlt hb
theorem pieceN_last {M L : Nat} {os : List Int} {k : Nat} (h : ¬ pieceR M os k < L - k) : pieceN M L os k = L - k := by unfold pieceN; rw [if_neg h]
theorem pieceN_more {h : Hd} (r : Raw h) {M L : Nat} (hM : 68 ≤ M) {k : Nat} (hl : pieceR M h.os k < L - k) : pieceN M L h.os k % 8 = 0 ∧ k + pieceN M L h.os k < L ∧ 0 < pieceN M L h.os k := by
 have := pieceR_ge r hM k
 unfold pieceN
 rw [if_pos hl]
 omega
/-- What a piece is cut into. -/
def cutPc (p : Pc) (M j : Nat) : Pc := ⟨p.off + j / 8, p.mf || decide (pieceR M p.os j < p.data.length - j), pieceO p.os j, (p.data.drop j).take (pieceN M p.data.length p.os j)⟩
theorem cut_tile {os0 P : List Int} {h : Hd} {p : Pc} {M k e : Nat} (r : Raw h) (hos : h.os = p.os) (hM : 68 ≤ M) (hk : k % 8 = 0) (ho : p.off = k / 8) (hok : OkO p.os) (h0 : k = 0 → p.os = os0) (hd : p.data = (P.drop k).take p.data.length) (he : k + p.data.length = e) :
  ∀ (f j : Nat), p.data.length - j ≤ f → j % 8 = 0 → j < p.data.length → Tile os0 P (k + j) e p.mf ((cutsFrom M p.data.length p.os j).map (cutPc p M)) := by
 intro f
 induction f with
 | zero => intro j h1 h2 h3; omega
 | succ f ih =>
  intro j h1 h2 h3
  have hn := pieceN_pos r hM h3
  have hc := cuts_eq r hM h3
  rw [hos] at hn hc
  rw [hc, List.map_cons]
  obtain ⟨n, hnE⟩ : ∃ n, pieceN M p.data.length p.os j = n := ⟨_, rfl⟩
  obtain ⟨L, hLE⟩ : ∃ L, p.data.length = L := ⟨_, rfl⟩
  have hlen : (cutPc p M j).data.length = n := by
   show ((p.data.drop j).take (pieceN M p.data.length p.os j)).length = _
   rw [hnE, List.length_take, List.length_drop]; rw [hnE] at hn; omega
  have hdat : (cutPc p M j).data = (p.data.drop j).take n := by
   show (p.data.drop j).take (pieceN M p.data.length p.os j) = _
   rw [hnE]
  rw [hnE] at hn ⊢
  refine ⟨by omega, ?_, hok.piece j, ?_, ?_, by rw [hlen]; omega, Or.inl (by rw [hlen]; omega), ?_⟩
  ·show p.off + j / 8 = (k + j) / 8
   rw [ho]; omega
  ·intro e0
   show pieceO p.os j = os0
   have hj0 : j = 0 := by omega
   have hk0 : k = 0 := by omega
   rw [hj0]
   unfold pieceO
   rw [if_pos rfl]
   exact h0 hk0
  ·have e1 : p.data.length = min p.data.length (P.drop k).length := by
    have := congrArg List.length hd
    rw [List.length_take] at this
    exact this
   have e2 : (p.data.drop j).take n = (P.drop (k + j)).take n := by
    rw [hd, List.drop_take, List.take_take, List.drop_drop]
    congr 1
    omega
   rw [hlen, hdat, e2]
  ·by_cases hl : pieceR M p.os j < p.data.length - j
   ·have hg := pieceN_more r hM (k := j) (L := p.data.length) (by rw [hos]; exact hl)
    rw [hos, hnE] at hg
    obtain ⟨g1, g2, g3⟩ := hg
    refine Or.inr ⟨?_, ?_, by rw [hlen]; exact g1, by rw [hlen]; exact g3, ?_⟩
    ·have hc2 := cuts_eq r hM g2
     rw [hos] at hc2
     rw [hc2]; simp
    ·show (p.mf || decide (pieceR M p.os j < p.data.length - j)) = true
     rw [decide_eq_true hl]; simp
    ·rw [hlen, show k + j + n = k + (j + n) by omega]
     exact ih (j + n) (by omega) (by omega) g2
   ·have g1 := pieceN_last hl
    rw [hnE] at g1
    refine Or.inl ⟨?_, ?_, by rw [hlen, g1]; omega⟩
    ·rw [cuts_end (by rw [g1]; omega)]; rfl
    ·show (p.mf || decide (pieceR M p.os j < p.data.length - j)) = p.mf
     rw [decide_eq_false hl]; simp
theorem Pc.raw {h : Hd} {t : Int} {p : Pc} (r : Raw h) (ht : U8 t) (hp : OkO p.os) (ho : p.off ≤ 8191) : Raw (p.hd h t) :=
 ⟨r.tos, r.id, by show 0 ≤ (p.off : Int) ∧ (p.off : Int) ≤ 8191; omega, ht, r.proto, r.src, r.dst, hp.by_, hp.len, hp.four, hp.good⟩
/-- What becomes of a piece at an MTU. -/
def cutAll (p : Pc) (M : Nat) : List Pc := if 20 + p.os.length + p.data.length ≤ M then [p] else (cuts M p.data.length p.os).map (cutPc p M)
theorem cutAll_rows {h : Hd} {t : Int} {p : Pc} {M : Nat} : frags (p.hd h t).less p.data M = (cutAll p M).map (Pc.row h (t - 1)) := by
 unfold frags cutAll
 have e1 : (p.hd h t).less.os = p.os := rfl
 rw [e1]
 split
 ·rfl
 ·rw [List.map_map]
  congr 1
theorem cutAll_tile {os0 P : List Int} {h : Hd} {t : Int} {p : Pc} {M k e : Nat} (r : Raw h) (ht : U8 t) (hM : 68 ≤ M) (hk : k % 8 = 0) (ho : p.off = k / 8) (ho2 : p.off ≤ 8191) (hok : OkO p.os) (h0 : k = 0 → p.os = os0) (hd : p.data = (P.drop k).take p.data.length) (he : k + p.data.length = e) (hp : 0 < p.data.length ∨ e = 0) :
  Tile os0 P k e p.mf (cutAll p M) := by
 unfold cutAll
 split
 ·exact ⟨hk, ho, hok, h0, hd, by omega, hp, Or.inl ⟨rfl, rfl, he⟩⟩
 ·rename_i hn
  have hpos : 0 < p.data.length := by
   have := hok.len
   omega
  have := cut_tile (h := p.hd h t) (Pc.raw r ht hok ho2) rfl hM hk ho hok h0 hd he p.data.length 0 (by omega) (by omega) hpos
  simpa [cuts] using this
/-- A stage. -/
def stage (ps : List Pc) (M : Nat) : List Pc := ps.flatMap (cutAll · M)
theorem stage_tile {os0 P : List Int} {h : Hd} {t : Int} {M : Nat} (r : Raw h) (ht : U8 t) (hM : 68 ≤ M) : ∀ (ps : List Pc) (k e : Nat) (m : Bool), e ≤ 60000 → Tile os0 P k e m ps → Tile os0 P k e m (stage ps M)
 | [], _, _, _, _, h => h.elim
 | p :: q, k, e, m, he, hT => by
  obtain ⟨h1, h2, h3, h4, h5, h6, h7, h8⟩ := hT
  unfold stage
  rw [List.flatMap_cons]
  rcases h8 with ⟨rfl, h9, h10⟩ | ⟨h9, h10, h11, h12, h13⟩
  ·rw [List.flatMap_nil, List.append_nil, ← h9]
   exact cutAll_tile r ht hM h1 h2 (by omega) h3 h4 h5 h10 h7
  ·have hc := cutAll_tile (e := k + p.data.length) r ht hM h1 h2 (by omega) h3 h4 h5 rfl (Or.inl h12)
   rw [h10] at hc
   exact tile_append _ _ k (k + p.data.length) e m hc (by omega) h6 (by omega) (stage_tile r ht hM q _ e m he h13)
/-! ### Taken -/
/-- What each piece of a tiling is. -/
structure PcOk (os0 P : List Int) (p : Pc) : Prop where
 os : OkO p.os
 first : p.off = 0 → p.os = os0
 data : p.data = (P.drop (8 * p.off)).take p.data.length
 le : 8 * p.off + p.data.length ≤ P.length
 more : p.mf = true → p.data.length % 8 = 0 ∧ 0 < p.data.length
 last : p.mf = false → 8 * p.off + p.data.length = P.length
theorem tile_ok {os0 P : List Int} : ∀ (ps : List Pc) (k : Nat), Tile os0 P k P.length false ps → ∀ p ∈ ps, PcOk os0 P p
 | [], _, h => h.elim
 | q :: r, k, h => by
  obtain ⟨h1, h2, h3, h4, h5, h6, h7, h8⟩ := h
  have ho : 8 * q.off = k := by omega
  intro p hp
  have hq : PcOk os0 P q := by
   refine ⟨h3, fun e => h4 (by omega), by rw [ho]; exact h5, by omega, fun e => ?_, fun e => ?_⟩
   ·rcases h8 with ⟨_, h9, h10⟩ | ⟨h9, h10, h11, h12, h13⟩
    ·rw [h9] at e; cases e
    ·exact ⟨h11, h12⟩
   ·rcases h8 with ⟨_, h9, h10⟩ | ⟨h9, h10, h11, h12, h13⟩
    ·omega
    ·rw [h10] at e; cases e
  rcases List.mem_cons.1 hp with rfl | hp
  ·exact hq
  ·rcases h8 with ⟨rfl, _⟩ | ⟨_, _, _, _, h13⟩
   ·cases hp
   ·exact tile_ok r _ h13 p hp
theorem tile_pos {os0 P : List Int} {k : Nat} {ps : List Pc} (h : Tile os0 P k P.length false ps) (hP : 0 < P.length) : ∀ p ∈ ps, 0 < p.data.length := by
 induction ps generalizing k with
 | nil => exact h.elim
 | cons q r ih =>
  obtain ⟨h1, h2, h3, h4, h5, h6, h7, h8⟩ := h
  intro p hp
  rcases List.mem_cons.1 hp with rfl | hp
  ·omega
  ·rcases h8 with ⟨rfl, _⟩ | ⟨_, _, _, _, h13⟩
   ·cases hp
   ·exact ih h13 p hp
theorem tile_cover {os0 P : List Int} : ∀ (ps : List Pc) (k : Nat), Tile os0 P k P.length false ps → ∀ j, k ≤ 8 * j → 8 * j < P.length → ∃ p ∈ ps, p.off ≤ j ∧ j < p.off + (p.data.length + 7) / 8
 | [], _, h, _, _, _ => h.elim
 | q :: r, k, h, j, hk, hj => by
  obtain ⟨h1, h2, h3, h4, h5, h6, h7, h8⟩ := h
  by_cases hin : 8 * j < k + q.data.length
  ·exact ⟨q, by simp, by omega, by omega⟩
  ·rcases h8 with ⟨_, _, h10⟩ | ⟨_, h10, h11, h12, h13⟩
   ·omega
   ·obtain ⟨p, hp, g⟩ := tile_cover r _ h13 j (by omega) hj
    exact ⟨p, by simp [hp], g⟩
theorem tile_first {os0 P : List Int} {ps : List Pc} (h : Tile os0 P 0 P.length false ps) : ∃ p ∈ ps, p.off = 0 := by
 match ps, h with
 | q :: r, h => exact ⟨q, by simp, by have := h.2.1; omega⟩
theorem tile_last {os0 P : List Int} : ∀ (ps : List Pc) (k : Nat), Tile os0 P k P.length false ps → ∃ p ∈ ps, p.mf = false
 | [], _, h => h.elim
 | q :: r, k, h => by
  obtain ⟨h1, h2, h3, h4, h5, h6, h7, h8⟩ := h
  rcases h8 with ⟨_, h9, _⟩ | ⟨_, h10, h11, h12, h13⟩
  ·exact ⟨q, by simp, h9⟩
  ·obtain ⟨p, hp, g⟩ := tile_last r _ h13
   exact ⟨p, by simp [hp], g⟩
/-- The blocks that a piece lays. -/
theorem blk_of {os0 P : List Int} {p : Pc} (k : PcOk os0 P p) : ∀ q, 8 * q < p.data.length → Blk P (p.off + q) = (p.data.drop (8 * q)).take 8 := by
 intro q hq
 unfold Blk
 rw [k.data, List.drop_take, List.take_take, List.drop_drop, show 8 * (p.off + q) = 8 * p.off + 8 * q by omega]
 by_cases h8 : 8 ≤ p.data.length - 8 * q
 ·rw [Nat.min_eq_left h8]
 ·have hl : 8 * p.off + p.data.length = P.length := by
   cases hm : p.mf with
   | true => have := k.more hm; omega
   | false => exact k.last hm
  rw [Nat.min_eq_right (by omega), List.take_of_length_le (by rw [List.length_drop]; omega), List.take_of_length_le (by rw [List.length_drop]; omega)]
/-- The same but for where its options lie. -/
def SameHd (a b : Hd) : Prop := { a with v := .slice none 0 0 } = { b with v := .slice none 0 0 }
/-- What taking pieces has left. -/
structure Taken (h : Hd) (t : Int) (os0 P : List Int) (s : FS) (A : List Pc) : Prop where
 first : (∃ p ∈ A, p.off = 0) → s.first = true
 fin : (∃ p ∈ A, p.mf = false) → s.fin = P.length
 laid : ∀ p ∈ A, ∀ j, p.off ≤ j → j < p.off + (p.data.length + 7) / 8 → s.K j = true
 head : s.first = true → SameHd { s.H with mf := false } { h with ttl := t, off := 0, mf := false, os := os0 }
 fins : s.fin = -1 ∨ s.fin = P.length
theorem taken_zero (h : Hd) (t : Int) (os0 P : List Int) : Taken h t os0 P FS.zero [] :=
 ⟨fun ⟨_, hp, _⟩ => (by cases hp), fun ⟨_, hp, _⟩ => (by cases hp), fun _ hp => (by cases hp), fun e => (by cases e), Or.inl rfl⟩
theorem taken_lay {h : Hd} {t : Int} {os0 P : List Int} {s : FS} {A : List Pc} (T : Taken h t os0 P s A) {p : Pc} (k : PcOk os0 P p) (v : Value) :
  Taken h t os0 P (s.lay { p.hd h t with v := v } p.off p.data.length) (p :: A) := by
 have hoff : ({ p.hd h t with v := v } : Hd).off = (p.off : Int) := rfl
 have hmf : ({ p.hd h t with v := v } : Hd).mf = p.mf := rfl
 have hK : ∀ j, s.K j = true → (s.lay { p.hd h t with v := v } p.off p.data.length).K j = true := fun j hj => by
  show layN s.K _ _ j = true
  unfold layN; rw [hj]; rfl
 refine ⟨?_, ?_, ?_, ?_, ?_⟩
 ·rintro ⟨q, hq, h0⟩
  show (if ({ p.hd h t with v := v } : Hd).off = 0 then true else s.first) = true
  rcases List.mem_cons.1 hq with rfl | hq
  ·rw [if_pos (by rw [hoff]; omega)]
  ·split
   ·rfl
   ·exact T.first ⟨q, hq, h0⟩
 ·rintro ⟨q, hq, h0⟩
  show (if ({ p.hd h t with v := v } : Hd).mf = false ∧ s.fin < 0 then ((8 * p.off + p.data.length : Nat) : Int) else s.fin) = P.length
  rw [hmf]
  by_cases c : p.mf = false ∧ s.fin < 0
  ·rw [if_pos c, k.last c.1]
  ·rw [if_neg c]
   rcases List.mem_cons.1 hq with rfl | hq
   ·rcases T.fins with e | e
    ·exact absurd ⟨h0, by omega⟩ c
    ·exact e
   ·exact T.fin ⟨q, hq, h0⟩
 ·intro q hq j h1 h2
  rcases List.mem_cons.1 hq with rfl | hq
  ·show layN s.K _ _ j = true
   unfold layN
   rw [decide_eq_true h1, decide_eq_true h2]; simp
  ·exact hK j (T.laid q hq j h1 h2)
 ·intro hf
  have hf' : (if ({ p.hd h t with v := v } : Hd).off = 0 then true else s.first) = true := hf
  show SameHd { (if ({ p.hd h t with v := v } : Hd).off = 0 ∧ s.first = false then ({ p.hd h t with v := v } : Hd) else s.H) with mf := false } _
  by_cases c : ({ p.hd h t with v := v } : Hd).off = 0 ∧ s.first = false
  ·rw [if_pos c]
   have h0 : p.off = 0 := by have := c.1; rw [hoff] at this; omega
   unfold SameHd Pc.hd
   dsimp only
   rw [h0, k.first h0]
   rfl
  ·rw [if_neg c]
   refine T.head ?_
   by_cases c0 : ({ p.hd h t with v := v } : Hd).off = 0
   ·cases hs : s.first with
    | true => rfl
    | false => exact absurd ⟨c0, hs⟩ c
   ·rw [if_neg c0] at hf'; exact hf'
 ·show (if ({ p.hd h t with v := v } : Hd).mf = false ∧ s.fin < 0 then ((8 * p.off + p.data.length : Nat) : Int) else s.fin) = -1 ∨ (if ({ p.hd h t with v := v } : Hd).mf = false ∧ s.fin < 0 then ((8 * p.off + p.data.length : Nat) : Int) else s.fin) = P.length
  rw [hmf]
  by_cases c : p.mf = false ∧ s.fin < 0
  ·rw [if_pos c, k.last c.1]; exact Or.inr rfl
  ·rw [if_neg c]; exact T.fins
theorem taken_whole {h : Hd} {t : Int} {os0 P : List Int} {s : FS} {A ps : List Pc} (T : Taken h t os0 P s A) (hT : Tile os0 P 0 P.length false ps) (hA : ∀ p ∈ ps, p ∈ A) : s.whole P := by
 obtain ⟨p, hp, h0⟩ := tile_first hT
 obtain ⟨q, hq, h1⟩ := tile_last ps 0 hT
 refine ⟨T.first ⟨p, hA p hp, h0⟩, T.fin ⟨q, hA q hq, h1⟩, fun j hj => ?_⟩
 obtain ⟨r, hr, g1, g2⟩ := tile_cover ps 0 hT j (Nat.zero_le _) hj
 exact T.laid r (hA r hr) j g1 g2
end
end Go.Proofs.YtgckhdepnmiejaaGreat
namespace Go.Proofs.YtgckhdepnmiejaaGreat
section
set_option maxRecDepth 100000
open Go.RowKit
/-- The header of what is put together. -/
def Hd.wh (h : Hd) (t : Int) (os0 : List Int) : Hd := { h with ttl := t, off := 0, mf := false, os := os0, v := .slice none 0 0 }
theorem pkt_same {a b : Hd} (h : SameHd a b) (P : List Int) : pkt a P = pkt b P := by
 unfold SameHd at h
 have e1 : pkt a P = pkt { a with v := .slice none 0 0 } P := rfl
 have e2 : pkt b P = pkt { b with v := .slice none 0 0 } P := rfl
 rw [e1, e2, h]
/-- The table, when the pieces of A were taken. -/
def Tab (w : World) (T F B0 N : Nat) (kl : Lit) (h : Hd) (t : Int) (os0 P : List Int) (A : List Pc) : Prop :=
 (A = [] ∧ TabNone w T F B0) ∨ ∃ s, TabSome w T F B0 N kl P s ∧ Taken h t os0 P s A
/-- Something is lacking. -/
def Lacks (os0 P : List Int) (A : List Pc) : Prop := ∀ ps, Tile os0 P 0 P.length false ps → ¬ ∀ q ∈ ps, q ∈ A
/-- What taking one answers. -/
def TookP (w : World) (T F B0 N : Nat) (kl : Lit) (h : Hd) (t : Int) (os0 P : List Int) (A : List Pc) (e : Ending) (w' : World) : Prop :=
 BelowF F B0 w w' ∧ ((∃ b off cap Z S, e = .returned (.tuple #[.slice (some ⟨b, off, none⟩) (20 + os0.length + P.length) cap, .int .i64 0]) ∧ PktAt w' b off (20 + os0.length + P.length) cap Z S (pkt (h.wh t os0) P) (h.wh t os0) P) ∨
  (e = .returned (.tuple #[.slice none 0 0, .int .i64 0]) ∧ Tab w' T F B0 N kl h t os0 P A ∧ Lacks os0 P A))
theorem took_done {w : World} {T F B0 N : Nat} {kl : Lit} {h : Hd} {t : Int} {os0 P : List Int} {A : List Pc} {u : Value} {w' : World} (hb : BelowF F B0 w w') (r : Raw (h.wh t os0)) (hPb : Bytes P) (hP : P.length ≤ 1500) (hu : BytesV w' u (pkt (h.wh t os0) P)) :
  TookP w T F B0 N kl h t os0 P A (.returned (.tuple #[u, .int .i64 0])) w' := by
 have h40 : os0.length ≤ 40 := r.len
 obtain ⟨b, off, L, cap, Z, S, rfl, q⟩ := pktAt_of r hPb (by show 20 + os0.length + P.length ≤ 65535; omega) hu
 have hL : L = 20 + os0.length + P.length := by have h1 := q.lz; have h2 := q.z; have h3 : Z = 20 + os0.length := h2; omega
 subst hL
 exact ⟨hb, Or.inl ⟨b, off, cap, Z, S, rfl, q⟩⟩
theorem took_of {w : World} {T F B0 N : Nat} {kl : Lit} {h : Hd} {t : Int} {os0 P : List Int} {A : List Pc} {s : FS} {p : Pc} {v0 : Value} (T0 : Taken h t os0 P s A) (k : PcOk os0 P p) (r : Raw (h.wh t os0)) (hPb : Bytes P) (hP : P.length ≤ 1500) {e : Ending} {w' : World}
  (hk : Took w T F B0 N kl P s { p.hd h t with v := v0 } p.off p.data.length e w') : TookP w T F B0 N kl h t os0 P (p :: A) e w' := by
 obtain ⟨v, hb, hk⟩ := hk
 have T1 := taken_lay T0 k v
 rcases hk with ⟨hw, u, rfl, hu⟩ | ⟨hw, rfl, hs⟩
 ·refine took_done hb r hPb hP ?_
  have := pkt_same (T1.head hw.1) P
  have e2 : pkt { h with ttl := t, off := 0, mf := false, os := os0 } P = pkt (h.wh t os0) P := rfl
  rw [← e2, ← this]
  exact hu
 ·exact ⟨hb, Or.inr ⟨rfl, Or.inr ⟨_, hs, T1⟩, fun ps hT hA => hw (taken_whole T1 hT hA)⟩⟩
theorem take_all {w : World} {T F B0 N : Nat} {h : Hd} {t : Int} {os0 P : List Int} {ps A : List Pc} {kl : Lit} {p : Pc} {v : Value} (r : Raw h) (ht : U8 t) (hT : Tile os0 P 0 P.length false ps) (hp : p ∈ ps) (hv : BytesV w v (p.row h t)) (hP : P.length ≤ 1500) (hPb : Bytes P) (hO : OkO os0)
  (hkey : keyOf Tryz.prog 89 (pieceV h.src h.dst h.proto h.id) = some kl) (hN : N ≤ 900000) (hst : Tab w T F B0 N kl h t os0 P A) (hA : ∀ q ∈ A, q ∈ ps) :
  Calls Tryz.prog 10 #[.pointer (some ⟨T, 0, none⟩), v] w (TookP w T F B0 (N + 300) kl h t os0 P (p :: A)) := by
 have k := tile_ok ps 0 hT p hp
 have rp : Raw (p.hd h t) := Pc.raw r ht k.os (by have := k.le; omega)
 have rw_ : Raw (h.wh t os0) := ⟨r.tos, r.id, by show (0 : Int) ≤ 0 ∧ (0 : Int) ≤ 8191; omega, ht, r.proto, r.src, r.dst, hO.by_, hO.len, hO.four, hO.good⟩
 have hdb : Bytes p.data := by rw [k.data]; exact (hPb.drop _).take _
 have hle := k.le
 have hol := k.os.len
 obtain ⟨b, off, L, cap, Z, S, rfl, q⟩ := pktAt_of rp hdb (by show 20 + p.os.length + p.data.length ≤ 65535; omega) hv
 have hL : L ≤ 2048 := by have h1 := q.lz; have h2 : Z = 20 + p.os.length := q.z; omega
 have one : (p.mf = false ∧ p.off = 0) ∨ (p.mf = true ∨ 0 < p.off) := by
  cases p.mf with
  | true => exact Or.inr (Or.inl rfl)
  | false => rcases Nat.eq_zero_or_pos p.off with e | e; exact Or.inl ⟨rfl, e⟩; exact Or.inr (Or.inr e)
 rcases one with ⟨h1, h2⟩ | hpc
 ·have htab : TabAt w T F := by
   rcases hst with ⟨_, h1, _⟩ | ⟨s, ⟨h1, _⟩, _⟩
   ·exact h1.tab
   ·exact h1.tab
  have hge : B0 ≤ w.heap.size := by
   rcases hst with ⟨_, h1, _⟩ | ⟨s, ⟨h1, _⟩, _⟩
   ·exact h1.ge
   ·exact h1.ge
  have hpiece : isPiece (p.hd h t) = false := by
   show (p.mf || decide (0 < (p.off : Int))) = false
   rw [h1, h2]; rfl
  refine (take_plain q hL hpiece htab).mono ?_
  rintro e w' ⟨u, rfl, hu⟩
  have hdat : p.data = P := by
   have h3 := k.last h1
   rw [k.data, h2]
   exact List.take_of_length_le (by simp; omega)
  have hos : p.os = os0 := k.first h2
  have e1 : pkt (p.hd h t) p.data = pkt (h.wh t os0) P := by
   unfold Pc.hd Hd.wh
   rw [hdat, hos, h1, h2]
   rfl
  rw [e1] at hu
  refine took_done (GrowBut.of_below hu.2) rw_ hPb hP ⟨pkt_bytes rw_ hPb, ints_of_owns hu.1⟩
 ·have hpos : 0 < p.data.length := by
   by_cases c : 0 < P.length
   ·exact tile_pos hT c p hp
   ·rcases hpc with h1 | h1
    ·exact (k.more h1).2
    ·omega
  have hblk := blk_of k
  rcases hst with ⟨rfl, hn⟩ | ⟨s, hs, hTk⟩
  ·cases hm : p.mf with
   | true =>
    have q' : PktAt w b off L cap Z S (pkt (p.hd h t) p.data) ⟨h.tos, h.id, h.evil, h.df, true, p.off, t, h.proto, h.src, h.dst, .slice none 0 0, p.os⟩ p.data := by rw [← hm]; exact q
    refine (take_none_true q' hL (k.more hm).1 rfl hpos hblk (by omega) hPb hle hkey hN hn).mono fun e w' hk => ?_
    rw [← hm] at hk
    exact took_of (taken_zero h t os0 P) k rw_ hPb hP hk
   | false =>
    have q' : PktAt w b off L cap Z S (pkt (p.hd h t) p.data) ⟨h.tos, h.id, h.evil, h.df, false, p.off, t, h.proto, h.src, h.dst, .slice none 0 0, p.os⟩ p.data := by rw [← hm]; exact q
    refine (take_none_false q' hL (hpc.resolve_left (by rw [hm]; exact Bool.noConfusion)) (k.last hm) rfl hpos hblk (by omega) hPb hle hkey hN hn).mono fun e w' hk => ?_
    rw [← hm] at hk
    exact took_of (taken_zero h t os0 P) k rw_ hPb hP hk
  ·cases hm : p.mf with
   | true =>
    have q' : PktAt w b off L cap Z S (pkt (p.hd h t) p.data) ⟨h.tos, h.id, h.evil, h.df, true, p.off, t, h.proto, h.src, h.dst, .slice none 0 0, p.os⟩ p.data := by rw [← hm]; exact q
    refine (take_some_true q' hL (k.more hm).1 rfl hpos hblk (by omega) hPb hle hkey hN hs).mono fun e w' hk => ?_
    rw [← hm] at hk
    exact took_of hTk k rw_ hPb hP hk
   | false =>
    have q' : PktAt w b off L cap Z S (pkt (p.hd h t) p.data) ⟨h.tos, h.id, h.evil, h.df, false, p.off, t, h.proto, h.src, h.dst, .slice none 0 0, p.os⟩ p.data := by rw [← hm]; exact q
    refine (take_some_false q' hL (hpc.resolve_left (by rw [hm]; exact Bool.noConfusion)) (k.last hm) rfl hpos hblk (by omega) hPb hle hkey hN hs).mono fun e w' hk => ?_
    rw [← hm] at hk
    exact took_of hTk k rw_ hPb hP hk
end
end Go.Proofs.YtgckhdepnmiejaaGreat
namespace Go.Proofs.YtgckhdepnmiejaaGreat
section
set_option maxRecDepth 100000
open Go.RowKit
/-- What is asked, in memory: one route, one MTU. -/
structure AskedAt (w : World) (rb ro rc nb no nc mb mo mc : Nat) (M : Nat) : Prop where
 r0 : w.cell? ⟨rb, ro, none⟩ = some (.int .u32 184549376)
 r1 : w.cell? ⟨rb, ro + 1, none⟩ = some (.int .i64 8)
 r2 : w.cell? ⟨rb, ro + 2, none⟩ = some (.bool false)
 r3 : w.cell? ⟨rb, ro + 3, none⟩ = some (.bool true)
 r4 : w.cell? ⟨rb, ro + 4, none⟩ = some (.int .i64 1)
 r5 : w.cell? ⟨rb, ro + 5, none⟩ = some (.slice (some ⟨nb, no, none⟩) 1 nc)
 n0 : w.cell? ⟨nb, no, none⟩ = some (.int .i64 0)
 n1 : w.cell? ⟨nb, no + 1, none⟩ = some (.int .i64 1)
 m0 : w.cell? ⟨mb, mo, none⟩ = some (.int .i64 M)
 rc1 : 1 ≤ rc
 nc1 : 1 ≤ nc
 mc1 : 1 ≤ mc ∧ mc ≤ 1000
 M1 : 68 ≤ M ∧ M ≤ 1500
theorem AskedAt.mono {w w' : World} {rb ro rc nb no nc mb mo mc M : Nat} (a : AskedAt w rb ro rc nb no nc mb mo mc M) (h : Grow w w') : AskedAt w' rb ro rc nb no nc mb mo mc M :=
 ⟨(h.cell (block_lt a.r0)).trans a.r0, (h.cell (block_lt a.r1)).trans a.r1, (h.cell (block_lt a.r2)).trans a.r2, (h.cell (block_lt a.r3)).trans a.r3, (h.cell (block_lt a.r4)).trans a.r4, (h.cell (block_lt a.r5)).trans a.r5, (h.cell (block_lt a.n0)).trans a.n0, (h.cell (block_lt a.n1)).trans a.n1, (h.cell (block_lt a.m0)).trans a.m0, a.rc1, a.nc1, a.mc1, a.M1⟩
/-- Which packets go out of it. -/
structure Fit (h : Hd) (pl : List Int) : Prop where
 src : h.src = 167772165
 dst : h.dst = 184549381
 rout : routedO h.os = false
 ttl : 2 ≤ h.ttl
 df : h.df = false
 off : h.off + pl.length ≤ 8000
 len : 20 + h.os.length + pl.length ≤ 2048
def JudgedT (w : World) (rows : List (List Int)) (e : Ending) (w' : World) : Prop :=
 ∃ ov base, e = .returned (.tuple #[.agg #[.int .i64 0, .int .i64 0, .slice none 0 0, ov], .bool true]) ∧ OutRow w' base ov 0 rows ∧ w.heap.size ≤ base ∧ Grow w w'
theorem one4_src : One4 167772165 := by unfold One4; decide
theorem one4_dst : One4 184549381 := by unfold One4; decide
set_option maxHeartbeats 4000000 in
theorem judged_any {w : World} {b off L cap Z S : Nat} {zs : List Int} {h : Hd} {pl : List Int} (p : PktAt w b off L cap Z S zs h pl) {rb ro rc nb no nc mb mo mc M : Nat} (q : AskedAt w rb ro rc nb no nc mb mo mc M) (f : Fit h pl) :
  Calls Tryz.prog 8 #[.agg #[.slice (some ⟨rb, ro, none⟩) 1 rc, .int .u32 167772161, .slice (some ⟨mb, mo, none⟩) 1 mc, .int .i64 0], .slice (some ⟨b, off, none⟩) L cap] w (JudgedT w (frags h.less pl M)) := by
 have HL : Hid (∀ x, Grow w x → Calls Tryz.prog 16 #[.agg #[.slice (some ⟨rb, ro, none⟩) 1 rc, .int .u32 167772161, .slice (some ⟨mb, mo, none⟩) 1 mc, .int .i64 0]] x fun e w' => ∃ F B, e = .returned (.tuple #[.pointer (some ⟨F, 0, none⟩), .pointer (some ⟨B, 0, none⟩), .bool true]) ∧ PicksTo w' (.pointer (some ⟨F, 0, none⟩)) 184549381 3 0 ∧ BucketAt w' B 64 1 0 0 ∧ x.heap.size ≤ B ∧ Grow x w') := fun x hx => by
  refine laid_of (w := x) (by omega) ⟨_, _, _, rfl⟩ ⟨_, _, _, rfl⟩ (fun w' F => PicksTo w' (.pointer (some ⟨F, 0, none⟩)) 184549381 3 0) (fun y hy => ?_) (fun F y y' h hy => h.mono hy)
  have qy := q.mono (hx.trans hy)
  refine (make1 (port := 0) (dist := 1) (d := 1) may_184549376 qy.n0 qy.n1 (by omega) (Or.inl rfl) qy.nc1 qy.rc1 qy.r0 qy.r1 qy.r2 qy.r3 qy.r4 qy.r5).mono ?_
  rintro e z ⟨F, rfl, hF, _, hg⟩
  exact ⟨F, rfl, picks_one hF, hg⟩
 have HJ : Hid (∀ x F B, Grow w x → PicksTo x (.pointer (some ⟨F, 0, none⟩)) 184549381 3 0 → BucketAt x B 64 1 0 0 → Calls Tryz.prog 18 #[.pointer (some ⟨F, 0, none⟩), .int .u32 167772161, .slice (some ⟨mb, mo, none⟩) 1 mc, .pointer (some ⟨B, 0, none⟩), .slice (some ⟨b, off, none⟩) L cap] x (Judged x 0 (frags h.less pl M))) := fun x F B hx hp hb => by
  have qx := q.mono hx
  refine judge_any (p.mono hx) (ms := [(M : Int)]) ⟨⟨F, rfl⟩, ?_, ?_, by omega, by omega, rfl, ⟨_, _, _, _, hb, by omega⟩, by rw [f.dst]; exact hp, by rw [f.src]; exact one4_src, by rw [f.dst]; exact one4_dst, f.rout, f.ttl, f.df, f.off, f.len⟩
  ·refine Or.inr ⟨mb, mo, mc, rfl, qx.mc1.1, by have := qx.mc1.2; unfold maxLen; omega, fun i hi => ?_⟩
   have h0 : i = 0 := by simp at hi; exact hi
   subst h0
   exact qx.m0
  ·intro m hm
   rw [List.mem_singleton.1 hm]
   have := q.M1; omega
 have HFr : Hid (∀ x base ov, OutRow x base ov 0 (frags h.less pl M) → ∃ a n c, ov = .slice a n c) := fun x base ov h => by obtain ⟨a, c, e⟩ := h.shape; exact ⟨_, _, _, e⟩
 have hg0 : Grow w ((w.alloc (.cells #[.slice (some ⟨rb, ro, none⟩) 1 rc, .int .u32 167772161, .slice (some ⟨mb, mo, none⟩) 1 mc, .int .i64 0] 43)).alloc (.cells #[.int .i64 0, .int .i64 0, .slice none 0 0, .slice none 0 0] 48)) := ((Grow.refl w).alloc _).alloc _
 have hs0 : (w.alloc (.cells #[.slice (some ⟨rb, ro, none⟩) 1 rc, .int .u32 167772161, .slice (some ⟨mb, mo, none⟩) 1 mc, .int .i64 0] 43)).heap.size = w.heap.size + 1 := World.size_alloc _ _
 have hF0 := heap_alloc_new (w.alloc (.cells #[.slice (some ⟨rb, ro, none⟩) 1 rc, .int .u32 167772161, .slice (some ⟨mb, mo, none⟩) 1 mc, .int .i64 0] 43)) (.cells #[.int .i64 0, .int .i64 0, .slice none 0 0, .slice none 0 0] 48)
 have hA0 : ((w.alloc (.cells #[.slice (some ⟨rb, ro, none⟩) 1 rc, .int .u32 167772161, .slice (some ⟨mb, mo, none⟩) 1 mc, .int .i64 0] 43)).alloc (.cells #[.int .i64 0, .int .i64 0, .slice none 0 0, .slice none 0 0] 48)).heap[w.heap.size]? = some (.cells #[.slice (some ⟨rb, ro, none⟩) 1 rc, .int .u32 167772161, .slice (some ⟨mb, mo, none⟩) 1 mc, .int .i64 0] 43 (0, 0)) := (Below.heap_alloc _ _ _ (by rw [hs0]; exact Nat.lt_succ_self _)).trans (heap_alloc_new w _)
 rw [hs0] at hF0
 obtain ⟨⟨c0, c1, c2, c3⟩, _⟩ := blk4 hA0
 clear p q f hs0
 go_enter Tryz.func8, Tryz.ntmps8
 go_wp2_with fail
 clear c0 c1 c2 c3
 generalize hw0 : ((w.alloc (.cells #[.slice (some ⟨rb, ro, none⟩) 1 rc, .int .u32 167772161, .slice (some ⟨mb, mo, none⟩) 1 mc, .int .i64 0] 43)).alloc (.cells #[.int .i64 0, .int .i64 0, .slice none 0 0, .slice none 0 0] 48)) = w0 at *
 with_reducible refine (HL.out _ hg0).mono ?_
 rintro e w1 ⟨F, B, rfl, hp, hb, hsz, hg⟩
 have HP1 := Lib.hid hp
 have HB1 := Lib.hid hb
 have HG1 := Lib.hid (hg0.trans hg)
 have HF1 := Lib.hid ((hg.block _ (lt_of_block hF0)).trans hF0)
 have hA1 := (hg.block _ (lt_of_block hA0)).trans hA0
 obtain ⟨⟨c0, c1, c2, c3⟩, _⟩ := blk4 hA1
 clear hp hb hsz hg hw0 hg0 hF0 hA0 hA1 HL
 go_wp2_with fail
 with_reducible refine (HJ.out _ _ _ HG1.out HP1.out HB1.out).mono ?_
 rintro e w2 ⟨ov, base, rfl, ho, hbs, hg⟩
 obtain ⟨oa, on, oc, rfl⟩ := HFr.out _ _ _ ho
 have HO := Lib.hid ho
 have HBs := Lib.hid (Nat.le_trans HG1.out.size hbs)
 have HG2 := Lib.hid (HG1.out.trans hg)
 have HF2 := Lib.hid ((hg.block _ (lt_of_block HF1.out)).trans HF1.out)
 have HB12 := Lib.hid hbs
 clear ho hbs hg c0 c1 c2 c3 HJ HFr HP1 HB1
 have hn := heap_alloc_new w2 (.cells #[.int .i64 0, .int .i64 0, .slice none 0 0, .slice oa on oc] 48)
 have hg3 : Grow w2 (w2.alloc (.cells #[.int .i64 0, .int .i64 0, .slice none 0 0, .slice oa on oc] 48)) := (Grow.refl w2).alloc _
 have hF3 := (hg3.block _ (lt_of_block HF2.out)).trans HF2.out
 obtain ⟨⟨c0, c1, c2, c3⟩, _⟩ := blk4 hn
 obtain ⟨⟨d0, d1, d2, d3⟩, dz⟩ := blk4 hF3
 have dz0 := dz 0
 have dz1 := dz 1
 have dz2 := dz 2
 have dz3 := dz 3
 have HF3 := Lib.hid hF3
 have HG3 := Lib.hid hg3
 clear hn hg3 hF3 dz
 go_wp2_with fail
 generalize hw5 : (w2.alloc (.cells #[.int .i64 0, .int .i64 0, .slice none 0 0, .slice oa on oc] 48)) = w5 at *
 generalize hw6 : (((w5.setCell ⟨w.heap.size + 1, 0, none⟩ (.int .i64 0)).setCell ⟨w.heap.size + 1, 1, none⟩ (.int .i64 0)).setCell ⟨w.heap.size + 1, 2, none⟩ (.slice none 0 0)).setCell ⟨w.heap.size + 1, 3, none⟩ (.slice oa on oc) = w6
 have HN6 : Hid (w6.heap[w.heap.size + 1]? = some (.cells #[.int .i64 0, .int .i64 0, .slice none 0 0, .slice oa on oc] 48 (0, 0))) := by rw [← hw6]; show _ = _; simp [heap_put, HF3.out, setObj]
 have HG6 : Hid (GrowBut (Only (w.heap.size + 1)) w5 w6) := by rw [← hw6]; show GrowBut _ _ _; simp only [only_put]; exact GrowBut.refl _ _
 have HLt := lt_of_block HF1.out
 clear hw6 hw5 c0 c1 c2 c3 d0 d1 d2 d3 dz0 dz1 dz2 dz3
 obtain ⟨⟨c0, c1, c2, c3⟩, _⟩ := blk4 HN6.out
 refine bodyPost_ret (v := .tuple #[.agg #[.int .i64 0, .int .i64 0, .slice none 0 0, .slice oa on oc], .bool true]) (by simp [results, Tryz.results8, go_sem, c0, c1, c2, c3]) rfl ?_
 exact ⟨_, base, rfl, (HO.out.mono HG3.out).but HG6.out (fun k hk => by have h1 : k = w.heap.size + 1 := hk; have := HB12.out; omega), HBs.out, only_new (HG2.out.trans HG3.out) (Nat.le_succ _) HG6.out⟩
end
end Go.Proofs.YtgckhdepnmiejaaGreat
namespace Go.Proofs.YtgckhdepnmiejaaGreat
section
set_option maxRecDepth 100000
open Go.RowKit
theorem cutsFrom_lt {M L : Nat} {os : List Int} : ∀ (f k : Nat), ∀ j ∈ cutsF M L os f k, j < L := by
 intro f
 induction f with
 | zero => intro k j hj; simp [cutsF] at hj
 | succ f ih =>
  intro k j hj
  rw [cutsF] at hj
  split at hj
  ·rcases List.mem_cons.1 hj with rfl | hj
   ·assumption
   ·exact ih _ j hj
  ·cases hj
/-- A piece fits. -/
theorem cutAll_le {h : Hd} {t : Int} {p : Pc} {M : Nat} (r : Raw (p.hd h t)) (hM : 68 ≤ M) : ∀ q ∈ cutAll p M, 20 + q.os.length + q.data.length ≤ M := by
 intro q hq
 unfold cutAll at hq
 split at hq
 ·rw [List.mem_singleton.1 hq]; assumption
 ·obtain ⟨j, hj, rfl⟩ := List.mem_map.1 hq
  have hlt : j < p.data.length := cutsFrom_lt _ _ j hj
  have h1 := pieceN_fits r hM hlt
  have h2 : (cutPc p M j).data.length ≤ pieceN M p.data.length p.os j := by
   show ((p.data.drop j).take (pieceN M p.data.length p.os j)).length ≤ _
   rw [List.length_take]; omega
  have h3 : (cutPc p M j).os = pieceO p.os j := rfl
  have h4 : (p.hd h t).os = p.os := rfl
  rw [h4] at h1
  rw [h3]; omega
theorem cutAll_ne {h : Hd} {t : Int} {p : Pc} {M : Nat} (r : Raw (p.hd h t)) (hM : 68 ≤ M) : 0 < (cutAll p M).length := by
 unfold cutAll
 split
 ·simp
 ·rename_i hn
  have h40 : p.os.length ≤ 40 := r.len
  have h2 := cuts_eq r hM (k := 0) (L := p.data.length) (by omega)
  have h4 : (p.hd h t).os = p.os := rfl
  rw [h4] at h2
  unfold cuts
  rw [h2]
  simp
theorem tile_count {os0 P : List Int} : ∀ (ps : List Pc) (k : Nat), Tile os0 P k P.length false ps → ps.length ≤ 1 + (P.length - k)
 | [], _, h => h.elim
 | q :: r, k, h => by
  obtain ⟨h1, h2, h3, h4, h5, h6, h7, h8⟩ := h
  rcases h8 with ⟨rfl, _⟩ | ⟨_, h10, h11, h12, h13⟩
  ·simp
  ·have := tile_count r _ h13
   simp; omega
theorem tile_one {os0 P : List Int} {ps : List Pc} {k e : Nat} {m : Bool} (h : Tile os0 P k e m ps) : 0 < ps.length := by
 cases ps with
 | nil => exact h.elim
 | cons => simp
/-- A list of rows, opened. -/
def RowsO (W : World) (n₀ : Nat) (v : Value) (vs : List Value) (rows : List (List Int)) : Prop :=
 vs.length = rows.length ∧ W.ownsRow n₀ 25 1 v vs.length vs ∧ ∀ i, i < rows.length → W.ownsRow n₀ 5 1 (vs.getD i undef) (rows.getD i []).length ((rows.getD i []).map (Value.int .u8)) ∧ Bytes (rows.getD i [])
theorem RowsO.n {W : World} {n₀ : Nat} {v : Value} {vs : List Value} {rows : List (List Int)} (h : RowsO W n₀ v vs rows) : RowsN W n₀ v rows := ⟨vs, h⟩
theorem rows_nil (W : World) (n₀ : Nat) : RowsN W n₀ (.slice none 0 0) [] := ⟨[], rfl, World.ownsRow_nil _ _ _ _, fun i hi => by simp at hi⟩
theorem byte_far {W w1 : World} {n₀ n₁ n m : Nat} {u v : Value} {xs ys : List Value} (hu : W.ownsRow n₀ 5 1 u n xs) (hv : W.ownsRow n₁ 25 1 v m ys) (hg : W.grownBy w1 v.ownBlock) : w1.ownsRow n₀ 5 1 u n xs := by
 obtain ⟨h1, h2⟩ := hu
 refine ⟨h1, h2.imp id ?_⟩
 rintro ⟨g, cap, cur, e1, e2, e3, e4⟩
 refine ⟨g, cap, cur, e1, e2, ?_, e4⟩
 refine (hg.block g (lt_of_block e3) (fun hh => ?_)).trans e3
 rcases hv.2 with ⟨rfl, _⟩ | ⟨g', cap', cur', rfl, _, hgb, _⟩
 ·simp [Value.ownBlock] at hh
 ·obtain rfl : g = g' := by simpa [Value.ownBlock] using hh
  rw [e3] at hgb
  simp at hgb
theorem rows_push {W w1 : World} {n₀ : Nat} {v v' x : Value} {vs : List Value} {rows : List (List Int)} {zs : List Int} (h : RowsO W n₀ v vs rows) (hx : W.ownsRow n₀ 5 1 x zs.length (zs.map (Value.int .u8))) (hz : Bytes zs)
  (ho : w1.ownsRow n₀ 25 1 v' (vs.length + 1) (vs ++ [x])) (hg : W.grownBy w1 v.ownBlock) : RowsN w1 n₀ v' (rows ++ [zs]) := by
 obtain ⟨h1, h2, h3⟩ := h
 refine ⟨vs ++ [x], by simp [h1], by simpa using ho, fun i hi => ?_⟩
 rw [List.length_append, List.length_singleton] at hi
 by_cases c : i < rows.length
 ·have e1 : (vs ++ [x]).getD i undef = vs.getD i undef := by simp only [List.getD_eq_getElem?_getD]; rw [List.getElem?_append_left (by omega)]
  have e2 : (rows ++ [zs]).getD i [] = rows.getD i [] := by simp only [List.getD_eq_getElem?_getD]; rw [List.getElem?_append_left c]
  rw [e1, e2]
  exact ⟨byte_far (h3 i c).1 h2 hg, (h3 i c).2⟩
 ·have e : i = rows.length := by omega
  subst e
  have e1 : (vs ++ [x]).getD rows.length undef = x := by simp only [List.getD_eq_getElem?_getD]; rw [← h1, List.getElem?_concat_length]; rfl
  have e2 : (rows ++ [zs]).getD rows.length [] = zs := by simp only [List.getD_eq_getElem?_getD]; rw [List.getElem?_concat_length]; rfl
  rw [e1, e2]
  exact ⟨byte_far hx h2 hg, hz⟩
/-- Where the list grows that was v0 in wJ. -/
structure Grows (wJ wr : World) (M0 : Nat → Prop) (v : Value) : Prop where
 but : GrowBut M0 wJ wr
 own : ∀ j, v.ownBlock = some j → M0 j ∨ wJ.heap.size ≤ j
theorem Grows.zero {wJ : World} {v : Value} : Grows wJ wJ (fun j => v.ownBlock = some j) v := ⟨GrowBut.refl _ _, fun j hj => Or.inl hj⟩
theorem Grows.step {wJ wr w1 w2 : World} {M0 : Nat → Prop} {v v' : Value} {n₀ n : Nat} {xs : List Value} (h : Grows wJ wr M0 v) (ha : Grow wr w1) (hg : w1.grownBy w2 v.ownBlock) (hv : ∀ j, v'.ownBlock = some j → v.ownBlock = some j ∨ w1.heap.size ≤ j) : Grows wJ w2 M0 v' := by
 have hb := h.but
 refine ⟨⟨hg.os.trans (ha.os.trans hb.os), hg.tape.trans (ha.tape.trans hb.tape), hg.output.trans (ha.output.trans hb.output), Nat.le_trans hb.size (Nat.le_trans ha.size hg.size), fun j hj hn => ?_⟩, fun j hj => ?_⟩
 ·have h1 := Nat.lt_of_lt_of_le hj hb.size
  refine (hg.block j (Nat.lt_of_lt_of_le h1 ha.size) (fun e => ?_)).trans ((ha.block j h1).trans (hb.block j hj hn))
  rcases h.own j e.symm with h2 | h2
  ·exact hn h2
  ·omega
 ·rcases hv j hj with h1 | h1
  ·exact h.own j h1
  ·exact Or.inr (Nat.le_trans hb.size (Nat.le_trans ha.size h1))
end
end Go.Proofs.YtgckhdepnmiejaaGreat
