/- The chapter's rows: known (and what stands on it). -/
import Derived.Lib.SlBytesConst
import Derived.Laws.OwnMore
import Derived.LoopTactic
import Derived.Test.YtgckhdepnmiejaaGreatZ03
import Derived.Test.YtgckhdepnmiejaaGreatZ18
import Derived.Test.YtgckhdepnmiejaaGreatZ22
set_option linter.unusedVariables false
set_option linter.unusedSimpArgs false
namespace Go.Proofs.YtgckhdepnmiejaaGreat
section
set_option maxRecDepth 100000
open Go.RowKit
def payK : List Int := [112, 97, 121, 108, 111, 97, 100]
theorem payK_bytes : Bytes payK := by intro x hx; simp [payK] at hx; omega
def zeroP : List Int := List.replicate 1380 0
theorem zeroP_length : zeroP.length = 1380 := List.length_replicate
theorem zeroP_bytes : Bytes zeroP := fun x hx => by rw [List.eq_of_mem_replicate hx]; omega
def hdQ (ttl : Int) (v : Value) : Hd := ⟨0, 0, false, false, false, 0, ttl, 17, 184549381, 201326597, v, []⟩
theorem hdQ_raw {t : Int} (ht : U8 t) (v : Value) : Raw (hdQ t v) :=
 ⟨by show U8 0; unfold U8; omega, by show U16 0; unfold U16; omega, by show (0 : Int) ≤ 0 ∧ (0 : Int) ≤ 8191; omega, ht, by show U8 17; unfold U8; omega, by show U32 184549381; unfold U32; omega, by show U32 201326597; unfold U32; omega, Bytes.nil, by show 0 ≤ 40; omega, rfl, rfl⟩
theorem hdQ_val (t : Int) (v : Value) : (hdQ t v).val = .agg #[.int .u8 0, .int .u16 0, .bool false, .bool false, .bool false, .int .i64 0, .int .u8 t, .int .u8 17, .int .u32 184549381, .int .u32 201326597, v] := rfl
theorem nil_ints (w : World) : IntsV .u8 w (.slice none 0 0) [] := Or.inl ⟨rfl, none, 0, rfl, Nat.zero_le _, fun _ => rfl⟩
theorem hdQ_ok {t : Int} (ht : U8 t) (w : World) : HdOk w (hdQ t (.slice none 0 0)) := (hdQ_raw ht _).ok (nil_ints w)
theorem cuts_q : cuts 600 1380 [] = [0, 576, 1152] := by kernel_rfl
theorem piece_q : pieceN 600 1380 [] 0 = 576 := by kernel_rfl
theorem frags_q {h : Hd} (r : Raw h) (ho : h.os = []) : (frags h zeroP 600).length = 3 ∧ ((frags h zeroP 600).getD 0 []).length ≤ 600 := by
 unfold frags
 rw [if_neg (by rw [ho, zeroP_length]; show ¬ (20 + 0 + 1380 ≤ 600); omega), zeroP_length, ho, cuts_q]
 refine ⟨rfl, ?_⟩
 show (pieceB h zeroP 600 0).length ≤ 600
 unfold pieceB
 rw [pkt_length, pieceP_length r (by omega) (by rw [zeroP_length]; omega), zeroP_length, ho, piece_q]
 have : (pieceH h 600 1380 0 (.slice none 0 0)).os.length = 0 := by
  show (pieceO h.os 0).length = 0
  rw [ho]; rfl
 omega
theorem pay_new (w : World) : BytesV (w.alloc (.cells #[.int .u8 112, .int .u8 97, .int .u8 121, .int .u8 108, .int .u8 111, .int .u8 97, .int .u8 100] 5 (7, 8))) (.slice (some ⟨w.heap.size, 0, none⟩) 7 7) payK := by
 have e := heap_alloc_new w (.cells #[.int .u8 112, .int .u8 97, .int .u8 121, .int .u8 108, .int .u8 111, .int .u8 97, .int .u8 100] 5 (7, 8))
 refine ⟨payK_bytes, Or.inr ⟨w.heap.size, 0, 7, rfl, Nat.le_refl _, by unfold maxLen; omega, fun i hi => ?_⟩⟩
 have hi : i < 7 := hi
 unfold World.cell?
 rw [e]
 match i, hi with
 | 0, _ => rfl
 | 1, _ => rfl
 | 2, _ => rfl
 | 3, _ => rfl
 | 4, _ => rfl
 | 5, _ => rfl
 | 6, _ => rfl
theorem made_zeroN (n : Nat) : (madeCells (Value.int .u8 0).cells (n * 1)).toList = (List.replicate n (0 : Int)).map (Value.int .u8) := by
 unfold madeCells
 rw [List.map_replicate]
 simp only [Array.toList_map, Array.toList_range]
 apply List.ext_getElem
 ·simp
 ·intro i h1 h2
  simp [Value.cells, Nat.mod_one]
theorem made_zero : (madeCells (Value.int .u8 0).cells (1380 * 1)).toList = zeroP.map (Value.int .u8) := made_zeroN 1380
theorem sent_even (port : Nat) : ∀ (vs : List Value) (d : Nat), d < vs.length → (sentCells port vs)[d * 2]? = some (.int .i64 port)
 | [], d, h => by simp at h
 | v :: r, 0, _ => by simp [sentCells]
 | v :: r, d + 1, h => by
  have h := sent_even port r d (by simpa using h)
  rw [show (d + 1) * 2 = d * 2 + 2 by omega]
  simpa [sentCells] using h
theorem out_port {w : World} {base n oc port : Nat} {oa : Option Addr} {rows : List (List Int)} (h : OutRow w base (.slice oa n oc) port rows) {d : Nat} (hd : d < rows.length) :
  ∃ g, oa = some ⟨g, 0, none⟩ ∧ w.cell? ⟨g, d * 2, none⟩ = some (.int .i64 port) ∧ rows.length ≤ oc := by
 obtain ⟨vs, h1, h2, h3⟩ := h
 have hcells := fun g hg => h2.cells (g := g) hg
 rcases h2.2 with ⟨e, hn⟩ | ⟨g, cap, cur, e, _, _, hcap, _⟩
 ·omega
 ·injection e with e1 e2 e3
  subst e1
  refine ⟨g, rfl, ?_, by omega⟩
  have := hcells g rfl (d * 2) _ (sent_even port vs d (by omega))
  rwa [Addr.add_lit, Nat.zero_add] at this
theorem make_zero (w : World) : ∃ w', (Instr.makeSlice 25 (.int .i64 1380) (.int .i64 1380)).run Tryz.prog w = .ok (.slice (some ⟨w.heap.size, 0, none⟩) 1380 1380) w' ∧ BytesV w' (.slice (some ⟨w.heap.size, 0, none⟩) 1380 1380) zeroP ∧ Grow w w' := by
 obtain ⟨i0, hi, hz0, hz1, hz2⟩ := info_parts infoU8
 obtain ⟨w', h1, h2, h3⟩ := run_makeSlice_full (P := Tryz.prog) w w.heap.size 25 5 i0 (.int .u8 0) 1 Tryz.underlying25 hi hz0 hz1 .i64 .i64 1380 (by omega) (by rw [hz2]; omega) (by unfold maxLen; omega) (Nat.le_refl _)
 rw [made_zero] at h2
 exact ⟨w', h1, ⟨zeroP_bytes, ints_of_owns h2⟩, none_grow h3 rfl⟩
set_option maxHeartbeats 4000000 in
theorem chapter_known (w : World) : Calls Tryz.prog 20 #[] w fun e w' => e = .returned (.bool true) ∧ Grow w w' := by
 go_enter Tryz.func20, Tryz.ntmps20
 go_wp2_with fail
 with_reducible refine (simple_any w).mono ?_
 rintro e w1 ⟨rb, nb1, nb2, mb, rfl, hr, hm, hg⟩
 have HG1 := Lib.hid hg
 have HR1 := Lib.hid hr
 have HM1 := Lib.hid hm
 clear hg hr hm
 go_upto_region 2 with fail
 have hN := heap_alloc_new w1 (.cells #[.slice (some ⟨rb, 0, none⟩) 3 3, .int .u32 167772161, .slice (some ⟨mb, 0, none⟩) 2 2, .int .i64 5] 43)
 have hg : Grow w1 (w1.alloc (.cells #[.slice (some ⟨rb, 0, none⟩) 3 3, .int .u32 167772161, .slice (some ⟨mb, 0, none⟩) 2 2, .int .i64 5] 43)) := (Grow.refl w1).alloc _
 obtain ⟨w2, hw2⟩ : ∃ x, w1.alloc (.cells #[.slice (some ⟨rb, 0, none⟩) 3 3, .int .u32 167772161, .slice (some ⟨mb, 0, none⟩) 2 2, .int .i64 5] 43) = x := ⟨_, rfl⟩
 rw [hw2] at hN hg ⊢
 obtain ⟨A, hA⟩ : ∃ x, w1.heap.size = x := ⟨_, rfl⟩
 rw [hA] at hN ⊢
 have HA2 := Lib.hid hN
 have HG2 := Lib.hid (HG1.out.trans hg)
 have HR2 := Lib.hid (HR1.out.mono hg)
 have HM2 := Lib.hid ((hg.block _ (lt_of_block HM1.out)).trans HM1.out)
 clear hN hg hw2 hA HG1 HR1 HM1
 obtain ⟨c0, c1, c2, c3⟩ := blkB HA2.out
 go_wp2_with fail
 have hq := laid3 (mb := mb) HR2.out
 with_reducible refine hq.mono ?_
 clear hq
 rintro e w3 ⟨F, B, rfl, hf, hb, hBs, hg⟩
 have HG3 := Lib.hid (HG2.out.trans hg)
 have HA3 := Lib.hid ((hg.block _ (lt_of_block HA2.out)).trans HA2.out)
 have HN3 : Hid (Node3 w3 F B mb 5) := ⟨hf, hb, (hg.block _ (lt_of_block HM2.out)).trans HM2.out⟩
 have HBs : Hid (w.heap.size ≤ B) := Lib.hid (Nat.le_trans HG2.out.size hBs)
 have HAB : Hid (A < B) := Lib.hid (Nat.lt_of_lt_of_le (lt_of_block HA2.out) hBs)
 clear hg hf hb hBs HG2 HR2 HM2 HA2 c0 c1 c2 c3
 have hcv := fun (C : Array Value) (n c : Nat) (w : World) => Lib.run_convert_bytes_const (P := Tryz.prog) w 25 5 C n c Tryz.underlying25 Tryz.underlying5
 have hg : Grow w3 (w3.alloc (.cells #[.int .u8 112, .int .u8 97, .int .u8 121, .int .u8 108, .int .u8 111, .int .u8 97, .int .u8 100] 5 (7, 8))) := (Grow.refl w3).alloc _
 have HB7 := Lib.hid (pay_new w3)
 have HGa := Lib.hid hg
 clear hg
 go_wp2_with fail
 have hq := refbytes_any (hdQ 1 (.slice none 0 0)) payK _ _ (hdQ_ok (by unfold U8; omega) _) (hdQ_raw (by unfold U8; omega) _).may HB7.out (by show 20 + 0 + 7 ≤ 65535; omega)
 rw [hdQ_val] at hq
 with_reducible refine hq.mono ?_
 clear hq
 rintro e w4 ⟨u1, rfl, hn⟩
 have HG34 := Lib.hid (HGa.out.trans hn.2)
 have HO4 : Hid (w4.ownsRow w3.heap.size 5 1 u1 (pkt (hdQ 1 (.slice none 0 0)) payK).length ((pkt (hdQ 1 (.slice none 0 0)) payK).map (Value.int .u8))) := own_less hn.1 HGa.out.size
 clear hn HB7 HGa hcv
 have hl : (pkt (hdQ 1 (.slice none 0 0)) payK).length = 27 := pkt_length _ _
 rw [hl] at HO4
 obtain ⟨g1, k1, cur, rfl, hgb, _, hgc, hgm, _, _⟩ := own_row HO4.out (by omega)
 have HB4 := Lib.hid (show BytesV w4 _ (pkt (hdQ 1 (.slice none 0 0)) payK) from ⟨pkt_bytes (hdQ_raw (by unfold U8; omega) _) payK_bytes, ints_of_owns HO4.out⟩)
 have HGb := Lib.hid hgb
 clear hl hgb
 obtain ⟨w5, hmk, hz, hg⟩ := make_zero w4
 have HZ5 := Lib.hid hz
 have HG45 := Lib.hid hg
 clear hz hg
 go_wp2_with fail
 have hq := refbytes_any (hdQ 9 (.slice none 0 0)) zeroP _ w5 (hdQ_ok (by unfold U8; omega) _) (hdQ_raw (by unfold U8; omega) _).may HZ5.out (by rw [zeroP_length]; show 20 + 0 + 1380 ≤ 65535; omega)
 rw [hdQ_val] at hq
 with_reducible refine hq.mono ?_
 clear hq hmk
 rintro e w6 ⟨u2, rfl, hn⟩
 have HG36 := Lib.hid (HG34.out.trans (HG45.out.trans hn.2))
 have hl : (pkt (hdQ 9 (.slice none 0 0)) zeroP).length = 1400 := by rw [pkt_length, zeroP_length]; rfl
 have HO6 : Hid (w6.ownsRow w3.heap.size 5 1 u2 1400 ((pkt (hdQ 9 (.slice none 0 0)) zeroP).map (Value.int .u8))) := by rw [← hl]; exact Lib.hid (own_less hn.1 (HG34.out.trans HG45.out).size)
 obtain ⟨g2, k2, cur2, rfl, hgb2, _, hgc2, hgm2, _, _⟩ := own_row HO6.out (by omega)
 have HB6 := Lib.hid (show BytesV w6 _ (pkt (hdQ 9 (.slice none 0 0)) zeroP) from ⟨pkt_bytes (hdQ_raw (by unfold U8; omega) _) zeroP_bytes, ints_of_owns HO6.out⟩)
 have HGb2 := Lib.hid hgb2
 have HB64 := Lib.hid (HB4.out.mono (HG45.out.trans hn.2))
 have HA6 := Lib.hid ((HG36.out.block _ (lt_of_block HA3.out)).trans HA3.out)
 have HN6 := Lib.hid (HN3.out.mono HG36.out)
 have HG6 := Lib.hid (HG3.out.trans HG36.out)
 clear hn hl hgb2 HZ5 HG45 HB4 HA3 HG34 HO4 HO6
 obtain ⟨c0, c1, c2, c3⟩ := blkB HA6.out
 go_wp2_with fail
 obtain ⟨z1, s1, hp1⟩ := pktAt_at (hdQ_raw (t := 1) (by unfold U8; omega) (.slice none 0 0)) payK_bytes (by show 20 + 0 + 7 ≤ 65535; omega) HB64.out
 have hq := judge_tell (v0 := .slice none 0 0) hp1 rfl HN6.out
 with_reducible refine hq.mono ?_
 clear hq hp1
 rintro e w7 ⟨ov, base, rows, rfl, ho, hrl, hbs, hbk, hg⟩
 obtain ⟨oa, oc, rfl⟩ := ho.shape
 rw [hrl] at ho ⊢
 have HA7 := Lib.hid ((hg.block _ (lt_of_block HA6.out) (fun e => by have e : A = B := e; have := HAB.out; omega)).trans HA6.out)
 have HN7 := Lib.hid (HN6.out.but hg hbk)
 have HO7 := Lib.hid ho
 have HRl := Lib.hid hrl
 have HG7 := Lib.hid (only_new HG6.out HBs.out hg)
 have HB7 : Hid (BytesV w7 (.slice (some ⟨g2, 0, none⟩) 1400 k2) (pkt (hdQ 9 (.slice none 0 0)) zeroP)) := by
  have h := HB6.out
  refine Lib.hid ⟨h.1, ?_⟩
  rcases h.2 with ⟨e, _⟩ | ⟨b', off', cap', e, h1, h2, h3⟩
  ·rw [e] at h; have := congrArg List.length e; rw [pkt_length, zeroP_length] at this; simp at this
  ·injection e with e1 e2 e3
   injection e1 with e1
   injection e1 with e1 e4 e5
   subst e1; subst e4; subst e3
   refine Or.inr ⟨g2, 0, k2, by rw [← e2], h1, h2, fun i hi => hg.cell (h3 i hi) (fun e => by have e : g2 = B := e; have h5 := HGb2.out; have h6 := lt_of_block HN3.out.bucket; omega)⟩
 clear hg ho hrl hbs hbk HA6 HN6 HG6 HB6 HB64 c0 c1 c2 c3
 go_upto_region 6 with fail
 have hN := heap_alloc_new w7 (.cells #[.int .i64 0, .int .i64 3, .slice none 0 0, .slice oa 1 oc] 48)
 have hg : Grow w7 (w7.alloc (.cells #[.int .i64 0, .int .i64 3, .slice none 0 0, .slice oa 1 oc] 48)) := (Grow.refl w7).alloc _
 obtain ⟨w8, hw8⟩ : ∃ x, w7.alloc (.cells #[.int .i64 0, .int .i64 3, .slice none 0 0, .slice oa 1 oc] 48) = x := ⟨_, rfl⟩
 rw [hw8] at hN hg ⊢
 obtain ⟨X, hX⟩ : ∃ x, w7.heap.size = x := ⟨_, rfl⟩
 rw [hX] at hN ⊢
 have HX8 := Lib.hid hN
 have HA8 := Lib.hid ((hg.block _ (lt_of_block HA7.out)).trans HA7.out)
 have HN8 := Lib.hid (HN7.out.mono hg)
 have HO8 := Lib.hid (HO7.out.mono hg)
 have HB8 := Lib.hid (HB7.out.mono hg)
 have HG8 := Lib.hid (HG7.out.trans hg)
 clear hN hg hw8 hX HA7 HN7 HO7 HB7 HG7
 obtain ⟨c0, c1, c2, c3⟩ := blkB HA8.out
 go_wp2_with fail
 obtain ⟨z2, s2, hp2⟩ := pktAt_at (hdQ_raw (t := 9) (by unfold U8; omega) (.slice none 0 0)) zeroP_bytes (by rw [zeroP_length]; show 20 + 0 + 1380 ≤ 65535; omega) HB8.out
 have hq := judge_any hp2 (own := 167772161) (f := .pointer (some ⟨F, 0, none⟩)) (mb := mb) (mo := 0) (mn := 2) (mc := 2) (ms := [1500, 600]) (B := B) (port := 1) (M := 600)
  ⟨⟨F, rfl⟩, HN8.out.ints, by intro m hm; simp at hm; omega, by omega, by omega, rfl, ⟨64, 1, 4, 0, HN8.out.bucket, by decide⟩, picks3_b HN8.out.fib, oneA, oneB, rfl, by show (2 : Int) ≤ 9; omega, rfl, by rw [zeroP_length]; show (0 : Int) + 1380 ≤ 8000; omega, by rw [zeroP_length]; show 20 + 0 + 1380 ≤ 2048; omega⟩
 have hfr := frags_q (h := (hdQ 9 (.slice none 0 0)).less) ((hdQ_raw (t := 9) (by unfold U8; omega) _).less (by show (1 : Int) ≤ 9; omega)) rfl
 obtain ⟨FR, hFR⟩ : ∃ x, frags (hdQ 9 (.slice none 0 0)).less zeroP 600 = x := ⟨_, rfl⟩
 rw [hFR] at hq hfr
 with_reducible refine hq.mono ?_
 clear hq hp2 hFR
 rintro e w9 ⟨ov2, base2, rfl, ho, hbs, hg⟩
 obtain ⟨oa2, oc2, rfl⟩ := ho.shape
 have HFR := Lib.hid hfr
 rw [hfr.1] at ho ⊢
 have HX9 := Lib.hid ((hg.block _ (lt_of_block HX8.out)).trans HX8.out)
 have HN9 := Lib.hid (HN8.out.mono hg)
 have HO9 := Lib.hid (HO8.out.mono hg)
 have HP9 := Lib.hid ho
 have HG9 := Lib.hid (HG8.out.trans hg)
 clear hg ho hbs hfr HX8 HA8 HN8 HO8 HB8 HG8 c0 c1 c2 c3
 go_upto_region 7 with fail
 have hN := heap_alloc_new w9 (.cells #[.int .i64 0, .int .i64 0, .slice none 0 0, .slice oa2 3 oc2] 48)
 have hg : Grow w9 (w9.alloc (.cells #[.int .i64 0, .int .i64 0, .slice none 0 0, .slice oa2 3 oc2] 48)) := (Grow.refl w9).alloc _
 obtain ⟨w10, hw10⟩ : ∃ x, w9.alloc (.cells #[.int .i64 0, .int .i64 0, .slice none 0 0, .slice oa2 3 oc2] 48) = x := ⟨_, rfl⟩
 rw [hw10] at hN hg ⊢
 obtain ⟨Y, hY⟩ : ∃ x, w9.heap.size = x := ⟨_, rfl⟩
 rw [hY] at hN ⊢
 have HY10 := Lib.hid hN
 have HX10 := Lib.hid ((hg.block _ (lt_of_block HX9.out)).trans HX9.out)
 have HN10 := Lib.hid (HN9.out.mono hg)
 have HO10 := Lib.hid (HO9.out.mono hg)
 have HP10 := Lib.hid (HP9.out.mono hg)
 have HG10 := Lib.hid (HG9.out.trans hg)
 clear hN hg hw10 hY HX9 HN9 HO9 HP9 HG9
 obtain ⟨x0, x1, x2, x3⟩ := blkB HX10.out
 obtain ⟨q1, rfl, p1, l1⟩ := out_port HO10.out (d := 0) (by have := HRl.out; omega)
 rw [HRl.out] at l1
 simp only [Nat.zero_mul] at p1
 have l1' : (1 : Int) ≤ (oc : Int) := by omega
 have HHas : Hid (∀ x, x = w10 → Calls Tryz.prog 47 #[.pointer (some ⟨B, 0, none⟩)] x fun e w' => e = .returned (.int .i64 4) ∧ w' = x) := fun x hx => by rw [hx]; exact bhas_any HN10.out.bucket
 go_wp2_with fail
 with_reducible refine (HHas.out _ rfl).mono ?_
 rintro e w11 ⟨rfl, rfl⟩
 clear x0 x1 x2 x3 p1 l1 l1' HHas
 obtain ⟨x0, x1, x2, x3⟩ := blkB HY10.out
 obtain ⟨q2, rfl, p2, l2⟩ := out_port HP10.out (d := 2) (by have := HFR.out.1; omega)
 obtain ⟨q2', xa, xc, e2, p3, t1, t2, t3⟩ := out_at HP10.out (d := 0) (by have := HFR.out.1; omega)
 clear t1 t2 t3
 injection e2 with e2
 injection e2 with e2
 subst e2
 rw [HFR.out.1] at l2
 simp only [Nat.zero_mul, Nat.zero_add] at p3
 have hle := HFR.out.2
 generalize (FR.getD 0 []).length = r0 at *
 have hle' : (r0 : Int) ≤ 600 := by omega
 go_wp2_with fail
 refine bodyPost_ret (v := .bool true) (by simp [results, Tryz.results20, go_sem]) rfl ?_
 exact ⟨rfl, HG10.out⟩
end
end Go.Proofs.YtgckhdepnmiejaaGreat
namespace Go.Proofs.YtgckhdepnmiejaaGreat
section
set_option maxRecDepth 100000
open Go.RowKit
set_option maxHeartbeats 1000000 in
theorem equal_len {ao bo : Option Addr} {m n c c' : Nat} (w : World) (h : ((m : Int) == (n : Int)) = false) (h2 : ((m : Int) != (n : Int)) = true) (h1 : m ≤ c) (hc : c ≤ maxLen) (h3 : n ≤ c') (hc' : c' ≤ maxLen) : Calls Tryz.prog 34 #[.slice ao m c, .slice bo n c'] w fun e w' => e = .returned (.bool false) ∧ Grow w w' := by
 unfold maxLen at *
 have HG := Lib.hid (Grow.refl w)
 go_enter Tryz.func34, Tryz.ntmps34
 go_wp2_with fail
 go_ret
 exact ⟨rfl, HG.out⟩
set_option maxHeartbeats 1000000 in
theorem equal_nil {ao bo : Option Addr} {c c' : Nat} (w : World) : Calls Tryz.prog 34 #[.slice ao 0 c, .slice bo 0 c'] w fun e w' => e = .returned (.bool true) ∧ Grow w w' := by
 have HG := Lib.hid (Grow.refl w)
 go_enter Tryz.func34, Tryz.ntmps34
 go_wp2_with fail
 go_loopw [13] (fun i wr => i = .int .i64 0 ∧ w = wr) (fun i _ => 0)
 case atStart => exact ⟨rfl, rfl⟩
 case round =>
  obtain ⟨rfl, rfl⟩ := hrel
  go_wp2_with fail
  go_ret
  exact ⟨rfl, HG.out⟩
theorem equal_any {v u : Value} {zs ys : List Int} {w : World} (h1 : BytesV w v zs) (h2 : BytesV w u ys) (hlz : zs.length ≤ 6000) : Calls Tryz.prog 34 #[v, u] w fun e w' => e = .returned (.bool (decide (zs = ys))) ∧ Grow w w' := by
 obtain ⟨ao, c, e1, l1, m1⟩ := h1.shape
 obtain ⟨bo, c', e2, l2, m2⟩ := h2.shape
 by_cases hl : zs.length = ys.length
 ·by_cases hz : zs = []
  ·subst hz
   have hy : ys = [] := List.eq_nil_of_length_eq_zero hl.symm
   subst hy
   subst e1; subst e2
   exact equal_nil w
  ·obtain ⟨b, off, cap, rfl, _, hm⟩ := h1.2.solid hz
   obtain ⟨b', off', cap', rfl, _, _⟩ := h2.2.solid (fun h => hz (List.eq_nil_of_length_eq_zero (by rw [hl, h]; rfl)))
   have hc1 := h1.2.cells
   have hc2 := h2.2.cells
   have := bytes_equal (w := w) (b := b) (off := off) (c := cap) (b' := b') (off' := off') (c' := cap') (n := zs.length) (zs := zs) (ys := ys) rfl hl.symm (by unfold maxLen at *; omega) hc1 (fun i hi => hc2 i (by omega))
   rw [← hl]
   refine this.mono ?_
   rintro e w' ⟨rfl, q, rfl⟩
   exact ⟨rfl, grow_dn (Grow.refl w) q⟩
 ·have e : decide (zs = ys) = false := decide_eq_false (fun h => hl (by rw [h]))
  rw [e, e1, e2]
  have hne : (zs.length : Int) ≠ (ys.length : Int) := by omega
  exact equal_len w (by simpa using hne) (by simpa using hne) l1 m1 l2 m2
set_option maxHeartbeats 2000000 in
theorem same_cells {tos id off ttl proto src dst : Int} {evil df mf : Bool} {ao bo : Option Addr} {m m' cap cap' : Nat} {w : World} (HE : ∀ x, Grow w x → Calls Tryz.prog 34 #[.slice ao m cap, .slice bo m' cap'] x fun e w' => e = .returned (.bool true) ∧ Grow x w') :
  Calls Tryz.prog 12 #[.agg #[.int .u8 tos, .int .u16 id, .bool evil, .bool df, .bool mf, .int .i64 off, .int .u8 ttl, .int .u8 proto, .int .u32 src, .int .u32 dst, .slice ao m cap], .agg #[.int .u8 tos, .int .u16 id, .bool evil, .bool df, .bool mf, .int .i64 off, .int .u8 ttl, .int .u8 proto, .int .u32 src, .int .u32 dst, .slice bo m' cap']] w fun e w' => e = .returned (.bool true) ∧ Grow w w' := by
 have HEq := Lib.hid HE
 clear HE
 have hA : ((w.alloc (.cells #[.int .u8 tos, .int .u16 id, .bool evil, .bool df, .bool mf, .int .i64 off, .int .u8 ttl, .int .u8 proto, .int .u32 src, .int .u32 dst, .slice ao m cap] 27)).alloc (.cells #[.int .u8 tos, .int .u16 id, .bool evil, .bool df, .bool mf, .int .i64 off, .int .u8 ttl, .int .u8 proto, .int .u32 src, .int .u32 dst, .slice bo m' cap'] 27)).heap[w.heap.size]? = some (.cells #[.int .u8 tos, .int .u16 id, .bool evil, .bool df, .bool mf, .int .i64 off, .int .u8 ttl, .int .u8 proto, .int .u32 src, .int .u32 dst, .slice ao m cap] 27 (0, 0)) := by
  rw [Below.heap_alloc _ _ _ (by simp)]; exact heap_alloc_new w _
 have hB : ((w.alloc (.cells #[.int .u8 tos, .int .u16 id, .bool evil, .bool df, .bool mf, .int .i64 off, .int .u8 ttl, .int .u8 proto, .int .u32 src, .int .u32 dst, .slice ao m cap] 27)).alloc (.cells #[.int .u8 tos, .int .u16 id, .bool evil, .bool df, .bool mf, .int .i64 off, .int .u8 ttl, .int .u8 proto, .int .u32 src, .int .u32 dst, .slice bo m' cap'] 27)).heap[w.heap.size + 1]? = some (.cells #[.int .u8 tos, .int .u16 id, .bool evil, .bool df, .bool mf, .int .i64 off, .int .u8 ttl, .int .u8 proto, .int .u32 src, .int .u32 dst, .slice bo m' cap'] 27 (0, 0)) := by
  have e := heap_alloc_new (w.alloc (.cells #[.int .u8 tos, .int .u16 id, .bool evil, .bool df, .bool mf, .int .i64 off, .int .u8 ttl, .int .u8 proto, .int .u32 src, .int .u32 dst, .slice ao m cap] 27)) (.cells #[.int .u8 tos, .int .u16 id, .bool evil, .bool df, .bool mf, .int .i64 off, .int .u8 ttl, .int .u8 proto, .int .u32 src, .int .u32 dst, .slice bo m' cap'] 27)
  rwa [World.size_alloc] at e
 have HA := Lib.hid hA
 have HB := Lib.hid hB
 have HG : Hid (Grow w ((w.alloc (.cells #[.int .u8 tos, .int .u16 id, .bool evil, .bool df, .bool mf, .int .i64 off, .int .u8 ttl, .int .u8 proto, .int .u32 src, .int .u32 dst, .slice ao m cap] 27)).alloc (.cells #[.int .u8 tos, .int .u16 id, .bool evil, .bool df, .bool mf, .int .i64 off, .int .u8 ttl, .int .u8 proto, .int .u32 src, .int .u32 dst, .slice bo m' cap'] 27))) := ((Grow.refl w).alloc _).alloc _
 clear hA hB
 go_enter Tryz.func12, Tryz.ntmps12
 go_wp2_with fail
 have HC := Lib.hid (HEq.out _ HG.out)
 with_reducible refine HC.out.mono ?_
 rintro e w1 ⟨rfl, hg⟩
 obtain ⟨⟨c0, c1, c2, c3, c4, c5⟩, c6, c7, c8, c9, c10⟩ := blkH ((hg.block _ (lt_of_block HA.out)).trans HA.out)
 obtain ⟨⟨d0, d1, d2, d3, d4, d5⟩, d6, d7, d8, d9, d10⟩ := blkH ((hg.block _ (lt_of_block HB.out)).trans HB.out)
 have HG1 := Lib.hid (HG.out.trans hg)
 clear hg HC
 go_wp2_with fail
 go_ret
 exact ⟨by first | rfl | simp, HG1.out⟩
theorem same_hdr {h : Hd} {v v' : Value} {w : World} (h1 : BytesV w v h.os) (h2 : BytesV w v' h.os) (hl : h.os.length ≤ 6000) :
  Calls Tryz.prog 12 #[({ h with v := v } : Hd).val, ({ h with v := v' } : Hd).val] w fun e w' => e = .returned (.bool true) ∧ Grow w w' := by
 obtain ⟨ao, cap, rfl, _, _⟩ := h1.shape
 obtain ⟨bo, cap', rfl, _, _⟩ := h2.shape
 refine same_cells (fun x hx => ?_)
 have := equal_any (h1.mono hx) (h2.mono hx) hl
 rwa [decide_eq_true rfl] at this
end
end Go.Proofs.YtgckhdepnmiejaaGreat
