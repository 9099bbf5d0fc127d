/- fwd's run: the error of a packet whose TTL is used up (and what stands on it). -/
import Derived.LoopTactic
import Derived.Test.YtgckhdepnmiejaaGreatZ01
import Derived.Test.YtgckhdepnmiejaaGreatZ03
import Derived.Test.YtgckhdepnmiejaaGreatZ04
import Derived.Test.YtgckhdepnmiejaaGreatZ10
import Derived.Test.YtgckhdepnmiejaaGreatZ11
import Derived.Test.YtgckhdepnmiejaaGreatZ12
import Derived.Test.YtgckhdepnmiejaaGreatZ13
import Derived.Test.YtgckhdepnmiejaaGreatZ17
set_option linter.unusedVariables false
set_option linter.unusedSimpArgs false
namespace Go.Proofs.YtgckhdepnmiejaaGreat
section
set_option maxRecDepth 100000
open Go.RowKit
def TwoB (R B : Nat) : Nat → Prop := fun k => k = R ∨ k = B
theorem PktAt.but {M : Nat → Prop} {w w' : World} {b off L cap Z S : Nat} {zs : List Int} {h : Hd} {pl : List Int} (p : PktAt w b off L cap Z S zs h pl) (hg : GrowBut M w w') (hb : ¬ M b) : PktAt w' b off L cap Z S zs h pl :=
 { p with cell := fun i hi => hg.cell (p.cell i hi) hb }
theorem err_rows {own dst : Int} {ys : List Int} (h : ys.length = 35) : (frags (errHd own dst) ys 1500).length = 1 := by
 unfold frags
 rw [if_pos (by rw [h]; show 20 + 0 + 35 ≤ 1500; omega)]
 rfl
def TellR (w : World) (R B : Nat) (r : Rn) (e : Ending) (w' : World) : Prop := e = .returned (.bool true) ∧ ∃ ov base rows, RunAt w' R { r with err := 3, out := ov } ∧ OutRow w' base ov 0 rows ∧ rows.length = 1 ∧ w.heap.size ≤ base ∧ BucketAt w' B 64 1 4 0 ∧ GrowBut (TwoB R B) w w'
set_option maxHeartbeats 4000000 in
theorem tell_known {w : World} {b off cap Z S : Nat} {zs pl : List Int} {v : Value} (p : PktAt w b off 27 cap Z S zs (hdK v) pl) (h7 : pl.length = 7) {R B mb mo mn mc F : Nat} {tos id of ttl proto src dst kind pt drop err : Int} {evil df mf : Bool} {hv loc : Value} {os : List Int}
  (hR : RunAt w R ⟨.pointer (some ⟨F, 0, none⟩), 167772161, .slice (some ⟨mb, mo, none⟩) mn mc, .pointer (some ⟨B, 0, none⟩), .slice (some ⟨b, off, none⟩) 27 cap, ⟨tos, id, evil, df, mf, of, ttl, proto, src, dst, hv, os⟩, kind, pt, drop, err, loc, .slice none 0 0⟩) (hB : BucketAt w B 64 1 5 0) (hRB : R ≠ B) (hb : b ≠ R ∧ b ≠ B) (hmb : mb ≠ R ∧ mb ≠ B) (hn : 0 < mn ∧ mn ≤ mc)
  (hcM : w.cell? ⟨mb, mo, none⟩ = some (.int .i64 1500)) (hpk : ∀ x, GrowBut (TwoB R B) w x → PicksTo x (.pointer (some ⟨F, 0, none⟩)) 184549381 3 0) :
  Calls Tryz.prog 65 #[.pointer (some ⟨R, 0, none⟩), .int .i64 3, .int .i64 0] w (TellR w R B ⟨.pointer (some ⟨F, 0, none⟩), 167772161, .slice (some ⟨mb, mo, none⟩) mn mc, .pointer (some ⟨B, 0, none⟩), .slice (some ⟨b, off, none⟩) 27 cap, ⟨tos, id, evil, df, mf, of, ttl, proto, src, dst, hv, os⟩, kind, pt, drop, err, loc, .slice none 0 0⟩) := by
 have HP := Lib.hid p
 have H7 := Lib.hid h7
 have HRf : Hid (w.heap[R]? = some (.cells #[.pointer (some ⟨F, 0, none⟩), .int .u32 167772161, .slice (some ⟨mb, mo, none⟩) mn mc, .pointer (some ⟨B, 0, none⟩), .slice (some ⟨b, off, none⟩) 27 cap, .int .u8 tos, .int .u16 id, .bool evil, .bool df, .bool mf, .int .i64 of, .int .u8 ttl, .int .u8 proto, .int .u32 src, .int .u32 dst, hv, .int .i64 kind, .int .i64 pt, .int .i64 drop, .int .i64 err, loc, .slice none 0 0] 114 (0, 0))) := hR
 have HBk := Lib.hid hB
 have HNe := Lib.hid (And.intro hRB (And.intro hb hmb))
 have HN := Lib.hid hn
 have HcM := Lib.hid hcM
 have HPk := Lib.hid hpk
 have HMay : Hid (Calls Tryz.prog 90 #[.slice (some ⟨b, off, none⟩) 27 cap] w fun e w' => e = .returned (.bool true) ∧ Grow w w') := icmpMay p (by omega)
 clear p h7 hR hB hRB hb hmb hn hcM hpk
 obtain ⟨⟨c0, c1, c2, c3, c4, c5⟩, ⟨c6, c7, c8, c9, c10, c11⟩, ⟨c12, c13, c14, c15, c16, c17⟩, c18, c19, c20, c21⟩ := blkR HRf.out
 go_enter Tryz.func65, Tryz.ntmps65
 go_wp2_with fail
 with_reducible refine HMay.out.mono ?_
 rintro e w1 ⟨rfl, hg⟩
 clear c0 c1 c2 c3 c4 c5 c6 c7 c8 c9 c10 c11 c12 c13 c14 c15 c16 c17 c18 c19 c20 c21 HMay
 have HG1 := Lib.hid hg
 have HR1 := Lib.hid ((hg.block _ (lt_of_block HRf.out)).trans HRf.out)
 have HB1 : Hid (BucketAt w1 B 64 1 5 0) := (hg.block _ (lt_of_block HBk.out)).trans HBk.out
 clear hg
 obtain ⟨⟨c0, c1, c2, c3, c4, c5⟩, ⟨c6, c7, c8, c9, c10, c11⟩, ⟨c12, c13, c14, c15, c16, c17⟩, c18, c19, c20, c21⟩ := blkR HR1.out
 go_wp2_with fail
 have hq := btake_any HB1.out (by omega)
 with_reducible refine hq.mono ?_
 clear hq
 rintro e w2 ⟨rfl, hb2, hg⟩
 clear c0 c1 c2 c3 c4 c5 c6 c7 c8 c9 c10 c11 c12 c13 c14 c15 c16 c17 c18 c19 c20 c21
 have HG2 : Hid (GrowBut (TwoB R B) w w2) := (GrowBut.of_below HG1.out).trans (hg.weaken (fun k e => Or.inr e))
 have HR2 := Lib.hid ((hg.block _ (lt_of_block HR1.out) (fun e => HNe.out.1 e)).trans HR1.out)
 have HB2 : Hid (BucketAt w2 B 64 1 4 0) := hb2
 clear hg hb2 HR1 HB1 HG1
 obtain ⟨⟨c0, c1, c2, c3, c4, c5⟩, ⟨c6, c7, c8, c9, c10, c11⟩, ⟨c12, c13, c14, c15, c16, c17⟩, c18, c19, c20, c21⟩ := blkR HR2.out
 have z19 : w2.frozen? ⟨R, 19, none⟩ = false := by simp [World.frozen?, HR2.out]
 go_upto_region 6 with fail
 clear c0 c1 c2 c3 c4 c5 c6 c7 c8 c9 c10 c11 c12 c13 c14 c15 c16 c17 c18 c19 c20 c21 z19
 have hr := heap_setCell_same _ _ 19 _ _ (.int .i64 3) HR2.out
 have hb : BucketAt (w2.setCell ⟨R, 19, none⟩ (.int .i64 3)) B 64 1 4 0 := (Below.heap_setCell w2 ⟨R, 19, none⟩ (.int .i64 3) B (show B ≠ R from fun e => HNe.out.1 e.symm)).trans HB2.out
 have hg : GrowBut (TwoB R B) w (w2.setCell ⟨R, 19, none⟩ (.int .i64 3)) := HG2.out.trans ((only_set (R := R) (i := 19) (w := w2) (.int .i64 3)).weaken (fun k e => Or.inl e))
 obtain ⟨w3, hw3⟩ : ∃ x, w2.setCell ⟨R, 19, none⟩ (.int .i64 3) = x := ⟨_, rfl⟩
 rw [hw3] at hr hb hg ⊢
 have HR3 : Hid (w3.heap[R]? = some (.cells #[.pointer (some ⟨F, 0, none⟩), .int .u32 167772161, .slice (some ⟨mb, mo, none⟩) mn mc, .pointer (some ⟨B, 0, none⟩), .slice (some ⟨b, off, none⟩) 27 cap, .int .u8 tos, .int .u16 id, .bool evil, .bool df, .bool mf, .int .i64 of, .int .u8 ttl, .int .u8 proto, .int .u32 src, .int .u32 dst, hv, .int .i64 kind, .int .i64 pt, .int .i64 drop, .int .i64 3, loc, .slice none 0 0] 114 (0, 0))) := hr
 have HB3 := Lib.hid hb
 have HG3 := Lib.hid hg
 have HE : Hid (∀ x, Grow w3 x → Calls Tryz.prog 91 #[.int .i64 3, .slice (some ⟨b, off, none⟩) 27 cap, .int .u32 167772161, .int .i64 0] x (ErrPkt x 35 167772161 184549381)) := fun x hx => error_known ((HP.out.but HG3.out (fun e => by rcases e with e | e; exact HNe.out.2.1.1 e; exact HNe.out.2.1.2 e)).mono hx) H7.out
 clear hr hb hg hw3 HR2 HB2 HG2
 refine wpRg 16 ?_
 simp only [List.take_succ_cons, List.take_zero, List.drop_succ_cons, List.drop_zero]
 repeat (refine wpHp fun K hK => ?_; go_simp; refine hK _ ?_; clear hK K)
 refine wpHd (.slice (some ⟨b, off, none⟩) 27 cap) (fun w' hg => ?_) ?_
 ·obtain ⟨⟨y0, y1, y2, y3, y4, y5⟩, ⟨y6, y7, y8, y9, y10, y11⟩, ⟨y12, y13, y14, y15, y16, y17⟩, y18, y19, y20, y21⟩ := blkR ((hg.below.block _ (lt_of_block HR3.out)).trans HR3.out)
  clear hg
  go_simp
  exact Below.refl _ _
 try go_simp
 repeat (refine wpHp fun K hK => ?_; go_simp; refine hK _ ?_; clear hK K)
 refine wpHd (.int .u32 167772161) (fun w' hg => ?_) ?_
 ·obtain ⟨⟨y0, y1, y2, y3, y4, y5⟩, ⟨y6, y7, y8, y9, y10, y11⟩, ⟨y12, y13, y14, y15, y16, y17⟩, y18, y19, y20, y21⟩ := blkR ((hg.below.block _ (lt_of_block HR3.out)).trans HR3.out)
  clear hg
  go_simp
  exact Below.refl _ _
 try go_simp
 repeat (refine wpHp fun K hK => ?_; go_simp; refine hK _ ?_; clear hK K)
 refine wpH_hid' (SomeP w3.heap.size 35 167772161 184549381) (by intro _ _ h; cases h) rfl (by rfl) (fun u x x' hg ⟨v, ys, h1, h2, h3, h4⟩ => ⟨v, ys, h1, h2, h3, own_grow h4 hg.below⟩) (by rfl) (by rfl) (fun w' hg => ?_) ?_
 ·have h := HE.out w' hg.below
  have HS := Lib.hid hg.below.size
  clear hg
  go_simp
  with_reducible refine h.mono ?_
  rintro e w1 ⟨u, ys, rfl, h1, h2, h3⟩
  exact ⟨_, rfl, ⟨u, ys, rfl, h1, h2, own_less h3.1 HS.out⟩, h3.2⟩
 try go_simp
 refine wpH_hid (SomeP w3.heap.size 35 167772161 184549381) rfl (by rfl) (fun u x x' hg ⟨v, ys, h1, h2, h3, h4⟩ => ⟨v, ys, h1, h2, h3, own_grow h4 hg.below⟩) (fun xs => by rfl) (fun xs w' hg hf => ?_) ?_
 ·have h1 := hf _ (List.Mem.head _) (by rfl)
  try dsimp only at h1
  clear hf hg
  simp only [fill]
  generalize xs 43 = y43 at *
  have HR := Lib.hid h1
  clear h1
  go_simp
  exact ⟨HR.out, Below.refl _ _⟩
 try go_simp
 refine wpH_hid (SomeQ w3.heap.size 35 167772161 184549381) rfl (by rfl) (fun u x x' hg ⟨ys, h2, h3, h4⟩ => ⟨ys, h2, h3, own_grow h4 hg.below⟩) (fun xs => by rfl) (fun xs w' hg hf => ?_) ?_
 ·have h1 := hf _ (List.Mem.head _) (by rfl)
  try dsimp only at h1
  clear hf hg
  simp only [fill]
  generalize xs 32 = y32 at *
  generalize xs 43 = y43 at *
  obtain ⟨v, ys, rfl, h2, h3, h4⟩ := h1
  have HR := Lib.hid (And.intro h2 (And.intro h3 h4))
  clear h2 h3 h4
  go_simp
  exact ⟨⟨ys, HR.out⟩, Below.refl _ _⟩
 try go_simp
 refine wpH_det (.int .i64 0) (by rfl) (fun xs => by rfl) (fun xs w' hg hf => ?_) ?_
 ·have h1 := hf _ (List.Mem.tail _ (List.Mem.head _)) (by rfl)
  try dsimp only at h1
  clear hf hg
  simp only [fill]
  generalize xs 44 = y44 at *
  generalize xs 32 = y32 at *
  generalize xs 43 = y43 at *
  obtain ⟨v, ys, rfl, h2, h3, h4⟩ := h1
  clear h2 h3 h4
  go_simp
  exact Below.refl _ _
 try go_simp
 refine wpH_hid (SomeQ w3.heap.size 35 167772161 184549381) rfl (by rfl) (fun u x x' hg ⟨ys, h2, h3, h4⟩ => ⟨ys, h2, h3, own_grow h4 hg.below⟩) (fun xs => by rfl) (fun xs w' hg hf => ?_) ?_
 ·have h1 := hf _ (List.Mem.head _) (by rfl)
  try dsimp only at h1
  clear hf hg
  simp only [fill]
  generalize xs 44 = y44 at *
  generalize xs 32 = y32 at *
  generalize xs 43 = y43 at *
  have HR := Lib.hid h1
  clear h1
  go_simp
  exact ⟨HR.out, Below.refl _ _⟩
 try go_simp
 repeat (refine wpHp fun K hK => ?_; go_simp; refine hK _ ?_; clear hK K)
 refine wpH_nil ?_
 intro xs w4 hg hx1 hx2
 have hy := hx2 _ _ (List.Mem.head _)
 try dsimp only at hy
 have HG4 := Lib.hid (HG3.out.trans (GrowBut.of_below hg.below))
 have HR4 := Lib.hid ((hg.below.block _ (lt_of_block HR3.out)).trans HR3.out)
 have HB4 : Hid (BucketAt w4 B 64 1 4 0) := (hg.below.block _ (lt_of_block HB3.out)).trans HB3.out
 clear hg hx1 hx2 HE HB3 HR3
 simp only [fill]
 generalize xs 7 = u at *
 generalize xs 44 = y44 at *
 generalize xs 32 = y32 at *
 generalize xs 43 = y43 at *
 obtain ⟨ys, h1, h2, h3⟩ := hy
 have hraw : Raw (errHd 167772161 184549381) := raw_of (errHd_ok (w := w4) (by unfold U32; omega) (by unfold U32; omega)) (errHd_may _ _)
 obtain ⟨eb, eo, eL, ec, eZ, eS, rfl, hp4⟩ := pktAt_of hraw h2 (by rw [h1]; show 20 + 0 + 35 ≤ 65535; omega) ⟨pkt_bytes hraw h2, ints_of_owns h3⟩
 have HPe := Lib.hid hp4
 have HRw := Lib.hid (err_rows (own := 167772161) (dst := 184549381) h1)
 have HL := Lib.hid (show eL ≤ 10000 by have e1 := hp4.lz; have e2 := hp4.z; rw [h1] at e1; have : (errHd 167772161 184549381).os.length = 0 := rfl; omega)
 have Hys := Lib.hid h1
 clear h1 h2 h3 hp4 hraw
 go_simp
 go_wp2_with fail
 have hcm : w4.cell? ⟨mb, mo + 0, none⟩ = some (.int .i64 ((1500 : Nat) : Int)) := HG4.out.cell HcM.out (fun e => by rcases e with e | e; exact HNe.out.2.2.1 e; exact HNe.out.2.2.2 e)
 have hq := send_any (M := 1500) (port := 0) HPe.out HL.out (r := ⟨.pointer (some ⟨F, 0, none⟩), 167772161, .slice (some ⟨mb, mo, none⟩) mn mc, .pointer (some ⟨B, 0, none⟩), .slice (some ⟨b, off, none⟩) 27 cap, ⟨tos, id, evil, df, mf, of, ttl, proto, src, dst, hv, os⟩, kind, pt, drop, 3, loc, .slice none 0 0⟩) HR4.out rfl rfl HN.out.1 HN.out.2 hcm (by omega) rfl (by show (0 : Int) + _ ≤ 8000; rw [Hys.out]; omega) (HPk.out _ HG4.out)
 with_reducible refine hq.mono ?_
 clear hq hcm
 rintro e w5 ⟨rfl, ov, base, h1, h2, h3, h4⟩
 have HR5 := Lib.hid h1
 have HO5 := Lib.hid (And.intro h2 h3)
 have HB5 : Hid (BucketAt w5 B 64 1 4 0) := (h4.block _ (lt_of_block HB4.out) (fun e => HNe.out.1 (show B = R from e).symm)).trans HB4.out
 have HG5 := Lib.hid (HG4.out.trans (h4.weaken (fun k e => Or.inl e)))
 clear h1 h2 h3 h4
 go_wp2_with fail
 refine bodyPost_ret (v := .bool true) (by simp [results, Tryz.results65, go_sem]) rfl ?_
 exact ⟨rfl, ov, base, _, HR5.out, HO5.out.1, HRw.out, Nat.le_trans HG4.out.size HO5.out.2, HB5.out, HG5.out⟩
end
end Go.Proofs.YtgckhdepnmiejaaGreat
namespace Go.Proofs.YtgckhdepnmiejaaGreat
section
set_option maxRecDepth 100000
open Go.RowKit
theorem Fib3.but {M : Nat → Prop} {w w' : World} {F : Nat} (h : Fib3 w F) (hg : GrowBut M w w') (hM : ∀ k cs T, M k → w.heap[k]? = some (.cells cs T (0, 0)) → T ≠ 129 ∧ T ≠ 159 ∧ T ≠ 168) : Fib3 w' F := by
 obtain ⟨T, N, X1, Y1, X2, Y2, h0, h1, h2, h3, h4, h5⟩ := h
 exact ⟨T, N, X1, Y1, X2, Y2, (hg.block _ (lt_of_block h0) (fun e => (hM _ _ _ e h0).1 rfl)).trans h0, (hg.block _ (lt_of_block h1) (fun e => (hM _ _ _ e h1).2.1 rfl)).trans h1, (hg.block _ (lt_of_block h2) (fun e => (hM _ _ _ e h2).2.2 rfl)).trans h2,
  (hg.block _ (lt_of_block h3) (fun e => (hM _ _ _ e h3).2.2 rfl)).trans h3, (hg.block _ (lt_of_block h4) (fun e => (hM _ _ _ e h4).2.2 rfl)).trans h4, (hg.block _ (lt_of_block h5) (fun e => (hM _ _ _ e h5).2.2 rfl)).trans h5⟩
theorem bucket_not {w : World} {B : Nat} {a b c d : Int} (hB : BucketAt w B a b c d) : ∀ k cs T, k = B → w.heap[k]? = some (.cells cs T (0, 0)) → T ≠ 129 ∧ T ≠ 159 ∧ T ≠ 168 := by
 intro k cs T e h
 unfold BucketAt at hB
 rw [e, hB] at h
 injection h with h
 injection h with _ h _
 subst h
 decide
theorem run_not {w : World} {R : Nat} {r : Rn} (hR : RunAt w R r) : ∀ k cs T, k = R → w.heap[k]? = some (.cells cs T (0, 0)) → T ≠ 129 ∧ T ≠ 159 ∧ T ≠ 168 := by
 intro k cs T e h
 unfold RunAt at hR
 rw [e, hR] at h
 injection h with h
 injection h with _ h _
 subst h
 decide
/-- The chapter's node: its table, its bucket of so many tokens, its MTUs. -/
structure Node3 (w : World) (F B mb : Nat) (tok : Int) : Prop where
 fib : Fib3 w F
 bucket : BucketAt w B 64 1 tok 0
 mtus : w.heap[mb]? = some (.cells #[.int .i64 1500, .int .i64 600] 3 (0, 0))
theorem Node3.ne {w : World} {F B mb : Nat} {tok : Int} (n : Node3 w F B mb tok) : mb ≠ B := by
 have h := n.bucket
 unfold BucketAt at h
 intro e
 rw [← e, n.mtus] at h
 injection h with h
 injection h with _ h _
 revert h; decide
theorem Node3.ints {w : World} {F B mb : Nat} {tok : Int} (n : Node3 w F B mb tok) : IntsV .i64 w (.slice (some ⟨mb, 0, none⟩) 2 2) [1500, 600] := by
 refine Or.inr ⟨mb, 0, 2, rfl, Nat.le_refl _, by unfold maxLen; omega, fun i hi => ?_⟩
 match i, hi with
 | 0, _ => simp [World.cell?, n.mtus]
 | 1, _ => simp [World.cell?, n.mtus]
theorem Node3.but {w w' : World} {F B mb : Nat} {tok t2 : Int} (n : Node3 w F B mb tok) (hg : GrowBut (Only B) w w') (hb : BucketAt w' B 64 1 t2 0) : Node3 w' F B mb t2 :=
 ⟨n.fib.but hg (fun k cs T e h => bucket_not n.bucket k cs T e h), hb, (hg.block _ (lt_of_block n.mtus) (fun e => n.ne e)).trans n.mtus⟩
theorem Node3.mono {w w' : World} {F B mb : Nat} {tok : Int} (n : Node3 w F B mb tok) (hg : Grow w w') : Node3 w' F B mb tok :=
 ⟨n.fib.mono hg, (hg.block _ (lt_of_block n.bucket)).trans n.bucket, (hg.block _ (lt_of_block n.mtus)).trans n.mtus⟩
set_option maxHeartbeats 2000000 in
theorem on_tell {w : World} {R B b off cap mb mo mn mc F : Nat} {tos id of proto src dst kind pt drop err : Int} {evil df mf : Bool} {hv loc : Value} {os : List Int}
  (hR : RunAt w R ⟨.pointer (some ⟨F, 0, none⟩), 167772161, .slice (some ⟨mb, mo, none⟩) mn mc, .pointer (some ⟨B, 0, none⟩), .slice (some ⟨b, off, none⟩) 27 cap, ⟨tos, id, evil, df, mf, of, 1, proto, src, dst, hv, os⟩, kind, pt, drop, err, loc, .slice none 0 0⟩)
  (hT : Calls Tryz.prog 65 #[.pointer (some ⟨R, 0, none⟩), .int .i64 3, .int .i64 0] w (TellR w R B ⟨.pointer (some ⟨F, 0, none⟩), 167772161, .slice (some ⟨mb, mo, none⟩) mn mc, .pointer (some ⟨B, 0, none⟩), .slice (some ⟨b, off, none⟩) 27 cap, ⟨tos, id, evil, df, mf, of, 1, proto, src, dst, hv, os⟩, kind, pt, drop, err, loc, .slice none 0 0⟩)) :
  Calls Tryz.prog 45 #[.pointer (some ⟨R, 0, none⟩)] w (TellR w R B ⟨.pointer (some ⟨F, 0, none⟩), 167772161, .slice (some ⟨mb, mo, none⟩) mn mc, .pointer (some ⟨B, 0, none⟩), .slice (some ⟨b, off, none⟩) 27 cap, ⟨tos, id, evil, df, mf, of, 1, proto, src, dst, hv, os⟩, kind, pt, drop, err, loc, .slice none 0 0⟩) := by
 have HRf : Hid (w.heap[R]? = some (.cells #[.pointer (some ⟨F, 0, none⟩), .int .u32 167772161, .slice (some ⟨mb, mo, none⟩) mn mc, .pointer (some ⟨B, 0, none⟩), .slice (some ⟨b, off, none⟩) 27 cap, .int .u8 tos, .int .u16 id, .bool evil, .bool df, .bool mf, .int .i64 of, .int .u8 1, .int .u8 proto, .int .u32 src, .int .u32 dst, hv, .int .i64 kind, .int .i64 pt, .int .i64 drop, .int .i64 err, loc, .slice none 0 0] 114 (0, 0))) := hR
 have HT := Lib.hid hT
 clear hR hT
 obtain ⟨⟨c0, c1, c2, c3, c4, c5⟩, ⟨c6, c7, c8, c9, c10, c11⟩, ⟨c12, c13, c14, c15, c16, c17⟩, c18, c19, c20, c21⟩ := blkR HRf.out
 go_enter Tryz.func45, Tryz.ntmps45
 go_wp2_with fail
 with_reducible refine HT.out.mono ?_
 rintro e w1 ⟨rfl, h⟩
 have HH := Lib.hid h
 clear h HT
 go_wp2_with fail
 refine bodyPost_ret (v := .bool true) (by simp [results, Tryz.results45, go_sem]) rfl ?_
 exact ⟨rfl, HH.out⟩
def Judged1 (w : World) (B : Nat) (e : Ending) (w' : World) : Prop :=
 ∃ ov base rows, e = .returned (.tuple #[.agg #[.int .i64 0, .int .i64 3, .slice none 0 0, ov], .int .i64 0]) ∧ OutRow w' base ov 0 rows ∧ rows.length = 1 ∧ w.heap.size ≤ base ∧ BucketAt w' B 64 1 4 0 ∧ GrowBut (Only B) w w'
set_option maxHeartbeats 8000000 in
theorem judge_tell {w : World} {b off cap Z S : Nat} {zs pl : List Int} {v0 : Value} (p : PktAt w b off 27 cap Z S zs (hdK v0) pl) (h7 : pl.length = 7) {F B mb : Nat} (g : Node3 w F B mb 5) :
  Calls Tryz.prog 18 #[.pointer (some ⟨F, 0, none⟩), .int .u32 167772161, .slice (some ⟨mb, 0, none⟩) 2 2, .pointer (some ⟨B, 0, none⟩), .slice (some ⟨b, off, none⟩) 27 cap] w (Judged1 w B) := by
 have HP := Lib.hid p
 have H7 := Lib.hid h7
 have HGo := Lib.hid g
 have hb0 : b < w.heap.size := block_lt (p.cell 0 (by omega))
 have HB0 := Lib.hid hb0
 have HCopy : Hid (∀ x, Grow w x → Calls Tryz.prog 40 #[.pointer (some ⟨B, 0, none⟩)] x fun e w' => (∃ Q, e = .returned (.pointer (some ⟨Q, 0, none⟩))) ∧ Grow x w') := fun x hx => bcopy_any (g.mono hx).bucket (by decide)
 have HWr : Hid (∀ x, Grow w x → Calls Tryz.prog 41 #[.pointer (some ⟨F, 0, none⟩), .slice (some ⟨mb, 0, none⟩) 2 2, .slice (some ⟨b, off, none⟩) 27 cap] x fun e w' => e = .returned (.int .i64 0) ∧ w' = x) := fun x hx => fwrong_any (g.mono hx).ints (by intro m hm; simp at hm; omega) (by omega) (by omega)
 have hmf : ∀ (fn : Fn) (first cap : Array Value) (w : World), (Instr.makeFunc fn first cap).run Tryz.prog w = .ok (.func fn first cap) w := fun _ _ _ _ => rfl
 have HG0 : Hid (Grow w (w.alloc (.cells #[.int .i64 0, .int .i64 0, .slice none 0 0, .slice none 0 0] 48))) := (Grow.refl w).alloc _
 have HN0 := Lib.hid (heap_alloc_new w (.cells #[.int .i64 0, .int .i64 0, .slice none 0 0, .slice none 0 0] 48))
 clear p g hb0 h7
 go_enter Tryz.func18, Tryz.ntmps18
 go_wp2_with fail
 with_reducible refine (HCopy.out _ HG0.out).mono ?_
 rintro e w1 ⟨⟨Q, rfl⟩, hg⟩
 have HG1 := Lib.hid (HG0.out.trans hg)
 have HN1 := Lib.hid ((hg.block _ (lt_of_block HN0.out)).trans HN0.out)
 clear hg HCopy
 go_wp2_with fail
 with_reducible refine (HWr.out _ HG1.out).mono ?_
 rintro e w1' ⟨rfl, rfl⟩
 go_wp2_with fail
 obtain ⟨w2, hw2⟩ : ∃ x, (w1'.alloc (.cells #[.pointer (some ⟨F, 0, none⟩), .int .u32 167772161, .slice (some ⟨mb, 0, none⟩) 2 2, .pointer (some ⟨B, 0, none⟩), .slice (some ⟨b, off, none⟩) 27 cap, .int .u8 0, .int .u16 0, .bool false, .bool false, .bool false, .int .i64 0, .int .u8 0, .int .u8 0, .int .u32 0, .int .u32 0, .slice none 0 0, .int .i64 0, .int .i64 0, .int .i64 0, .int .i64 0, .slice none 0 0, .slice none 0 0] 114)).alloc (.cells #[.func (.func 42) #[.pointer (some ⟨w1'.heap.size, 0, none⟩)] #[], .func (.func 43) #[.pointer (some ⟨w1'.heap.size, 0, none⟩)] #[], .func (.func 44) #[.pointer (some ⟨w1'.heap.size, 0, none⟩)] #[], .func (.func 45) #[.pointer (some ⟨w1'.heap.size, 0, none⟩)] #[]] 31) = x := ⟨_, rfl⟩
 have hsA : (w1'.alloc (.cells #[.pointer (some ⟨F, 0, none⟩), .int .u32 167772161, .slice (some ⟨mb, 0, none⟩) 2 2, .pointer (some ⟨B, 0, none⟩), .slice (some ⟨b, off, none⟩) 27 cap, .int .u8 0, .int .u16 0, .bool false, .bool false, .bool false, .int .i64 0, .int .u8 0, .int .u8 0, .int .u32 0, .int .u32 0, .slice none 0 0, .int .i64 0, .int .i64 0, .int .i64 0, .int .i64 0, .slice none 0 0, .slice none 0 0] 114)).heap.size = w1'.heap.size + 1 := World.size_alloc _ _
 have hB := heap_alloc_new (w1'.alloc (.cells #[.pointer (some ⟨F, 0, none⟩), .int .u32 167772161, .slice (some ⟨mb, 0, none⟩) 2 2, .pointer (some ⟨B, 0, none⟩), .slice (some ⟨b, off, none⟩) 27 cap, .int .u8 0, .int .u16 0, .bool false, .bool false, .bool false, .int .i64 0, .int .u8 0, .int .u8 0, .int .u32 0, .int .u32 0, .slice none 0 0, .int .i64 0, .int .i64 0, .int .i64 0, .int .i64 0, .slice none 0 0, .slice none 0 0] 114)) (.cells #[.func (.func 42) #[.pointer (some ⟨w1'.heap.size, 0, none⟩)] #[], .func (.func 43) #[.pointer (some ⟨w1'.heap.size, 0, none⟩)] #[], .func (.func 44) #[.pointer (some ⟨w1'.heap.size, 0, none⟩)] #[], .func (.func 45) #[.pointer (some ⟨w1'.heap.size, 0, none⟩)] #[]] 31)
 have hA : ((w1'.alloc (.cells #[.pointer (some ⟨F, 0, none⟩), .int .u32 167772161, .slice (some ⟨mb, 0, none⟩) 2 2, .pointer (some ⟨B, 0, none⟩), .slice (some ⟨b, off, none⟩) 27 cap, .int .u8 0, .int .u16 0, .bool false, .bool false, .bool false, .int .i64 0, .int .u8 0, .int .u8 0, .int .u32 0, .int .u32 0, .slice none 0 0, .int .i64 0, .int .i64 0, .int .i64 0, .int .i64 0, .slice none 0 0, .slice none 0 0] 114)).alloc (.cells #[.func (.func 42) #[.pointer (some ⟨w1'.heap.size, 0, none⟩)] #[], .func (.func 43) #[.pointer (some ⟨w1'.heap.size, 0, none⟩)] #[], .func (.func 44) #[.pointer (some ⟨w1'.heap.size, 0, none⟩)] #[], .func (.func 45) #[.pointer (some ⟨w1'.heap.size, 0, none⟩)] #[]] 31)).heap[w1'.heap.size]? = some (.cells #[.pointer (some ⟨F, 0, none⟩), .int .u32 167772161, .slice (some ⟨mb, 0, none⟩) 2 2, .pointer (some ⟨B, 0, none⟩), .slice (some ⟨b, off, none⟩) 27 cap, .int .u8 0, .int .u16 0, .bool false, .bool false, .bool false, .int .i64 0, .int .u8 0, .int .u8 0, .int .u32 0, .int .u32 0, .slice none 0 0, .int .i64 0, .int .i64 0, .int .i64 0, .int .i64 0, .slice none 0 0, .slice none 0 0] 114 (0, 0)) := (Below.heap_alloc _ _ _ (by rw [hsA]; exact Nat.lt_succ_self _)).trans (heap_alloc_new w1' _)
 have hG2 : Grow w1' ((w1'.alloc (.cells #[.pointer (some ⟨F, 0, none⟩), .int .u32 167772161, .slice (some ⟨mb, 0, none⟩) 2 2, .pointer (some ⟨B, 0, none⟩), .slice (some ⟨b, off, none⟩) 27 cap, .int .u8 0, .int .u16 0, .bool false, .bool false, .bool false, .int .i64 0, .int .u8 0, .int .u8 0, .int .u32 0, .int .u32 0, .slice none 0 0, .int .i64 0, .int .i64 0, .int .i64 0, .int .i64 0, .slice none 0 0, .slice none 0 0] 114)).alloc (.cells #[.func (.func 42) #[.pointer (some ⟨w1'.heap.size, 0, none⟩)] #[], .func (.func 43) #[.pointer (some ⟨w1'.heap.size, 0, none⟩)] #[], .func (.func 44) #[.pointer (some ⟨w1'.heap.size, 0, none⟩)] #[], .func (.func 45) #[.pointer (some ⟨w1'.heap.size, 0, none⟩)] #[]] 31)) := ((Grow.refl w1').alloc _).alloc _
 have hs2 : ((w1'.alloc (.cells #[.pointer (some ⟨F, 0, none⟩), .int .u32 167772161, .slice (some ⟨mb, 0, none⟩) 2 2, .pointer (some ⟨B, 0, none⟩), .slice (some ⟨b, off, none⟩) 27 cap, .int .u8 0, .int .u16 0, .bool false, .bool false, .bool false, .int .i64 0, .int .u8 0, .int .u8 0, .int .u32 0, .int .u32 0, .slice none 0 0, .int .i64 0, .int .i64 0, .int .i64 0, .int .i64 0, .slice none 0 0, .slice none 0 0] 114)).alloc (.cells #[.func (.func 42) #[.pointer (some ⟨w1'.heap.size, 0, none⟩)] #[], .func (.func 43) #[.pointer (some ⟨w1'.heap.size, 0, none⟩)] #[], .func (.func 44) #[.pointer (some ⟨w1'.heap.size, 0, none⟩)] #[], .func (.func 45) #[.pointer (some ⟨w1'.heap.size, 0, none⟩)] #[]] 31)).heap.size = w1'.heap.size + 1 + 1 := by rw [World.size_alloc, hsA]
 rw [hsA] at hB
 rw [hw2] at hA hB hG2 hs2 ⊢
 have hRle : w.heap.size ≤ w1'.heap.size := HG1.out.size
 have HFn : Hid (w1'.heap.size ≠ w.heap.size) := by have := lt_of_block HN1.out; show _ ≠ _; omega
 have HN2 := Lib.hid ((hG2.block _ (lt_of_block HN1.out)).trans HN1.out)
 have HG2 := Lib.hid (HG1.out.trans hG2)
 obtain ⟨R, hRR⟩ : ∃ x, w1'.heap.size = x := ⟨_, rfl⟩
 rw [hRR] at hA hB hs2 hRle HFn ⊢
 have HR2 : Hid (RunAt w2 R ⟨.pointer (some ⟨F, 0, none⟩), 167772161, .slice (some ⟨mb, 0, none⟩) 2 2, .pointer (some ⟨B, 0, none⟩), .slice (some ⟨b, off, none⟩) 27 cap, ⟨0, 0, false, false, false, 0, 0, 0, 0, 0, .slice none 0 0, []⟩, 0, 0, 0, 0, .slice none 0 0, .slice none 0 0⟩) := hA
 have HFB := Lib.hid hB
 have HS2 : Hid (w2.heap.size = R + 1 + 1 ∧ w.heap.size ≤ R) := ⟨hs2, hRle⟩
 clear hw2 hsA hA hB hG2 hs2 hRle hRR HN1 HG1 HN0 HG0 HWr
 have f4 : ∀ x : World, GrowBut (Only R) w2 x → x.heap[R + 1]? = some (.cells #[.func (.func 42) #[.pointer (some ⟨R, 0, none⟩)] #[], .func (.func 43) #[.pointer (some ⟨R, 0, none⟩)] #[], .func (.func 44) #[.pointer (some ⟨R, 0, none⟩)] #[], .func (.func 45) #[.pointer (some ⟨R, 0, none⟩)] #[]] 31 (0, 0)) := fun x hx => (hx.block _ (lt_of_block HFB.out) (fun e => absurd (show R + 1 = R from e) (by omega))).trans HFB.out
 have HF4 := Lib.hid f4
 obtain ⟨d0, d1, d2, d3⟩ := blkB (f4 w2 (GrowBut.refl _ _))
 clear f4
 refine wp_loop_rounds 4 ?_
 rw [rounds_succ]
 go_wp2_with fail
 have hq := whole_any (HP.out.mono HG2.out) (by omega) HR2.out rfl (by have := HB0.out; have := HS2.out.2; omega) rfl
 with_reducible refine hq.mono ?_
 clear hq
 rintro e w3 ⟨rfl, v, u, hr3, hok3, ho3, hg3⟩
 have hbv : BytesV w3 u (pkt (hdK v0) pl) := ⟨pkt_bytes HP.out.raw HP.out.by_, ints_of_owns ho3⟩
 obtain ⟨ub, uo, ul, uc, uz, us, rfl, hpk⟩ := pktAt_of HP.out.raw HP.out.by_ (by rw [H7.out]; show 20 + 0 + 7 ≤ 65535; omega) hbv
 have HR3 := Lib.hid hr3
 have HOK3 := Lib.hid hok3
 have HO3 := Lib.hid ho3
 have HG3 := Lib.hid hg3
 have HGw3 := Lib.hid (only_new HG2.out HS2.out.2 hg3)
 have HPk3 := Lib.hid hpk
 have hul : ul = 27 := by have e1 := hpk.lz; have e2 := hpk.z; rw [H7.out] at e1; have : (hdK v0).os.length = 0 := rfl; omega
 subst hul
 obtain ⟨e0, e1, e2, e3⟩ := blkB (HF4.out w3 HG3.out)
 clear hr3 hok3 ho3 hg3 hbv hpk d0 d1 d2 d3
 go_wp2_with fail
 rw [rounds_succ]
 go_wp2_with fail
 have hq := fine_any HPk3.out (by omega) HR3.out rfl rfl (by omega : 1 < 2) (picks3_b (HGo.out.mono HGw3.out).fib) oneA oneB HOK3.out.body HP.out.raw.good HP.out.raw.len rfl
 with_reducible refine hq.mono ?_
 clear hq
 rintro e w4 ⟨rfl, hr4, hg4⟩
 have HR4 := Lib.hid hr4
 have HG4 := Lib.hid (HG3.out.trans hg4)
 have hbv : BytesV w4 (.slice (some ⟨ub, uo, none⟩) 27 uc) (pkt (hdK v0) pl) := ⟨pkt_bytes HP.out.raw HP.out.by_, ints_of_owns (own_but HO3.out hg4 (fun k hk => by have h1 : k = R := hk; have := HS2.out.1; omega))⟩
 obtain ⟨z4, s4, hpk⟩ := pktAt_at HP.out.raw HP.out.by_ (by rw [H7.out]; show 20 + 0 + 7 ≤ 65535; omega) hbv
 have HPk4 := Lib.hid hpk
 have HGw4 := Lib.hid (only_new HG2.out HS2.out.2 HG4.out)
 obtain ⟨d0, d1, d2, d3⟩ := blkB (HF4.out w4 HG4.out)
 clear hr4 hg4 hbv hpk e0 e1 e2 e3
 go_wp2_with fail
 rw [rounds_succ]
 go_wp2_with fail
 have hq := here_any HR4.out rfl
 with_reducible refine hq.mono ?_
 clear hq
 rintro e w4' ⟨rfl, rfl⟩
 go_wp2_with fail
 rw [rounds_succ]
 go_wp2_with fail
 have hno : ub ≠ R ∧ ub ≠ B := by
  obtain ⟨g2, hg2⟩ : ∃ g2, g2 = ub := ⟨_, rfl⟩
  have e1 := (HO3.out.lt ub rfl).1
  have e2 := lt_of_block HGo.out.bucket
  have e3 := HS2.out
  constructor <;> omega
 have hmR : mb ≠ R := by have e1 := lt_of_block HGo.out.mtus; have e3 := HS2.out; omega
 have hBR : R ≠ B := by have e1 := lt_of_block HGo.out.bucket; have e3 := HS2.out; omega
 have hN4 := HGo.out.mono HGw4.out
 have hct := tell_known HPk4.out H7.out (R := R) (B := B) (mb := mb) (mo := 0) (mn := 2) (mc := 2) (F := F) HR4.out hN4.bucket hBR hno ⟨hmR, HGo.out.ne⟩ (by omega) (by simp [World.cell?, hN4.mtus]) (fun x hx => picks3_a (hN4.fib.but hx (fun k cs T e h => by rcases e with e | e; exact run_not HR4.out k cs T e h; exact bucket_not hN4.bucket k cs T e h)))
 have hq := on_tell HR4.out hct
 with_reducible refine hq.mono ?_
 clear hq hct hN4 hno hmR
 have HBR := Lib.hid hBR
 rintro e w5 ⟨rfl, ov, base, rows, hr5, ho5, hrl, hb5, hbk5, hg5⟩
 obtain ⟨oa, oc, rfl⟩ := ho5.shape
 obtain ⟨nr, hnr⟩ : ∃ x, rows.length = x := ⟨_, rfl⟩
 rw [hnr] at hr5 ho5 hrl
 have HRl := Lib.hid (And.intro hnr hrl)
 have HR5 := Lib.hid hr5
 have HO5 := Lib.hid ho5
 have HBk5 := Lib.hid hbk5
 have HB5 : Hid (w.heap.size < base ∧ w.heap.size ≤ base) := by have h1 := HG4.out.size; have h2 := HS2.out; constructor <;> omega
 have HGw5 : Hid (GrowBut (Only B) w w5) := ⟨hg5.os.trans HGw4.out.os, hg5.tape.trans HGw4.out.tape, hg5.output.trans HGw4.out.output, Nat.le_trans HGw4.out.size hg5.size, fun k hk hm => (hg5.block k (Nat.lt_of_lt_of_le hk HGw4.out.size) (fun e => by rcases e with e | e; have := HS2.out.2; omega; exact hm e)).trans (HGw4.out.block k hk)⟩
 have HFB0 := Lib.hid (lt_of_block HGo.out.bucket)
 have HN5 := Lib.hid ((hg5.block _ (lt_of_block ((HG4.out.block _ (lt_of_block HN2.out) (fun e => HFn.out (show w.heap.size = R from e).symm)).trans HN2.out)) (fun e => by rcases e with e | e; exact HFn.out e.symm; have := HFB0.out; omega)).trans ((HG4.out.block _ (lt_of_block HN2.out) (fun e => HFn.out (show w.heap.size = R from e).symm)).trans HN2.out))
 have hrr := (blkR hr5).2.2.2
 obtain ⟨q18, q19, q20, q21⟩ := hrr
 obtain ⟨n0, n1, n2, n3⟩ := blkB HN5.out
 have nz : ∀ i, w5.frozen? ⟨w.heap.size, i, none⟩ = false := fun i => by simp [World.frozen?, HN5.out]
 have nz0 := nz 0
 have nz1 := nz 1
 have nz2 := nz 2
 have nz3 := nz 3
 clear hr5 ho5 hb5 hg5 d0 d1 d2 d3 nz hbk5 hnr hrl
 go_wp2_with fail
 generalize hw6 : (((w5.setCell ⟨w.heap.size, 0, none⟩ (.int .i64 0)).setCell ⟨w.heap.size, 1, none⟩ (.int .i64 3)).setCell ⟨w.heap.size, 2, none⟩ (.slice none 0 0)).setCell ⟨w.heap.size, 3, none⟩ (.slice oa nr oc) = w6
 have HN6 : Hid (w6.heap[w.heap.size]? = some (.cells #[.int .i64 0, .int .i64 3, .slice none 0 0, .slice oa nr oc] 48 (0, 0))) := by rw [← hw6]; show _ = _; simp [heap_put, HN5.out, setObj]
 have HG6 : Hid (GrowBut (Only w.heap.size) w5 w6) := by rw [← hw6]; show GrowBut _ _ _; simp only [only_put]; exact GrowBut.refl _ _
 clear hw6 n0 n1 n2 n3 nz0 nz1 nz2 nz3 q18 q19 q20 q21
 obtain ⟨n0, n1, n2, n3⟩ := blkB HN6.out
 refine bodyPost_ret (v := .tuple #[.agg #[.int .i64 0, .int .i64 3, .slice none 0 0, .slice oa nr oc], .int .i64 0]) (by simp [results, Tryz.results18, go_sem, n0, n1, n2, n3]) rfl ?_
 refine ⟨_, base, rows, rfl, HO5.out.but HG6.out (fun k hk => by have h1 : k = w.heap.size := hk; have := HB5.out.1; omega), HRl.out.1.trans HRl.out.2, HB5.out.2, ?_, ?_⟩
 ·exact (HG6.out.block _ (lt_of_block HBk5.out) (fun e => by have e : B = w.heap.size := e; have := HFB0.out; omega)).trans HBk5.out
 ·exact ⟨HG6.out.os.trans HGw5.out.os, HG6.out.tape.trans HGw5.out.tape, HG6.out.output.trans HGw5.out.output, Nat.le_trans HGw5.out.size HG6.out.size, fun k hk hm => (HG6.out.block k (Nat.lt_of_lt_of_le hk HGw5.out.size) (fun e => by have e : k = w.heap.size := e; omega)).trans (HGw5.out.block k hk hm)⟩
end
end Go.Proofs.YtgckhdepnmiejaaGreat
namespace Go.Proofs.YtgckhdepnmiejaaGreat
section
set_option maxRecDepth 100000
open Go.RowKit
/-- The j-th word of bytes. -/
def wordAt (zs : List Int) (j : Nat) : Int := 256 * zs.getD (2 * j) 0 + zs.getD (2 * j + 1) 0
def wordsTo (zs : List Int) (k : Nat) : List Int := (List.range k).map (wordAt zs)
theorem wordsTo_succ (zs : List Int) (k : Nat) : wordsTo zs (k + 1) = wordsTo zs k ++ [wordAt zs k] := by
 simp [wordsTo, List.range_succ]
theorem wordsTo_length (zs : List Int) (k : Nat) : (wordsTo zs k).length = k := by simp [wordsTo]
theorem wordAt_bd {zs : List Int} (h : Bytes zs) (j : Nat) : 0 ≤ wordAt zs j ∧ wordAt zs j < 65536 := by
 have h1 := h.getD (2 * j); have h2 := h.getD (2 * j + 1)
 unfold wordAt; omega
theorem bsum_snoc2 : ∀ (l : List Int) (a b : Int), l.length % 2 = 0 → bsum (l ++ [a, b]) = bsum l + (256 * a + b) := fun l a b h => by
 rw [bsum_append l _ h]; simp [bsum]
theorem bsum_snoc1 : ∀ (l : List Int) (a : Int), l.length % 2 = 0 → bsum (l ++ [a]) = bsum l + 256 * a := fun l a h => by
 rw [bsum_append l _ h]; simp [bsum]
theorem bsum_take (zs : List Int) (k : Nat) (h : 2 * k < zs.length) : bsum (zs.take (2 * (k + 1))) = bsum (zs.take (2 * k)) + wordAt zs k := by
 have he : (zs.take (2 * k)).length % 2 = 0 := by simp; omega
 have e1 : zs.take (2 * k + 1) = zs.take (2 * k) ++ [zs.getD (2 * k) 0] := by
  rw [List.take_succ_eq_append_getElem h]; simp [h]
 rw [show 2 * (k + 1) = 2 * k + 1 + 1 from by omega]
 by_cases h2 : 2 * k + 1 < zs.length
 ·have e2 : zs.take (2 * k + 1 + 1) = zs.take (2 * k + 1) ++ [zs.getD (2 * k + 1) 0] := by
   rw [List.take_succ_eq_append_getElem h2]; simp [h2]
  rw [e2, e1, List.append_assoc]
  exact bsum_snoc2 _ _ _ he
 ·have e2 : zs.take (2 * k + 1 + 1) = zs.take (2 * k + 1) := by rw [List.take_of_length_le (by omega), List.take_of_length_le (by omega)]
  have e3 : zs.getD (2 * k + 1) 0 = 0 := by simp [Nat.le_of_not_lt h2]
  rw [e2, e1, bsum_snoc1 _ _ he, wordAt, e3]; omega
/-- The sum reckoned word by word. -/
theorem nrm_take {zs : List Int} (hb : Bytes zs) (k : Nat) (h : 2 * k < zs.length) : addc (nrm (bsum (zs.take (2 * k)))) (wordAt zs k) = nrm (bsum (zs.take (2 * (k + 1)))) := by
 have := wordAt_bd hb k
 rw [bsum_take zs k h, addc_nrm' (bsum_nonneg (hb.take _)) this.1 this.2]
theorem infoU16 : (Tryz.prog.info? 22).map (fun i => (i.zero, i.size, i.bytes)) = some (some (.int .u16 0), 1, 2) := by kernel_rfl
/-- One word more. -/
theorem words_next {zs : List Int} {k : Nat} {w wr w1 : World} {v v' : Value} {x : Int} {o : Obj}
  (hown' : w1.ownsRow w.heap.size 22 1 v' ((wordsTo zs k).length + 1) ((wordsTo zs k).map (Value.int .u16) ++ [.int .u16 x])) (hgrow : (wr.alloc o).grownBy w1 v.ownBlock) (hg : Grow w wr)
  (hown : wr.ownsRow w.heap.size 22 1 v (wordsTo zs k).length ((wordsTo zs k).map (Value.int .u16))) (hx : wordAt zs k = x) :
  w1.ownsRow w.heap.size 22 1 v' (wordsTo zs (k + 1)).length ((wordsTo zs (k + 1)).map (Value.int .u16)) ∧ Grow w w1 := by
 subst hx
 refine ⟨?_, ?_⟩
 ·rw [wordsTo_succ, List.map_append, List.length_append]
  exact hown'
 ·exact Below.grown (hg.alloc o) hgrow (by have := hg.size; simp; omega) (fun j hj => (hown.lt j hj).1)
set_option maxHeartbeats 400000 in
theorem words_some (b off cap : Nat) (zs : List Int) (w : World) (hb : Bytes zs) (hc : ∀ i, i < zs.length → w.cell? ⟨b, off + i, none⟩ = some (.int .u8 (zs.getD i 0))) (hl : zs.length ≤ cap) (hm : cap ≤ maxLen) (hz : zs.length ≤ 20000) :
  Calls Tryz.prog 69 #[.slice (some ⟨b, off, none⟩) zs.length cap] w fun e w' => ∃ v, e = .returned v ∧ IntsV .u16 w' v (wordsTo zs ((zs.length + 1) / 2)) ∧ Grow w w' := by
 obtain ⟨i0, hi, hz0, hz1, hz2⟩ := info_parts infoU16
 unfold maxLen at hm
 have HC := Lib.hid hc
 clear hc
 go_enter Tryz.func69, Tryz.ntmps69
 go_wp2
 go_loopw [3, 4, 5] (fun v i lo wr => ∃ k : Nat, 2 * k ≤ zs.length + 1 ∧ i = .int .i64 (2 * k : Nat) ∧ wr.ownsRow w.heap.size 22 1 v (wordsTo zs k).length ((wordsTo zs k).map (Value.int .u16)) ∧ Grow w wr)
  (fun _ i _ _ => zs.length + 1 - (intOf i).toNat)
 case atStart => exact ⟨0, by omega, rfl, World.ownsRow_nil _ _ _ _, Grow.refl _⟩
 case round =>
  obtain ⟨k, hk, rfl, hown, hg⟩ := hrel
  by_cases hlt : 2 * k < zs.length
  ·have hx := HC.out (2 * k) hlt
   have hx' := (hg.cell (block_lt hx)).trans hx
   have hxb := hb.getD (2 * k)
   clear hx
   by_cases hlt2 : 2 * k + 1 < zs.length
   ·have hy := HC.out (2 * k + 1) hlt2
    have hy' := (hg.cell (block_lt hy)).trans hy
    have hyb := hb.getD (2 * k + 1)
    have HW : Hid (wordAt zs k = 256 * zs.getD (2 * k) 0 + zs.getD (2 * k + 1) 0) := rfl
    clear hy
    generalize zs.getD (2 * k) 0 = x at *
    generalize zs.getD (2 * k + 1) 0 = y at *
    go_wp2_with (at_builtin; refine wpList_append_own _ rfl _ _ 147 rfl w.heap.size 22 i0 (.int .u16 0) 1 2 Tryz.underlying147 hi hz0 hz1 hz2 rfl (by decide) _ _ _ rfl (hown.alloc _) ⟨wr.heap.size, 0, none⟩ 1 1 [.int .u16 (256 * x + y)] rfl rfl ?c1 ?c2 ?c3 ?c4 ?c5 ?_)
    case c1 =>
     intro j u hj
     match j, hj with
     | 0, hj => simp at hj; subst hj; simp [Addr.add]
    case c2 => intro u hu; simp at hu; subst hu; rfl
    case c3 => rw [wordsTo_length]; unfold maxLen; omega
    case c4 => rw [wordsTo_length]; omega
    case c5 => have := hg.size; simp; omega
    ·intro v' w1 hown' hgrow _
     have R := words_next hown' hgrow hg hown HW.out
     clear hown' hgrow hown hg
     have HR := Lib.hid R
     clear R
     go_wp2
     go_roundw
     case rel => exact ⟨k + 1, by omega, by go_num, HR.out.1, HR.out.2⟩
     case measure => simp [intOf]; omega
   ·have HW : Hid (wordAt zs k = 256 * zs.getD (2 * k) 0) := by
     have e3 : zs.getD (2 * k + 1) 0 = 0 := by simp [Nat.le_of_not_lt hlt2]
     show 256 * zs.getD (2 * k) 0 + zs.getD (2 * k + 1) 0 = _
     rw [e3]; omega
    generalize zs.getD (2 * k) 0 = x at *
    go_wp2_with (at_builtin; refine wpList_append_own _ rfl _ _ 147 rfl w.heap.size 22 i0 (.int .u16 0) 1 2 Tryz.underlying147 hi hz0 hz1 hz2 rfl (by decide) _ _ _ rfl (hown.alloc _) ⟨wr.heap.size, 0, none⟩ 1 1 [.int .u16 (256 * x)] rfl rfl ?c1 ?c2 ?c3 ?c4 ?c5 ?_)
    case c1 =>
     intro j u hj
     match j, hj with
     | 0, hj => simp at hj; subst hj; simp [Addr.add]
    case c2 => intro u hu; simp at hu; subst hu; rfl
    case c3 => rw [wordsTo_length]; unfold maxLen; omega
    case c4 => rw [wordsTo_length]; omega
    case c5 => have := hg.size; simp; omega
    ·intro v' w1 hown' hgrow _
     have R := words_next hown' hgrow hg hown HW.out
     clear hown' hgrow hown hg
     have HR := Lib.hid R
     clear R
     go_wp2
     go_roundw
     case rel => exact ⟨k + 1, by omega, by go_num, HR.out.1, HR.out.2⟩
     case measure => simp [intOf]; omega
  ·have hkk : k = (zs.length + 1) / 2 := by omega
   have hv := ints_of_owns hown
   rw [hkk] at hv
   have HV := Lib.hid hv
   obtain ⟨ao, c, rfl, _, _⟩ := hv.shape
   clear hv hown hkk
   go_wp2
   go_ret
   exact ⟨_, rfl, HV.out, hg⟩
end
end Go.Proofs.YtgckhdepnmiejaaGreat
namespace Go.Proofs.YtgckhdepnmiejaaGreat
section
set_option maxRecDepth 100000
open Go.RowKit
theorem words_any (v : Value) (zs : List Int) (w : World) (hv : BytesV w v zs) (hz : zs.length ≤ 20000) :
  Calls Tryz.prog 69 #[v] w fun e w' => ∃ u, e = .returned u ∧ IntsV .u16 w' u (wordsTo zs ((zs.length + 1) / 2)) ∧ Grow w w' := by
 obtain ⟨hb, ⟨rfl, ao, cap, rfl, _, _⟩ | ⟨b, off, cap, rfl, hl, hm, hc⟩⟩ := hv
 ·go_enter Tryz.func69, Tryz.ntmps69
  go_wp2
  refine wp_loop_rounds 1 ?_
  rw [rounds_succ]
  go_wp2
  go_ret
  exact ⟨_, rfl, Or.inl ⟨rfl, none, 0, rfl, Nat.zero_le _, fun _ => rfl⟩, Grow.refl _⟩
 ·exact words_some b off cap zs w hb hc hl hm hz
theorem two_half (zs : List Int) : zs.take (2 * ((zs.length + 1) / 2)) = zs := List.take_of_length_le (by omega)
set_option maxHeartbeats 400000 in
theorem refTotal_any (v : Value) (zs : List Int) (w : World) (hv : BytesV w v zs) (hz : zs.length ≤ 20000) :
  Calls Tryz.prog 48 #[v] w fun e w' => e = .returned (.int .u16 (nrm (bsum zs))) ∧ Grow w w' := by
 have hb := hv.1
 go_enter Tryz.func48, Tryz.ntmps48
 go_wp2_with fail
 refine (words_any v zs w hv hz).mono ?_
 rintro e w1 ⟨u, rfl, hu, hg⟩
 clear hv
 have hlen := wordsTo_length zs ((zs.length + 1) / 2)
 have HF := Lib.hid (two_half zs)
 rcases hu with ⟨h0, ao, cap, rfl, _, _⟩ | ⟨b, off, cap, rfl, hl, hm, hc⟩
 ·have hz0 : zs = [] := by
   have h1 : (zs.length + 1) / 2 = 0 := by rw [h0] at hlen; simpa using hlen.symm
   exact List.length_eq_zero_iff.1 (by omega)
  subst hz0
  clear h0 hlen
  go_wp2
  refine wp_loop_rounds 1 ?_
  rw [rounds_succ]
  go_wp2
  go_ret
  exact ⟨rfl, hg⟩
 ·have hcw : ∀ i, i < (zs.length + 1) / 2 → w1.cell? ⟨b, off + i, none⟩ = some (.int .u16 (wordAt zs i)) := fun i hi => by
   rw [hc i (by rw [hlen]; exact hi)]
   simp [wordsTo, hi]
  rw [hlen]
  rw [hlen] at hl
  clear hc hlen
  have HC := Lib.hid hcw
  clear hcw
  unfold maxLen at hm
  obtain ⟨n, hn⟩ : ∃ n, n = (zs.length + 1) / 2 := ⟨_, rfl⟩
  rw [← hn] at HC HF hl ⊢
  have hn1 : 2 * n ≤ zs.length + 1 := by omega
  have hn2 : zs.length ≤ 2 * n := by omega
  clear hn
  go_wp2
  go_loop [4, 5] (fun s i => ∃ k : Nat, k ≤ n ∧ i = .int .i64 k ∧ s = .int .u16 (nrm (bsum (zs.take (2 * k))))) (fun _ i => n - (intOf i).toNat)
  case atStart => exact ⟨0, Nat.zero_le _, rfl, rfl⟩
  case round =>
   obtain ⟨k, hk, rfl, rfl⟩ := hrel
   by_cases hlt : k < n
   ·have hx := HC.out k hlt
    have hxb := wordAt_bd hb k
    have hnb := nrm_bd (bsum (zs.take (2 * k)))
    have HN : Hid (addc (nrm (bsum (zs.take (2 * k)))) (wordAt zs k) = nrm (bsum (zs.take (2 * (k + 1))))) := nrm_take hb k (by omega)
    generalize wordAt zs k = x at *
    generalize nrm (bsum (zs.take (2 * k))) = s at *
    go_wp2_with (go_at_call 70; refine (refAdd_any _ _ _ hnb.1 hnb.2 hxb.1 hxb.2).mono ?_; rintro e w' ⟨rfl, rfl⟩)
    go_round
    case rel => exact ⟨k + 1, by omega, by go_num, by rw [HN.out]⟩
    case measure => simp [intOf]; omega
   ·have hkn : k = n := by omega
    subst hkn
    rw [HF.out]
    go_wp2
    go_ret
    exact ⟨rfl, hg⟩
theorem refCheck_any (v : Value) (zs : List Int) (w : World) (hv : BytesV w v zs) (hz : zs.length ≤ 20000) :
  Calls Tryz.prog 24 #[v] w fun e w' => e = .returned (.int .u16 (65535 - nrm (bsum zs))) ∧ Grow w w' := by
 have hb := nrm_bd (bsum zs)
 go_enter Tryz.func24, Tryz.ntmps24
 go_wp2_with fail
 refine (refTotal_any v zs w hv hz).mono ?_
 rintro e w1 ⟨rfl, hg⟩
 have HG := Lib.hid hg
 clear hg
 go_wp2
 go_ret
 exact ⟨rfl, HG.out⟩
end
end Go.Proofs.YtgckhdepnmiejaaGreat
namespace Go.Proofs.YtgckhdepnmiejaaGreat
section
set_option maxRecDepth 100000
open Go.RowKit
theorem bit_any (b : Bool) (n : Int) (w : World) : Calls Tryz.prog 23 #[.bool b, .int .u64 n] w fun e w' => e = .returned (.int .u64 (if b then n else 0)) ∧ w = w' := by
 cases b
 ·go_enter Tryz.func23, Tryz.ntmps23
  go_wp2_with fail
  go_ret
  exact ⟨rfl, rfl⟩
 ·go_enter Tryz.func23, Tryz.ntmps23
  go_wp2_with fail
  go_ret
  exact ⟨rfl, rfl⟩
theorem hd0_rows (h : Hd) (n : Nat) (Q T : Int) (hQ : Q = 64 + (20 + (h.os.length : Int)) / 4) (hb : 0 ≤ Q ∧ Q < 256) (hT : T = 20 + h.os.length + n) (h1 : 0 ≤ h.tos ∧ h.tos < 256) (h2 : 0 ≤ h.ttl ∧ h.ttl < 256) (h3 : 0 ≤ h.proto ∧ h.proto < 256) :
  [bel 1 Q, bel 1 h.tos, bel 2 T, bel 2 h.id, bel 2 (fwH h), bel 1 h.ttl, bel 1 h.proto, [0, 0], bel 4 h.src, bel 4 h.dst, h.os].flatten = hd0 h n := by
 rw [← hd0_fields h n Q T hQ hb hT h1 h2 h3, bel_two_zero]
 simp
set_option maxHeartbeats 8000000 in
theorem refbytes_any (h : Hd) (pl : List Int) (u : Value) (w : World) (hok : HdOk w h) (hm : mayH h = true) (hu : BytesV w u pl) (hl : 20 + h.os.length + pl.length ≤ 65535) :
  Calls Tryz.prog 7 #[h.val, u] w fun e w' => ∃ v, e = .returned v ∧ NewBytes w (pkt h pl) v w' := by
 obtain ⟨i0, hi, hz0, hz1, hz2⟩ := info_parts infoByte
 have r := raw_of hok hm
 have hFB := fwH_bd r
 have HPk : Hid (pkt h pl = hdr h pl.length ++ pl) := rfl
 have HPb := Lib.hid (putB_pkt h pl.length)
 have HCk : Hid (65535 - nrm (bsum (hd0 h pl.length)) = ckH h pl.length) := rfl
 have HCB := Lib.hid (ckH_bd h pl.length)
 have HFd := Lib.hid (hd0_rows h pl.length _ _ rfl (by have := r.len; omega) rfl r.tos r.ttl r.proto)
 have HH0 := Lib.hid (hd0_bytes r pl.length)
 have HHl := Lib.hid (hd0_length h pl.length)
 have HHr := Lib.hid (hdr_length h pl.length)
 have h40 := r.len
 have hFW : fwH h = (if h.evil then 32768 else 0) + (if h.df then 16384 else 0) + (if h.mf then 8192 else 0) + h.off := rfl
 have hb1 := r.tos; have hb2 := r.id; have hb3 := r.ttl; have hb4 := r.proto; have hb5 := r.src; have hb6 := r.dst; have hb7 := r.off
 generalize hpk : pkt h pl = PK at *
 generalize hdr h pl.length = HDR at *
 generalize hd0 h pl.length = H0 at *
 generalize ckH h pl.length = CK at *
 generalize fwH h = FW at *
 obtain ⟨bo, cap', rfl, hl1, hl2⟩ := hu.shape
 obtain ⟨ao, cap, hv, h1, h2⟩ := hok.body.shape
 have HBody := Lib.hid hok.body
 have HPay := Lib.hid hu
 clear hok hu hm r hpk
 obtain ⟨tos, id, evil, df, mf, off, ttl, proto, src, dst, v, os⟩ := h
 dsimp only at *
 subst hv
 simp only [Hd.val, Hd.cells, hdCells] at *
 unfold maxLen at h2 hl2
 unfold U8 U16 U32 at *
 generalize hmm : os.length = m at *
 generalize hnn : pl.length = n at *
 obtain ⟨Z, hZ⟩ : ∃ Z, (20 : Int) + (m : Int) = Z := ⟨_, rfl⟩
 obtain ⟨Q, hQ⟩ : ∃ Q, (64 : Int) + (20 + (m : Int)) / 4 = Q := ⟨_, rfl⟩
 obtain ⟨T, hT⟩ : ∃ T, (20 : Int) + (m : Int) + (n : Int) = T := ⟨_, rfl⟩
 obtain ⟨E1, hE1⟩ : ∃ x : Int, (if evil then (32768 : Int) else 0) = x := ⟨_, rfl⟩
 obtain ⟨E2, hE2⟩ : ∃ x : Int, (if df then (16384 : Int) else 0) = x := ⟨_, rfl⟩
 obtain ⟨E3, hE3⟩ : ∃ x : Int, (if mf then (8192 : Int) else 0) = x := ⟨_, rfl⟩
 have B1 : Hid (∀ x, Calls Tryz.prog 23 #[.bool evil, .int .u64 32768] x fun e w' => e = .returned (.int .u64 E1) ∧ x = w') := fun x => by rw [← hE1]; exact bit_any _ _ _
 have B2 : Hid (∀ x, Calls Tryz.prog 23 #[.bool df, .int .u64 16384] x fun e w' => e = .returned (.int .u64 E2) ∧ x = w') := fun x => by rw [← hE2]; exact bit_any _ _ _
 have B3 : Hid (∀ x, Calls Tryz.prog 23 #[.bool mf, .int .u64 8192] x fun e w' => e = .returned (.int .u64 E3) ∧ x = w') := fun x => by rw [← hE3]; exact bit_any _ _ _
 rw [hE1, hE2, hE3] at hFW
 have hb8 : 0 ≤ E1 ∧ E1 ≤ 32768 := by rw [← hE1]; cases evil <;> simp
 have hb9 : 0 ≤ E2 ∧ E2 ≤ 16384 := by rw [← hE2]; cases df <;> simp
 have hb10 : 0 ≤ E3 ∧ E3 ≤ 8192 := by rw [← hE3]; cases mf <;> simp
 have HMl := Lib.hid hmm
 have HNl := Lib.hid hnn
 rw [hQ, hT] at HFd
 have hq : Z.tdiv 4 = Q - 64 := by rw [Int.tdiv_eq_ediv_of_nonneg (by omega)]; omega
 have hq2 : Z / 4 = Q - 64 := by omega
 have hw1 : IntKind.i64.wrap Q = Q := IntWalk.i64_in _ (by omega)
 have hw1b : IntKind.i64.wrap (Q - 64) = Q - 64 := IntWalk.i64_in _ (by omega)
 have hw1c : (64 : Int) + (Q - 64) = Q := by omega
 have hw2 : IntKind.u64.wrap Q = Q := by simp [IntKind.wrap, IntKind.signed, IntKind.bits]; omega
 have hw3 : IntKind.u64.wrap tos = tos := by simp [IntKind.wrap, IntKind.signed, IntKind.bits]; omega
 have hZT : Z + (n : Int) = T := by omega
 have hw4 : IntKind.i64.wrap T = T := IntWalk.i64_in _ (by omega)
 have hw4b : IntKind.i64.wrap Z = Z := IntWalk.i64_in _ (by omega)
 have hw5 : IntKind.u64.wrap T = T := by simp [IntKind.wrap, IntKind.signed, IntKind.bits]; omega
 have hw6 : IntKind.u64.wrap id = id := by simp [IntKind.wrap, IntKind.signed, IntKind.bits]; omega
 have hw7 : IntKind.u64.wrap ttl = ttl := by simp [IntKind.wrap, IntKind.signed, IntKind.bits]; omega
 have hw8 : IntKind.u64.wrap proto = proto := by simp [IntKind.wrap, IntKind.signed, IntKind.bits]; omega
 have hw9 : IntKind.u64.wrap src = src := by simp [IntKind.wrap, IntKind.signed, IntKind.bits]; omega
 have hw10 : IntKind.u64.wrap dst = dst := by simp [IntKind.wrap, IntKind.signed, IntKind.bits]; omega
 have hw11 : IntKind.u64.wrap CK = CK := by have := HCB.out; simp [IntKind.wrap, IntKind.signed, IntKind.bits]; omega
 have hw12 : IntKind.u64.wrap (E1 + E2) = E1 + E2 := by simp [IntKind.wrap, IntKind.signed, IntKind.bits]; omega
 have hw13 : IntKind.u64.wrap (E1 + E2 + E3) = E1 + E2 + E3 := by simp [IntKind.wrap, IntKind.signed, IntKind.bits]; omega
 have hw14 : IntKind.u64.wrap off = off := by simp [IntKind.wrap, IntKind.signed, IntKind.bits]; omega
 have hw15 : IntKind.u64.wrap FW = FW := by simp [IntKind.wrap, IntKind.signed, IntKind.bits]; omega
 have hw16 : E1 + E2 + E3 + off = FW := by omega
 have HPut : Hid (∀ (a : Int) (k : Nat) x, 0 ≤ a ∧ a < 18446744073709551616 → 1 ≤ k → k ≤ 8 → Calls Tryz.prog 22 #[.int .u64 a, .int .i64 k] x fun e w' => ∃ v, e = .returned v ∧ NewBytes x (bel k a) v w') := fun a k x h1 h2 h3 => rput_any a k x h1 h2 h3
 have HPut1 : Hid (∀ (a : Int) x, 0 ≤ a ∧ a < 18446744073709551616 → Calls Tryz.prog 22 #[.int .u64 a, .int .i64 1] x fun e w' => ∃ v, e = .returned v ∧ NewBytes x (bel 1 a) v w') := fun a x h => HPut.out a 1 x h (by omega) (by omega)
 have HPut2 : Hid (∀ (a : Int) x, 0 ≤ a ∧ a < 18446744073709551616 → Calls Tryz.prog 22 #[.int .u64 a, .int .i64 2] x fun e w' => ∃ v, e = .returned v ∧ NewBytes x (bel 2 a) v w') := fun a x h => HPut.out a 2 x h (by omega) (by omega)
 have HPut4 : Hid (∀ (a : Int) x, 0 ≤ a ∧ a < 18446744073709551616 → Calls Tryz.prog 22 #[.int .u64 a, .int .i64 4] x fun e w' => ∃ v, e = .returned v ∧ NewBytes x (bel 4 a) v w') := fun a x h => HPut.out a 4 x h (by omega) (by omega)
 have HBd : Hid ((0 ≤ Q ∧ Q < 256) ∧ (0 ≤ tos ∧ tos < 256) ∧ (0 ≤ T ∧ T < 65536) ∧ (0 ≤ id ∧ id < 65536) ∧ (0 ≤ FW ∧ FW < 65536) ∧ (0 ≤ ttl ∧ ttl < 256) ∧ (0 ≤ proto ∧ proto < 256) ∧ (0 ≤ src ∧ src < 4294967296) ∧ (0 ≤ dst ∧ dst < 4294967296)) :=
  ⟨by omega, hb1, by omega, hb2, by omega, hb3, hb4, hb5, hb6⟩
 have hFm := heap_alloc_new w (.cells #[.int .u8 tos, .int .u16 id, .bool evil, .bool df, .bool mf, .int .i64 off, .int .u8 ttl, .int .u8 proto, .int .u32 src, .int .u32 dst, .slice ao m cap] 27)
 have HF := Lib.hid hFm
 have HW : Hid (Grow w (w.alloc (.cells #[.int .u8 tos, .int .u16 id, .bool evil, .bool df, .bool mf, .int .i64 off, .int .u8 ttl, .int .u8 proto, .int .u32 src, .int .u32 dst, .slice ao m cap] 27))) := (Grow.refl w).alloc _
 obtain ⟨rows, hrows⟩ : ∃ rows, [bel 1 Q, bel 1 tos, bel 2 T, bel 2 id, bel 2 FW, bel 1 ttl, bel 1 proto, [0, 0], bel 4 src, bel 4 dst, os] = rows := ⟨_, rfl⟩
 have HROW := Lib.hid hrows
 rw [hrows] at HFd
 generalize hwX : w.alloc (.cells #[.int .u8 tos, .int .u16 id, .bool evil, .bool df, .bool mf, .int .i64 off, .int .u8 ttl, .int .u8 proto, .int .u32 src, .int .u32 dst, .slice ao m cap] 27) = wX at *
 obtain ⟨⟨c0, c1, c2, c3, c4, c5⟩, c6, c7, c8, c9, c10⟩ := blkH hFm
 have HXX := Lib.hid hwX
 clear hwX hFm hmm hnn hQ hT hE1 hE2 hE3 hb1 hb2 hb3 hb4 hb5 hb6 hb7 hb8 hb9 hb10 hFB hFW hrows
 go_enter Tryz.func7, Tryz.ntmps7
 go_wp2_with fail
 try rw [HXX.out]
 clear HXX
 try go_wp2_with fail
 clear c0 c1 c2 c3 c4 c5 c6 c7 c8 c9 c10
 refine wpRg 56 ?_
 simp only [List.take_succ_cons, List.take_zero, List.drop_succ_cons, List.drop_zero]
 repeat (refine wpHp fun K hK => ?_; go_simp; refine hK _ ?_; clear hK K)
 refine wpH_hid' (fun u x => BytesV x u (bel 1 Q)) (by intro _ _ h; cases h) rfl (by rfl) (bytes_stay _) (by rfl) (by rfl) (fun w' hg => ?_) ?_
 ·have h := HPut1.out Q w' (by have := HBd.out.1; omega)
  clear hg
  go_simp
  with_reducible refine h.mono ?_
  rintro e w1 ⟨v, rfl, h⟩
  exact ⟨_, rfl, newb_bytes h (bel_bytes _ _), h.2⟩
 try go_simp
 repeat (refine wpHp fun K hK => ?_; go_simp; refine hK _ ?_; clear hK K)
 refine wpHd (.int .u8 tos) (fun w' hg => ?_) ?_
 ·obtain ⟨⟨y0, y1, y2, y3, y4, y5⟩, y6, y7, y8, y9, y10⟩ := blkH ((hg.below.block _ (lt_of_block HF.out)).trans HF.out)
  clear hg
  go_simp
  exact Below.refl _ _
 try go_simp
 repeat (refine wpHp fun K hK => ?_; go_simp; refine hK _ ?_; clear hK K)
 refine wpH_hid' (fun u x => BytesV x u (bel 1 tos)) (by intro _ _ h; cases h) rfl (by rfl) (bytes_stay _) (by rfl) (by rfl) (fun w' hg => ?_) ?_
 ·have h := HPut1.out tos w' (by have := HBd.out.2.1; omega)
  clear hg
  go_simp
  with_reducible refine h.mono ?_
  rintro e w1 ⟨v, rfl, h⟩
  exact ⟨_, rfl, newb_bytes h (bel_bytes _ _), h.2⟩
 try go_simp
 repeat (refine wpHp fun K hK => ?_; go_simp; refine hK _ ?_; clear hK K)
 refine wpH_hid' (fun u x => BytesV x u (bel 2 T)) (by intro _ _ h; cases h) rfl (by rfl) (bytes_stay _) (by rfl) (by rfl) (fun w' hg => ?_) ?_
 ·have h := HPut2.out T w' (by have := HBd.out.2.2.1; omega)
  clear hg
  go_simp
  with_reducible refine h.mono ?_
  rintro e w1 ⟨v, rfl, h⟩
  exact ⟨_, rfl, newb_bytes h (bel_bytes _ _), h.2⟩
 try go_simp
 repeat (refine wpHp fun K hK => ?_; go_simp; refine hK _ ?_; clear hK K)
 refine wpHd (.int .u16 id) (fun w' hg => ?_) ?_
 ·obtain ⟨⟨y0, y1, y2, y3, y4, y5⟩, y6, y7, y8, y9, y10⟩ := blkH ((hg.below.block _ (lt_of_block HF.out)).trans HF.out)
  clear hg
  go_simp
  exact Below.refl _ _
 try go_simp
 repeat (refine wpHp fun K hK => ?_; go_simp; refine hK _ ?_; clear hK K)
 refine wpH_hid' (fun u x => BytesV x u (bel 2 id)) (by intro _ _ h; cases h) rfl (by rfl) (bytes_stay _) (by rfl) (by rfl) (fun w' hg => ?_) ?_
 ·have h := HPut2.out id w' (by have := HBd.out.2.2.2.1; omega)
  clear hg
  go_simp
  with_reducible refine h.mono ?_
  rintro e w1 ⟨v, rfl, h⟩
  exact ⟨_, rfl, newb_bytes h (bel_bytes _ _), h.2⟩
 try go_simp
 repeat (refine wpHp fun K hK => ?_; go_simp; refine hK _ ?_; clear hK K)
 refine wpHd (.bool evil) (fun w' hg => ?_) ?_
 ·obtain ⟨⟨y0, y1, y2, y3, y4, y5⟩, y6, y7, y8, y9, y10⟩ := blkH ((hg.below.block _ (lt_of_block HF.out)).trans HF.out)
  clear hg
  go_simp
  exact Below.refl _ _
 try go_simp
 repeat (refine wpHp fun K hK => ?_; go_simp; refine hK _ ?_; clear hK K)
 refine wpHd (.int .u64 E1) (fun w' hg => ?_) ?_
 ·have h := B1.out w'
  clear hg
  go_simp
  with_reducible refine h.mono ?_
  rintro e w1 ⟨rfl, rfl⟩
  exact ⟨_, rfl, rfl, Below.refl _ _⟩
 try go_simp
 repeat (refine wpHp fun K hK => ?_; go_simp; refine hK _ ?_; clear hK K)
 refine wpHd (.bool df) (fun w' hg => ?_) ?_
 ·obtain ⟨⟨y0, y1, y2, y3, y4, y5⟩, y6, y7, y8, y9, y10⟩ := blkH ((hg.below.block _ (lt_of_block HF.out)).trans HF.out)
  clear hg
  go_simp
  exact Below.refl _ _
 try go_simp
 repeat (refine wpHp fun K hK => ?_; go_simp; refine hK _ ?_; clear hK K)
 refine wpHd (.int .u64 E2) (fun w' hg => ?_) ?_
 ·have h := B2.out w'
  clear hg
  go_simp
  with_reducible refine h.mono ?_
  rintro e w1 ⟨rfl, rfl⟩
  exact ⟨_, rfl, rfl, Below.refl _ _⟩
 try go_simp
 repeat (refine wpHp fun K hK => ?_; go_simp; refine hK _ ?_; clear hK K)
 refine wpHd (.bool mf) (fun w' hg => ?_) ?_
 ·obtain ⟨⟨y0, y1, y2, y3, y4, y5⟩, y6, y7, y8, y9, y10⟩ := blkH ((hg.below.block _ (lt_of_block HF.out)).trans HF.out)
  clear hg
  go_simp
  exact Below.refl _ _
 try go_simp
 repeat (refine wpHp fun K hK => ?_; go_simp; refine hK _ ?_; clear hK K)
 refine wpHd (.int .u64 E3) (fun w' hg => ?_) ?_
 ·have h := B3.out w'
  clear hg
  go_simp
  with_reducible refine h.mono ?_
  rintro e w1 ⟨rfl, rfl⟩
  exact ⟨_, rfl, rfl, Below.refl _ _⟩
 try go_simp
 repeat (refine wpHp fun K hK => ?_; go_simp; refine hK _ ?_; clear hK K)
 refine wpHd (.int .i64 off) (fun w' hg => ?_) ?_
 ·obtain ⟨⟨y0, y1, y2, y3, y4, y5⟩, y6, y7, y8, y9, y10⟩ := blkH ((hg.below.block _ (lt_of_block HF.out)).trans HF.out)
  clear hg
  go_simp
  exact Below.refl _ _
 try go_simp
 repeat (refine wpHp fun K hK => ?_; go_simp; refine hK _ ?_; clear hK K)
 refine wpH_hid' (fun u x => BytesV x u (bel 2 FW)) (by intro _ _ h; cases h) rfl (by rfl) (bytes_stay _) (by rfl) (by rfl) (fun w' hg => ?_) ?_
 ·have h := HPut2.out FW w' (by have := HBd.out.2.2.2.2.1; omega)
  clear hg
  go_simp
  with_reducible refine h.mono ?_
  rintro e w1 ⟨v, rfl, h⟩
  exact ⟨_, rfl, newb_bytes h (bel_bytes _ _), h.2⟩
 try go_simp
 repeat (refine wpHp fun K hK => ?_; go_simp; refine hK _ ?_; clear hK K)
 refine wpHd (.int .u8 ttl) (fun w' hg => ?_) ?_
 ·obtain ⟨⟨y0, y1, y2, y3, y4, y5⟩, y6, y7, y8, y9, y10⟩ := blkH ((hg.below.block _ (lt_of_block HF.out)).trans HF.out)
  clear hg
  go_simp
  exact Below.refl _ _
 try go_simp
 repeat (refine wpHp fun K hK => ?_; go_simp; refine hK _ ?_; clear hK K)
 refine wpH_hid' (fun u x => BytesV x u (bel 1 ttl)) (by intro _ _ h; cases h) rfl (by rfl) (bytes_stay _) (by rfl) (by rfl) (fun w' hg => ?_) ?_
 ·have h := HPut1.out ttl w' (by have := HBd.out.2.2.2.2.2.1; omega)
  clear hg
  go_simp
  with_reducible refine h.mono ?_
  rintro e w1 ⟨v, rfl, h⟩
  exact ⟨_, rfl, newb_bytes h (bel_bytes _ _), h.2⟩
 try go_simp
 repeat (refine wpHp fun K hK => ?_; go_simp; refine hK _ ?_; clear hK K)
 refine wpHd (.int .u8 proto) (fun w' hg => ?_) ?_
 ·obtain ⟨⟨y0, y1, y2, y3, y4, y5⟩, y6, y7, y8, y9, y10⟩ := blkH ((hg.below.block _ (lt_of_block HF.out)).trans HF.out)
  clear hg
  go_simp
  exact Below.refl _ _
 try go_simp
 repeat (refine wpHp fun K hK => ?_; go_simp; refine hK _ ?_; clear hK K)
 refine wpH_hid' (fun u x => BytesV x u (bel 1 proto)) (by intro _ _ h; cases h) rfl (by rfl) (bytes_stay _) (by rfl) (by rfl) (fun w' hg => ?_) ?_
 ·have h := HPut1.out proto w' (by have := HBd.out.2.2.2.2.2.2.1; omega)
  clear hg
  go_simp
  with_reducible refine h.mono ?_
  rintro e w1 ⟨v, rfl, h⟩
  exact ⟨_, rfl, newb_bytes h (bel_bytes _ _), h.2⟩
 try go_simp
 repeat (refine wpHp fun K hK => ?_; go_simp; refine hK _ ?_; clear hK K)
 refine wpH_hid' (fun u x => BytesV x u [0, 0]) (by intro _ _ h; cases h) rfl (by rfl) (bytes_stay _) (by rfl) (by rfl) (fun w' hg => ?_) ?_
 ·clear hg
  have h := Lib.hid (bytes_new (w := w') [.int .u8 0, .int .u8 0] [0, 0] 5 rfl (by intro z hz; simp at hz; omega) (by simp [maxLen]))
  go_simp
  exact ⟨h.out, (Below.refl _ _).alloc (Nat.le_refl _) _⟩
 try go_simp
 repeat (refine wpHp fun K hK => ?_; go_simp; refine hK _ ?_; clear hK K)
 refine wpHd (.int .u32 src) (fun w' hg => ?_) ?_
 ·obtain ⟨⟨y0, y1, y2, y3, y4, y5⟩, y6, y7, y8, y9, y10⟩ := blkH ((hg.below.block _ (lt_of_block HF.out)).trans HF.out)
  clear hg
  go_simp
  exact Below.refl _ _
 try go_simp
 repeat (refine wpHp fun K hK => ?_; go_simp; refine hK _ ?_; clear hK K)
 refine wpH_hid' (fun u x => BytesV x u (bel 4 src)) (by intro _ _ h; cases h) rfl (by rfl) (bytes_stay _) (by rfl) (by rfl) (fun w' hg => ?_) ?_
 ·have h := HPut4.out src w' (by have := HBd.out.2.2.2.2.2.2.2.1; omega)
  clear hg
  go_simp
  with_reducible refine h.mono ?_
  rintro e w1 ⟨v, rfl, h⟩
  exact ⟨_, rfl, newb_bytes h (bel_bytes _ _), h.2⟩
 try go_simp
 repeat (refine wpHp fun K hK => ?_; go_simp; refine hK _ ?_; clear hK K)
 refine wpHd (.int .u32 dst) (fun w' hg => ?_) ?_
 ·obtain ⟨⟨y0, y1, y2, y3, y4, y5⟩, y6, y7, y8, y9, y10⟩ := blkH ((hg.below.block _ (lt_of_block HF.out)).trans HF.out)
  clear hg
  go_simp
  exact Below.refl _ _
 try go_simp
 repeat (refine wpHp fun K hK => ?_; go_simp; refine hK _ ?_; clear hK K)
 refine wpH_hid' (fun u x => BytesV x u (bel 4 dst)) (by intro _ _ h; cases h) rfl (by rfl) (bytes_stay _) (by rfl) (by rfl) (fun w' hg => ?_) ?_
 ·have h := HPut4.out dst w' (by have := HBd.out.2.2.2.2.2.2.2.2; omega)
  clear hg
  go_simp
  with_reducible refine h.mono ?_
  rintro e w1 ⟨v, rfl, h⟩
  exact ⟨_, rfl, newb_bytes h (bel_bytes _ _), h.2⟩
 try go_simp
 repeat (refine wpHp fun K hK => ?_; go_simp; refine hK _ ?_; clear hK K)
 refine wpHd (.slice ao m cap) (fun w' hg => ?_) ?_
 ·obtain ⟨⟨y0, y1, y2, y3, y4, y5⟩, y6, y7, y8, y9, y10⟩ := blkH ((hg.below.block _ (lt_of_block HF.out)).trans HF.out)
  clear hg
  go_simp
  exact Below.refl _ _
 try go_simp
 repeat (refine wpHp fun K hK => ?_; go_simp; refine hK _ ?_; clear hK K)
 refine wpH_hid (fun u x => RowsV x u rows) rfl (by rfl) (rows_stay _) (fun xs => by rfl) (fun xs w' hg hf => ?_) ?_
 ·have h62 := hf _ (List.Mem.head _) (by rfl)
  try dsimp only at h62
  have h58 := hf _ (List.Mem.tail _ (List.Mem.head _)) (by rfl)
  try dsimp only at h58
  have h54 := hf _ (List.Mem.tail _ (List.Mem.tail _ (List.Mem.head _))) (by rfl)
  try dsimp only at h54
  have h53 := hf _ (List.Mem.tail _ (List.Mem.tail _ (List.Mem.tail _ (List.Mem.head _)))) (by rfl)
  try dsimp only at h53
  have h49 := hf _ (List.Mem.tail _ (List.Mem.tail _ (List.Mem.tail _ (List.Mem.tail _ (List.Mem.head _))))) (by rfl)
  try dsimp only at h49
  have h45 := hf _ (List.Mem.tail _ (List.Mem.tail _ (List.Mem.tail _ (List.Mem.tail _ (List.Mem.tail _ (List.Mem.head _)))))) (by rfl)
  try dsimp only at h45
  have h29 := hf _ (List.Mem.tail _ (List.Mem.tail _ (List.Mem.tail _ (List.Mem.tail _ (List.Mem.tail _ (List.Mem.tail _ (List.Mem.head _))))))) (by rfl)
  try dsimp only at h29
  have h25 := hf _ (List.Mem.tail _ (List.Mem.tail _ (List.Mem.tail _ (List.Mem.tail _ (List.Mem.tail _ (List.Mem.tail _ (List.Mem.tail _ (List.Mem.head _)))))))) (by rfl)
  try dsimp only at h25
  have h19 := hf _ (List.Mem.tail _ (List.Mem.tail _ (List.Mem.tail _ (List.Mem.tail _ (List.Mem.tail _ (List.Mem.tail _ (List.Mem.tail _ (List.Mem.tail _ (List.Mem.head _))))))))) (by rfl)
  try dsimp only at h19
  have h15 := hf _ (List.Mem.tail _ (List.Mem.tail _ (List.Mem.tail _ (List.Mem.tail _ (List.Mem.tail _ (List.Mem.tail _ (List.Mem.tail _ (List.Mem.tail _ (List.Mem.tail _ (List.Mem.head _)))))))))) (by rfl)
  try dsimp only at h15
  have hb := HBody.out.mono (HW.out.trans hg.below)
  clear hf hg
  simp only [fill]
  generalize xs 15 = y15 at *
  generalize xs 19 = y19 at *
  generalize xs 25 = y25 at *
  generalize xs 29 = y29 at *
  generalize xs 45 = y45 at *
  generalize xs 49 = y49 at *
  generalize xs 53 = y53 at *
  generalize xs 54 = y54 at *
  generalize xs 58 = y58 at *
  generalize xs 62 = y62 at *
  obtain ⟨a15, b15, rfl, _, _⟩ := h15.shape
  obtain ⟨a19, b19, rfl, _, _⟩ := h19.shape
  obtain ⟨a25, b25, rfl, _, _⟩ := h25.shape
  obtain ⟨a29, b29, rfl, _, _⟩ := h29.shape
  obtain ⟨a45, b45, rfl, _, _⟩ := h45.shape
  obtain ⟨a49, b49, rfl, _, _⟩ := h49.shape
  obtain ⟨a53, b53, rfl, _, _⟩ := h53.shape
  obtain ⟨a54, b54, rfl, _, _⟩ := h54.shape
  obtain ⟨a58, b58, rfl, _, _⟩ := h58.shape
  obtain ⟨a62, b62, rfl, _, _⟩ := h62.shape
  have hr := rows_new (w := w') [(.slice a15 (bel 1 Q).length b15), (.slice a19 (bel 1 tos).length b19), (.slice a25 (bel 2 T).length b25), (.slice a29 (bel 2 id).length b29), (.slice a45 (bel 2 FW).length b45), (.slice a49 (bel 1 ttl).length b49), (.slice a53 (bel 1 proto).length b53), (.slice a54 2 b54), (.slice a58 (bel 4 src).length b58), (.slice a62 (bel 4 dst).length b62), (.slice ao m cap)] [bel 1 Q, bel 1 tos, bel 2 T, bel 2 id, bel 2 FW, bel 1 ttl, bel 1 proto, [0, 0], bel 4 src, bel 4 dst, os] 25 rfl (by simp [maxLen]) (fun i x hx => by
   match i, hx with
   | 0, hx => simp at hx; subst hx; exact h15
   | 1, hx => simp at hx; subst hx; exact h19
   | 2, hx => simp at hx; subst hx; exact h25
   | 3, hx => simp at hx; subst hx; exact h29
   | 4, hx => simp at hx; subst hx; exact h45
   | 5, hx => simp at hx; subst hx; exact h49
   | 6, hx => simp at hx; subst hx; exact h53
   | 7, hx => simp at hx; subst hx; exact h54
   | 8, hx => simp at hx; subst hx; exact h58
   | 9, hx => simp at hx; subst hx; exact h62
   | 10, hx => simp at hx; subst hx; exact hb)
  rw [HROW.out] at hr
  have HR := Lib.hid hr
  clear hr hb h15 h19 h25 h29 h45 h49 h53 h54 h58 h62
  go_simp
  exact ⟨HR.out, (Below.refl _ _).alloc (Nat.le_refl _) _⟩
 try go_simp
 refine wpH_hid (OwnB w.heap.size H0) rfl (by rfl) (fun u x x' hg h => own_grow h hg.below) (fun xs => by rfl) (fun xs w' hg hf => ?_) ?_
 ·have h1 := hf _ (List.Mem.head _) (by rfl)
  try dsimp only at h1
  have hs := (HW.out.trans hg.below).size
  have h := join_any _ rows w' h1 (by rw [HFd.out]; exact HH0.out) (by rw [HFd.out, HHl.out]; omega)
  rw [HFd.out] at h
  clear hf hg h1
  simp only [fill]
  generalize xs 65 = y65 at *
  go_simp
  with_reducible refine h.mono ?_
  rintro e w1 ⟨v, rfl, h⟩
  exact ⟨_, rfl, own_less h.1 hs, h.2⟩
 try go_simp
 refine wpH_nil ?_
 intro xs w2 hg hx1 hx2
 have hy := hx2 _ _ (List.Mem.head _)
 try dsimp only at hy
 clear hx1 hx2
 have HG2 := Lib.hid (HW.out.trans hg.below)
 clear hg
 simp only [fill]
 generalize xs 66 = y at *
 generalize xs 15 = z15 at *
 generalize xs 19 = z19 at *
 generalize xs 25 = z25 at *
 generalize xs 29 = z29 at *
 generalize xs 45 = z45 at *
 generalize xs 49 = z49 at *
 generalize xs 53 = z53 at *
 generalize xs 54 = z54 at *
 generalize xs 58 = z58 at *
 generalize xs 62 = z62 at *
 generalize xs 65 = z65 at *
 obtain ⟨Lh, hLh⟩ : ∃ Lh : Nat, 20 + m = Lh := ⟨_, rfl⟩
 have HLh := Lib.hid hLh
 have p2 : w2.ownsRow w.heap.size 5 1 y Lh (H0.map (Value.int .u8)) := by
  have h : w2.ownsRow w.heap.size 5 1 y H0.length (H0.map (Value.int .u8)) := hy
  rwa [HHl.out, hLh] at h
 obtain ⟨g, cp, cur, rfl, hbg, hcur, hncp, hcpm, hcsz, hct⟩ := own_row p2 (by omega)
 have HP2 := Lib.hid p2
 have HBH := Lib.hid (show BytesV w2 _ H0 from ⟨HH0.out, ints_of_owns p2⟩)
 have k1 : (Lh : Int) ≤ (cp : Int) := by omega
 have k2 : ¬ cp = 10 := by omega
 have k3 : (10 : Int) ≤ (Lh : Int) := by omega
 have k4 : (12 : Int) ≤ (cp : Int) := by omega
 have K5 : Hid (20 ≤ Lh ∧ Lh ≤ 60) := ⟨by omega, by omega⟩
 unfold maxLen at hcpm
 clear p2 hbg hcur hncp hcsz hct hLh hy
 go_simp
 go_wp2_with fail
 refine wpRg 6 ?_
 simp only [List.take_succ_cons, List.take_zero, List.drop_succ_cons, List.drop_zero]
 repeat (refine wpHp fun K hK => ?_; go_simp; refine hK _ ?_; clear hK K)
 refine wpHd (.int .u16 CK) (fun w' hg => ?_) ?_
 ·have hck := refCheck_any _ H0 w' (HBH.out.mono hg.below) (by rw [HHl.out]; omega)
  rw [HCk.out] at hck
  clear hg
  go_simp
  with_reducible refine hck.mono ?_
  rintro e w1 ⟨rfl, h⟩
  exact ⟨_, rfl, rfl, h⟩
 try go_simp
 repeat (refine wpHp fun K hK => ?_; go_simp; refine hK _ ?_; clear hK K)
 refine wpH_hid' (fun u x => BytesV x u (bel 2 CK)) (by intro _ _ h; cases h) rfl (by rfl) (bytes_stay _) (by rfl) (by rfl) (fun w' hg => ?_) ?_
 ·have h := HPut2.out CK w' (by have := HCB.out; omega)
  clear hg
  go_simp
  with_reducible refine h.mono ?_
  rintro e w1 ⟨v, rfl, h⟩
  exact ⟨_, rfl, newb_bytes h (bel_bytes _ _), h.2⟩
 try go_simp
 refine wpH_nil ?_
 intro xs w12 hg hx1 hx2
 have hy := hx2 _ _ (List.Mem.head _)
 try dsimp only at hy
 have HG12 := Lib.hid (HG2.out.trans hg.below)
 have HO12 := Lib.hid (own_stays HP2.out hg.below)
 have HY := Lib.hid hy
 clear hg hy hx1 hx2
 simp only [fill]
 generalize xs 72 = y72 at *
 go_simp
 refine wpList_put2 rfl _ _ 25 5 rfl Tryz.underlying25 (by kernel_rfl) g Lh cp 10 2 (cp - 10) rfl y72 rfl (bel 2 CK) 2 (bel_length _ _) (by omega) HY.out (by omega) w.heap.size w H0 HO12.out (by have := K5.out; omega) HG12.out ?_
 rw [HPb.out]
 intro w13 vv HO13 hb13
 have HG13 : Hid (Grow w w13) := hb13
 clear hb13
 have HI2 := Lib.hid (HPay.out.mono HG13.out).2
 have HLd : Hid (HDR.length = Lh) := by show _ = _; rw [HHr.out]; exact HLh.out
 have hle : w.heap.size ≤ w13.heap.size := HG13.out.size
 go_wp2_with (at_builtin; refine wpList_append_ints (k := .u8) rfl _ _ 25 rfl w.heap.size 5 i0 1 Tryz.underlying25 hi hz0 hz1 hz2 _ Lh _ rfl HO13.out _ pl rfl HI2.out ?c3 ?c4 hle ?_)
 case c3 => have := HNl.out; have := K5.out; unfold maxLen; omega
 case c4 => have := HNl.out; have := K5.out; omega
 intro v' w14 hown hgrow
 have HRes : Hid (NewBytes w PK v' w14) := by
  refine ⟨?_, HG13.out.grown hgrow hle (fun k hk => (HO13.out.lt k hk).1)⟩
  rw [HPk.out, List.length_append, HLd.out, List.map_append]
  exact hown
 clear hown hgrow
 go_wp2_with fail
 go_ret
 exact ⟨_, rfl, HRes.out⟩
end
end Go.Proofs.YtgckhdepnmiejaaGreat
