/- A trial. -/
import Derived.Test.YtiphhjipgjpepaaRows
import Derived.Test.YtiphhjipgjpepaaFrOpen
import Derived.Test.YtiphhjipgjpepaaFrSame
import Derived.WalkKit
import Derived.ProofKit
import Derived.OpenShut
import Derived.ShutString
import Derived.ChangeOld
import Derived.Below
set_option linter.unusedVariables false
namespace Go.Proofs.Ytiphhjipgjpepaa.frameMeans
open Go.ChangeShapes Go.WideShapes Go.ChangeAt Go.RowKit
open Go.ChangeMaps (open_string shut_string)
set_option linter.unusedSimpArgs false
theorem own : ownKnob Try.prog.godebug = none := by kernel_rfl
theorem laidOut : laidOutB Try.prog = true := by kernel_rfl

theorem not_of {zs : List Int} {v : Value} {w : World} (hv : BytesV w v zs) (hz : zs.length ≤ 6000) (h : ¬ okF zs) : Calls Try.prog 14 #[v] w fun e w' => e = .returned (.tuple #[.agg #[.int .i64 0, .int .i64 0, .int .u64 0, .int .u64 0, .int .u64 0, .int .u64 0, .int .u64 0, .int .u64 0, .slice none 0 0], .int .i64 4]) ∧ Grow w w' := by
  refine (of_any v zs w hv hz).mono ?_
  rintro e w' hh
  rcases hh with ⟨h1, _⟩ | ⟨_, rfl, hg⟩
  · exact absurd h1 h
  · exact ⟨rfl, hg⟩

/-- Where there is nothing to show. -/
def PreW (f : Fr) (w : World) : Prop := ∀ x, Grow w x → Calls Try.prog 8 #[] x fun e w' => e = .returned (.bool true) ∧ Grow x w'

set_option maxRecDepth 100000 in
set_option maxHeartbeats 1000000 in
theorem long (f : Fr) (a n x : Int) (w : World) (hok : FrOk w f) (hl : 5000 < f.zs.length) : Calls Try.prog 4 #[f.val, .int .i64 a, .int .u16 n, .int .u8 x] w fun e w' => e = .returned (.bool true) ∧ Below w.heap.size w w' := by
  obtain ⟨kd, nd, mb, mt, tb, tt, sq, ak, v, zs⟩ := f
  obtain ⟨ao, cap, hv, h1, h2⟩ := hok.body.shape
  dsimp only at hv h1 hl
  subst hv
  clear hok
  simp only [Fr.val, Fr.cells, frCells]
  unfold maxLen at h2
  generalize zs.length = m at *
  have hF := heap_alloc_new w (.cells #[.int .i64 kd, .int .i64 nd, .int .u64 mb, .int .u64 mt, .int .u64 tb, .int .u64 tt, .int .u64 sq, .int .u64 ak, .slice ao m cap] 28)
  have HF := Lib.hid hF
  have HW : Hid (Grow w (w.alloc (.cells #[.int .i64 kd, .int .i64 nd, .int .u64 mb, .int .u64 mt, .int .u64 tb, .int .u64 tt, .int .u64 sq, .int .u64 ak, .slice ao m cap] 28))) := (Grow.refl w).alloc _
  clear hF
  go_enter Try.func4, Try.ntmps4
  go_wp2_with fail
  refine (known_any _).mono ?_
  rintro e w1 ⟨rfl, hg⟩
  obtain ⟨_, _, _, _, f8⟩ := blkF ((hg.block _ (lt_of_block HF.out)).trans HF.out)
  have HG := Lib.hid (HW.out.trans hg)
  clear hg
  go_wp2_with fail
  go_ret
  exact ⟨rfl, HG.out⟩

set_option maxRecDepth 100000 in
set_option maxHeartbeats 1000000 in
theorem refused (f : Fr) (a n x : Int) (w : World) (hok : FrOk w f) (hl : f.zs.length ≤ 5000) (hm : mayF f = false) : Calls Try.prog 4 #[f.val, .int .i64 a, .int .u16 n, .int .u8 x] w fun e w' => e = .returned (.bool true) ∧ Below w.heap.size w w' := by
  have HB : Hid (∀ x, Grow w x → Calls Try.prog 9 #[f.val] x fun e w' => e = .returned (.tuple #[.slice none 0 0, .int .i64 2]) ∧ Grow x w') := fun x hx => by
    refine (fBytes_any f x (hok.mono hx) hl).mono ?_
    rintro e w' h
    rcases h with ⟨h, _⟩ | ⟨_, rfl, hg⟩
    · rw [hm] at h; cases h
    · exact ⟨rfl, hg⟩
  obtain ⟨kd, nd, mb, mt, tb, tt, sq, ak, v, zs⟩ := f
  obtain ⟨ao, cap, hv, h1, h2⟩ := hok.body.shape
  dsimp only at hv h1 hl
  subst hv
  clear hok hm
  simp only [Fr.val, Fr.cells, frCells] at *
  unfold maxLen at h2
  generalize zs.length = m at *
  have hF := heap_alloc_new w (.cells #[.int .i64 kd, .int .i64 nd, .int .u64 mb, .int .u64 mt, .int .u64 tb, .int .u64 tt, .int .u64 sq, .int .u64 ak, .slice ao m cap] 28)
  have HF := Lib.hid hF
  have HW : Hid (Grow w (w.alloc (.cells #[.int .i64 kd, .int .i64 nd, .int .u64 mb, .int .u64 mt, .int .u64 tb, .int .u64 tt, .int .u64 sq, .int .u64 ak, .slice ao m cap] 28))) := (Grow.refl w).alloc _
  clear hF
  go_enter Try.func4, Try.ntmps4
  go_wp2_with fail
  refine (known_any _).mono ?_
  rintro e w1 ⟨rfl, hg⟩
  obtain ⟨⟨f0, f1, f2, f3, f4⟩, f5, f6, f7, f8⟩ := blkF ((hg.block _ (lt_of_block HF.out)).trans HF.out)
  have HG := Lib.hid (HW.out.trans hg)
  clear hg
  go_wp2_with fail
  refine (HB.out _ HG.out).mono ?_
  rintro e w2 ⟨rfl, hg⟩
  have HG2 := Lib.hid (HG.out.trans hg)
  clear hg
  go_wp2_with (go_at_call 13; refine (num_any _ _).mono ?_; rintro e w' ⟨rfl, rfl⟩)
  go_ret
  exact ⟨rfl, HG2.out⟩

theorem two_bd {a b : Int} (h1 : 0 ≤ a) (h2 : a < 256) (h3 : 0 ≤ b) (h4 : b < 256) : Bytes [a, b] := fun z hz => by
  simp at hz
  rcases hz with rfl | rfl <;> omega

theorem bytes_pre {w : World} {ao : Option Addr} {cap n : Nat} {zs : List Int} (h : BytesV w (.slice ao zs.length cap) zs) (hn : n ≤ zs.length) : BytesV w (.slice ao n cap) (zs.take n) := by
  obtain ⟨hb, ⟨rfl, ao', c, e, h1, h2⟩ | ⟨b, off, c, e, h1, h2, h3⟩⟩ := h
  · have : n = 0 := by simpa using hn
    subst this
    injection e with e1 _ e3
    subst e1; subst e3
    exact ⟨Bytes.nil, Or.inl ⟨rfl, _, _, rfl, h1, h2⟩⟩
  · injection e with e1 _ e3
    subst e1; subst e3
    have hl : (zs.take n).length = n := by simp; omega
    refine ⟨hb.take n, Or.inr ⟨b, off, cap, by rw [hl], by omega, h2, fun i hi => ?_⟩⟩
    rw [hl] at hi
    rw [h3 i (by omega)]
    simp [List.getD_eq_getElem?_getD, hi]

theorem grow_two {w w5 : World} {g : Nat} (h : Grow w w5) (hg : w.heap.size ≤ g) (n i j : Nat) (x y : Value) : Grow w (((w5.drewN n).setCell ⟨g, i, none⟩ x).setCell ⟨g, j, none⟩ y) :=
  Below.setCell (p := ⟨g, j, none⟩) (Below.setCell (p := ⟨g, i, none⟩) (show Below w.heap.size w (w5.drewN n) from ⟨h.os, h.tape, h.output, h.size, h.block⟩) hg x) hg y

theorem stored_two {w : World} {base g n cp k : Nat} {p : List Int} {x y : Int} (h : w.ownsRow base 5 1 (.slice (some ⟨g, 0, none⟩) n cp) n (p.map (Value.int .u8))) (hk : 2 * k + 1 < p.length) :
    ((w.setCell ⟨g, 2 * k, none⟩ (.int .u8 x)).setCell ⟨g, 2 * k + 1, none⟩ (.int .u8 y)).ownsRow base 5 1 (.slice (some ⟨g, 0, none⟩) n cp) n ((chg p k x y).map (Value.int .u8)) := by
  have h1 := ((h.stored (2 * k) (.int .u8 x)).1.stored (2 * k + 1) (.int .u8 y)).1
  rw [← chg_set x y hk, List.map_set, List.map_set]
  exact h1

set_option maxRecDepth 100000 in
set_option maxHeartbeats 600000 in
theorem main (f : Fr) (a n x : Int) (w : World) (hok : FrOk w f) (hl : f.zs.length ≤ 5000) (hm : mayF f = true) (ha : -9223372036854775808 ≤ a ∧ a < 9223372036854775808) (hn : 0 ≤ n ∧ n < 65536) (hx : 0 ≤ x ∧ x < 256) : Calls Try.prog 4 #[f.val, .int .i64 a, .int .u16 n, .int .u8 x] w fun e w' => e = .returned (.bool true) ∧ Below w.heap.size w w' := by
  obtain ⟨i0, hi, hz0, hz1, hz2⟩ := info_parts infoByte
  have h64 : U64 f.mb ∧ U64 f.mt ∧ U64 f.tb ∧ U64 f.tt ∧ U64 f.sq ∧ U64 f.ak := ⟨hok.mb, hok.mt, hok.tb, hok.tt, hok.sq, hok.ak⟩
  obtain ⟨fb, hfb⟩ : ∃ l, frB f = l := ⟨_, rfl⟩
  obtain ⟨m, hmz⟩ : ∃ m, f.zs.length = m := ⟨_, rfl⟩
  obtain ⟨L, hL⟩ : ∃ L, fb.length = L := ⟨_, rfl⟩
  have hfl : fb.length = 54 + m := by rw [← hfb, ← hmz]; exact frB_length f
  have hLm : L = 54 + m := by omega
  have hBy : Bytes fb := by rw [← hfb]; exact frB_bytes f hok.body.1
  have hBz : Bytes f.zs := hok.body.1
  have hcut := not_ok_cut hm h64
  have hmore := not_ok_more hm h64 x
  have hsum := bsum_frB f hok.body.1
  have hof := fun u => ofF_frB (of_decide_eq_true hm) h64 u
  have hokf := okF_frB hm h64
  rw [hfb] at hcut hmore hsum hokf
  rw [hmz] at hcut
  have hdr : fb.drop 54 = f.zs := by
    have h : (ofF (frB f) (.slice none 0 0)).zs = f.zs := by rw [hof]
    rw [← hfb]; exact h
  have HB : Hid (∀ y, Grow w y → Calls Try.prog 9 #[f.val] y fun e w' => ∃ u, e = .returned (.tuple #[u, .int .i64 0]) ∧ NewBytes y fb u w') := fun y hy => by
    refine (fBytes_any f y (hok.mono hy) hl).mono ?_
    rintro e w' h
    rcases h with ⟨_, u, rfl, h⟩ | ⟨h, _⟩
    · rw [hfb] at h; exact ⟨u, rfl, h⟩
    · rw [hm] at h; cases h
  have HOF : Hid (∀ y v, BytesV y v fb → Calls Try.prog 14 #[v] y fun e w' => ∃ u, e = .returned (.tuple #[Fr.val { f with v := u }, .int .i64 0]) ∧ NewBytes y f.zs u w') := fun y v hv => by
    refine (of_any v fb y hv (by omega)).mono ?_
    rintro e w' h
    rcases h with ⟨_, u, rfl, h⟩ | ⟨h, _⟩
    · rw [hdr] at h
      exact ⟨u, by rw [← hof u, hfb], h⟩
    · exact absurd hokf h
  have HCUT : Hid (∀ y v, BytesV y v (fb.take (L - 1)) → Calls Try.prog 14 #[v] y fun e w' => e = .returned (.tuple #[.agg #[.int .i64 0, .int .i64 0, .int .u64 0, .int .u64 0, .int .u64 0, .int .u64 0, .int .u64 0, .int .u64 0, .slice none 0 0], .int .i64 4]) ∧ Grow y w') := fun y v hv =>
    not_of hv (by rw [List.length_take]; omega) (by rw [show L - 1 = 53 + m by omega]; exact hcut)
  have HMORE : Hid (∀ y v, BytesV y v (fb ++ [x]) → Calls Try.prog 14 #[v] y fun e w' => e = .returned (.tuple #[.agg #[.int .i64 0, .int .i64 0, .int .u64 0, .int .u64 0, .int .u64 0, .int .u64 0, .int .u64 0, .int .u64 0, .slice none 0 0], .int .i64 4]) ∧ Grow y w') := fun y v hv =>
    not_of hv (by rw [List.length_append]; simp only [List.length_cons, List.length_nil]; omega) hmore
  have HCHG : Hid (∀ k hi lo, 2 * k + 1 < L → 0 ≤ hi ∧ hi < 256 → 0 ≤ lo ∧ lo < 256 → (256 * fb.getD (2 * k) 0 + fb.getD (2 * k + 1) 0) % 65535 ≠ (256 * hi + lo) % 65535 → ∀ y v, BytesV y v (chg fb k hi lo) → Calls Try.prog 14 #[v] y fun e w' => e = .returned (.tuple #[.agg #[.int .i64 0, .int .i64 0, .int .u64 0, .int .u64 0, .int .u64 0, .int .u64 0, .int .u64 0, .int .u64 0, .slice none 0 0], .int .i64 4]) ∧ Grow y w') := fun k hi lo hk h1 h2 hne y v hv =>
    not_of hv (by rw [chg_length _ _ (by omega)]; omega) (not_ok_chg hBy hsum (by omega) h1 h2 hne)
  have hL1 : 54 ≤ L := by omega
  have hL2 : L ≤ 5054 := by omega
  have HBY := Lib.hid hBy
  have HBZ := Lib.hid hBz
  have HM := Lib.hid hmz
  have HL := Lib.hid hL
  clear hcut hmore hsum hof hokf hdr hm h64 hfb hfl hBy hBz hLm
  obtain ⟨kd, nd, mb, mt, tb, tt, sq, ak, v, zs⟩ := f
  obtain ⟨ao, cap, hv, h1, h2⟩ := hok.body.shape
  have HVB := Lib.hid hok.body
  dsimp only at hv h1 hl hmz HVB HM
  rw [hmz] at hv h1 hl
  subst hv
  clear hok hmz hL
  simp only [Fr.val, Fr.cells, frCells] at *
  unfold maxLen at h2
  have hF := heap_alloc_new w (.cells #[.int .i64 kd, .int .i64 nd, .int .u64 mb, .int .u64 mt, .int .u64 tb, .int .u64 tt, .int .u64 sq, .int .u64 ak, .slice ao m cap] 28)
  have HF := Lib.hid hF
  have HW : Hid (Grow w (w.alloc (.cells #[.int .i64 kd, .int .i64 nd, .int .u64 mb, .int .u64 mt, .int .u64 tb, .int .u64 tt, .int .u64 sq, .int .u64 ak, .slice ao m cap] 28))) := (Grow.refl w).alloc _
  clear hF
  go_enter Try.func4, Try.ntmps4
  go_wp2_with fail
  refine (known_any _).mono ?_
  rintro e w1 ⟨rfl, hg⟩
  have HF1 := Lib.hid ((hg.block _ (lt_of_block HF.out)).trans HF.out)
  obtain ⟨⟨f0, f1, f2, f3, f4⟩, f5, f6, f7, f8⟩ := blkF HF1.out
  have HG := Lib.hid (HW.out.trans hg)
  clear hg
  go_wp2_with fail
  refine (HB.out _ HG.out).mono ?_
  rintro e w2 ⟨u, rfl, hn2⟩
  have HG2 := Lib.hid (HG.out.trans hn2.2)
  have HF2 := Lib.hid ((hn2.2.block _ (lt_of_block HF1.out)).trans HF1.out)
  have HX2 : Hid (BytesV w2 u fb) := ⟨HBY.out, ints_of_owns hn2.1⟩
  have HO2 := Lib.hid hn2.1
  clear hn2 f0 f1 f2 f3 f4 f5 f6 f7 f8
  rcases HO2.out.2 with ⟨_, h0⟩ | ⟨g, cp, cur, hu, hgb, hgh, hgc, hgm, _, _⟩
  · exfalso; have := HL.out; omega
  subst hu
  rw [HL.out] at HX2 HO2 hgc ⊢
  have HGB : Hid (w.heap.size ≤ g) := Nat.le_trans HG.out.size hgb
  have HGL : Hid (g < w2.heap.size) := lt_of_block hgh
  clear hgh hgb
  unfold maxLen at hgm
  go_wp2_with (go_at_call 13; refine (num_any _ _).mono ?_; rintro e w' ⟨rfl, rfl⟩)
  have hofc := HOF.out _ _ HX2.out
  with_reducible refine hofc.mono ?_
  rintro e w3 ⟨u, rfl, hn3⟩
  have HV3 : Hid (BytesV w3 u zs) := ⟨HBZ.out, ints_of_owns hn3.1⟩
  have HG3 := Lib.hid (Grow.trans (Grow.refl w2) hn3.2)
  clear hn3
  obtain ⟨ao3, cp3, e3, _, _⟩ := HV3.out.shape
  rw [HM.out] at e3
  subst e3
  have hB4 := heap_alloc_new w3 (.cells #[.int .i64 kd, .int .i64 nd, .int .u64 mb, .int .u64 mt, .int .u64 tb, .int .u64 tt, .int .u64 sq, .int .u64 ak, .slice ao3 m cp3] 28)
  have hW4 : Grow w3 (w3.alloc (.cells #[.int .i64 kd, .int .i64 nd, .int .u64 mb, .int .u64 mt, .int .u64 tb, .int .u64 tt, .int .u64 sq, .int .u64 ak, .slice ao3 m cp3] 28)) := (Grow.refl w3).alloc _
  have hF3 := (HG3.out.block _ (lt_of_block HF2.out)).trans HF2.out
  have hF4 := (hW4.block _ (lt_of_block hF3)).trans hF3
  have HB4 := Lib.hid hB4
  have HF4 := Lib.hid hF4
  have HW4 := Lib.hid hW4
  clear hB4 hF4 hW4 hF3
  go_wp2_with fail
  generalize w3.alloc (.cells #[.int .i64 kd, .int .i64 nd, .int .u64 mb, .int .u64 mt, .int .u64 tb, .int .u64 tt, .int .u64 sq, .int .u64 ak, .slice ao3 m cp3] 28) = w4 at *
  obtain ⟨⟨f0, f1, f2, f3, f4⟩, f5, f6, f7, f8⟩ := blkF HB4.out
  obtain ⟨⟨b0, b1, b2, b3, b4⟩, b5, b6, b7, b8⟩ := blkF HF4.out
  have HG4 := Lib.hid (HG2.out.trans (HG3.out.trans HW4.out))
  have HY4 := Lib.hid (HX2.out.mono (HG3.out.trans HW4.out))
  have HO4 := Lib.hid (own_grow HO2.out (HG3.out.trans HW4.out))
  have HS := Lib.hid (rsame_true kd nd mb mt tb tt sq ak (HV3.out.mono HW4.out) (HVB.out.mono HG4.out))
  go_wp2_with (go_at_call 13; refine (num_any _ _).mono ?_; rintro e w' ⟨rfl, rfl⟩)
  with_reducible refine HS.out.mono ?_
  rintro e w5 ⟨rfl, hg⟩
  have HG5 := Lib.hid (HG4.out.trans hg)
  have HY5 := Lib.hid (HY4.out.mono hg)
  have HO5 := Lib.hid (own_grow HO4.out hg)
  clear hg HS HY4 HO4 HV3 HVB HF4 HB4 HW4 HG4 HX2 HO2 HF2 HF1 HB HOF f0 f1 f2 f3 f4 f5 f6 f7 f8 b0 b1 b2 b3 b4 b5 b6 b7 b8
  go_wp2_with (go_at_call 13; refine (num_any _ _).mono ?_; rintro e w' ⟨rfl, rfl⟩)
  with_reducible refine (HCUT.out _ _ (bytes_pre (zs := fb) (by rw [HL.out]; exact HY5.out) (by rw [HL.out]; omega))).mono ?_
  rintro e w6 ⟨rfl, hg⟩
  have HG6 := Lib.hid (HG5.out.trans hg)
  have HY6 := Lib.hid (HY5.out.mono hg)
  have HO6 := Lib.hid (own_grow HO5.out hg)
  clear hg HG5 HY5 HO5 HCUT
  have HS0 : Hid (0 + fb.length ≤ maxLen) := by have := HL.out; show 0 + fb.length ≤ maxLen; unfold maxLen; omega
  have HS1 : Hid ((0 + fb.length) * 1 ≤ 140737488355328) := by have := HL.out; show (0 + fb.length) * 1 ≤ 140737488355328; omega
  have HS2 : Hid (L + [x].length ≤ maxLen) := by show L + 1 ≤ maxLen; unfold maxLen; omega
  have HS3 : Hid ((L + [x].length) * 1 ≤ 140737488355328) := by show (L + 1) * 1 ≤ 140737488355328; omega
  have hbx : Bytes [x] := fun z hz => by simp at hz; subst hz; exact hx
  have HBX := Lib.hid hbx
  have HTB : Hid (∀ W : World, BytesV (W.alloc (.cells #[.int .u8 x] 5)) (.slice (some ⟨W.heap.size, 0, none⟩) 1 1) [x]) := fun W => bytes_new (w := W) [.int .u8 x] [x] 5 rfl hbx (by simp [maxLen])
  clear hbx
  go_wp2_with (at_builtin; refine wpList_append_ints (k := .u8) rfl (.const (.slice none 0 0)) (.tmp 54) 26 rfl w6.heap.size 5 i0 1 Try.underlying26 hi hz0 hz1 hz2 _ _ _ rfl (World.ownsRow_nil _ _ _ _) _ fb rfl HY6.out.2 HS0.out HS1.out (Nat.le_refl _) ?_)
  intro v7 w7 ho7 hgr7
  have hg7 : Grow w6 w7 := grow_by (e := 5) (n := 0) (xs := []) (v := .slice none 0 0) (Grow.refl w6) (World.ownsRow_nil _ _ _ _) hgr7
  have HO7 : Hid (w7.ownsRow w6.heap.size 5 1 v7 L (fb.map (Value.int .u8))) := by
    have h := ho7
    rw [HL.out] at h
    exact h
  have HG7 := Lib.hid hg7
  clear ho7 hg7 hgr7 HS0 HS1
  go_wp2_with (at_builtin; refine wpList_append_ints (k := .u8) rfl (.tmp 55) (.tmp 57) 26 rfl w6.heap.size 5 i0 1 Try.underlying26 hi hz0 hz1 hz2 _ _ _ rfl (HO7.out.alloc (.cells #[.int .u8 x] 5)) _ [x] rfl (HTB.out _).2 HS2.out HS3.out (HG7.out.alloc (.cells #[.int .u8 x] 5)).size ?_)
  intro v8 w8 ho8 hgr8
  have hg8 : Grow w6 w8 := grow_by (HG7.out.alloc _) (HO7.out.alloc _) hgr8
  have HV8 : Hid (BytesV w8 v8 (fb ++ [x])) := ⟨HBY.out.append HBX.out, ints_of_owns (base := w6.heap.size) (e := 5) (by rw [List.map_append]; exact ho8)⟩
  have HG8 := Lib.hid hg8
  clear ho8 hg8 hgr8 HG7 HO7 HTB HS2 HS3
  go_wp2_with fail
  with_reducible refine (HMORE.out _ _ HV8.out).mono ?_
  rintro e w9 ⟨rfl, hg⟩
  have hA : Grow w9 (w9.alloc (.cells #[.int .i64 0, .int .i64 0, .int .u64 0, .int .u64 0, .int .u64 0, .int .u64 0, .int .u64 0, .int .u64 0, .slice none 0 0] 28)) := (Grow.refl w9).alloc _
  have HA := Lib.hid hA
  have HG9 := Lib.hid (HG8.out.trans hg)
  clear hg hA HG8 HV8 HMORE
  go_wp2_with fail
  generalize w9.alloc (.cells #[.int .i64 0, .int .i64 0, .int .u64 0, .int .u64 0, .int .u64 0, .int .u64 0, .int .u64 0, .int .u64 0, .slice none 0 0] 28) = w10 at *
  have HG10 := Lib.hid (HG6.out.trans (HG9.out.trans HA.out))
  have HO10 := Lib.hid (own_grow HO6.out (HG9.out.trans HA.out))
  clear HO6 HY6 HG9 HA HG6
  by_cases ha1 : a < 0
  · go_wp2_with (go_at_call 13; refine (num_any _ _).mono ?_; rintro e w' ⟨rfl, rfl⟩)
    go_ret
    exact ⟨rfl, HG10.out⟩
  by_cases hb1 : (L : Int) / 2 ≤ a
  · go_wp2_with (go_at_call 13; refine (num_any _ _).mono ?_; rintro e w' ⟨rfl, rfl⟩)
    go_ret
    exact ⟨rfl, HG10.out⟩
  obtain ⟨k, rfl⟩ : ∃ k : Nat, a = (k : Int) := ⟨a.toNat, by omega⟩
  have hk : (k : Int) < (L : Int) / 2 := by omega
  have hkp : 2 * k + 1 < L := by omega
  clear ha1 hb1 ha
  have hx1 := HO10.out.cellAt (2 * k) (by omega)
  have hy1 := HO10.out.cellAt (2 * k + 1) (by omega)
  have hfx := HO10.out.frozenAt (2 * k)
  have hfy := HO10.out.frozenAt (2 * k + 1)
  rw [show (fb.map (Value.int .u8))[2 * k]? = some (.int .u8 (fb.getD (2 * k) 0)) from by have := HL.out; simp [show 2 * k < fb.length by omega]] at hx1
  rw [show (fb.map (Value.int .u8))[2 * k + 1]? = some (.int .u8 (fb.getD (2 * k + 1) 0)) from by have := HL.out; simp [show 2 * k + 1 < fb.length by omega]] at hy1
  have hxb := HBY.out.getD (2 * k)
  have hyb := HBY.out.getD (2 * k + 1)
  have hk1 : (0 : Int) ≤ 2 * (k : Int) := by omega
  have hk2 : 2 * (k : Int) + 1 < (L : Int) := by omega
  have hn3 : IntKind.u16.wrap (n.tdiv 256) = n / 256 := by rw [Int.tdiv_eq_ediv_of_nonneg hn.1, wrap16]; omega
  have hn4 : n / 256 % 256 = n / 256 := by omega
  have HC := Lib.hid (HCHG.out k (n / 256) (n % 256) hkp (by omega) (by omega))
  clear HCHG
  generalize fb.getD (2 * k) 0 = xa at *
  generalize fb.getD (2 * k + 1) 0 = xb at *
  have hw1 : IntKind.u16.wrap (256 * xa) = 256 * xa := by rw [wrap16]; omega
  have hw2 : IntKind.u16.wrap (256 * xa + xb) = 256 * xa + xb := by rw [wrap16]; omega
  go_wp2_with (go_at_call 13; refine (num_any _ _).mono ?_; rintro e w' ⟨rfl, rfl⟩)
  go_quiet (fail)
  have HGD : Hid (Grow w (w10.drewN nq)) := ⟨HG10.out.os, HG10.out.tape, HG10.out.output, HG10.out.size, HG10.out.block⟩
  by_cases e1 : 256 * xa + xb = n
  · subst e1
    go_wp2_with (go_at_call 13; refine (num_any _ _).mono ?_; rintro e w' ⟨rfl, rfl⟩)
    go_ret
    exact ⟨rfl, HGD.out⟩
  have he1 : (256 * xa + xb == n) = false := by simp [e1]
  by_cases e2 : (256 * xa + xb) % 65535 = n % 65535
  · go_wp2_with (go_at_call 13; refine (num_any _ _).mono ?_; rintro e w' ⟨rfl, rfl⟩)
    go_ret
    exact ⟨rfl, HGD.out⟩
  have he2 : ((256 * xa + xb) % 65535 == n % 65535) = false := by simp [e2]
  have HC2 := Lib.hid (HC.out (by have : 256 * (n / 256) + n % 256 = n := by omega
                                  rw [this]; exact e2))
  clear HC e1 e2
  have hs := stored_two (k := k) (x := n / 256) (y := n % 256) (show (w10.drewN nq).ownsRow w1.heap.size 5 1 (.slice (some ⟨g, 0, none⟩) L cp) L (fb.map (Value.int .u8)) from HO10.out) (by rw [HL.out]; exact hkp)
  have hg6 : Grow w (((w10.drewN nq).setCell ⟨g, 2 * k, none⟩ (.int .u8 (n / 256))).setCell ⟨g, 2 * k + 1, none⟩ (.int .u8 (n % 256))) :=
    grow_two HG10.out HGB.out nq _ _ _ _
  have HQ : Hid (BytesV (((w10.drewN nq).setCell ⟨g, 2 * k, none⟩ (.int .u8 (n / 256))).setCell ⟨g, 2 * k + 1, none⟩ (.int .u8 (n % 256))) (.slice (some ⟨g, 0, none⟩) L cp) (chg fb k (n / 256) (n % 256))) := ⟨chg_bytes HBY.out (by omega) (by omega), ints_of_owns hs⟩
  have HG11 := Lib.hid hg6
  clear hs hg6
  go_wp2_with (go_at_call 13; refine (num_any _ _).mono ?_; rintro e w' ⟨rfl, rfl⟩)
  generalize ((w10.drewN nq).setCell ⟨g, 2 * k, none⟩ (.int .u8 (n / 256))).setCell ⟨g, 2 * k + 1, none⟩ (.int .u8 (n % 256)) = w11 at *
  with_reducible refine (HC2.out _ _ HQ.out).mono ?_
  rintro e w12 ⟨rfl, hg⟩
  have HG12 := Lib.hid (HG11.out.trans hg)
  clear hg
  go_wp2_with (go_at_call 13; refine (num_any _ _).mono ?_; rintro e w' ⟨rfl, rfl⟩)
  go_ret
  exact ⟨rfl, HG12.out⟩

theorem walk (f : Fr) (a n x : Int) (w : World) (w0 : FrOk w f) (w1 : (Lit.int .i64 a).wf = true) (w2 : (Lit.int .u16 n).wf = true) (w3 : (Lit.int .u8 x).wf = true) :
    Calls Try.prog 4 #[f.val, .int .i64 a, .int .u16 n, .int .u8 x] w fun e w' => e = .returned (.bool true) ∧ Below w.heap.size w w' := by
  by_cases hl : 5000 < f.zs.length
  · exact long f a n x w w0 hl
  · by_cases hm : mayF f = true
    · have h1 := wf_i64 w1
      have h2 := wf_u16 w2
      have h3 := wf_u8 w3
      exact main f a n x w w0 (by omega) hm (by omega) (by omega) (by omega)
    · exact refused f a n x w w0 (by omega) (by simpa using hm)


set_option maxRecDepth 100000 in
theorem lifted (os : Os) (started : os.Started) (H : Type) (enc : TypeId × Value → H) :
    ReturnsInHanded {} Try.checked os 4 .any (Rows.frameMeansSpec.pre6 enc Try.prog Try.f4 Rows.frameMeansRow.domain false) (Rows.frameMeansSpec.post enc Try.prog Try.f4 false true false false) := by
  refine returnsInHanded_of_change (C := Try.checked) own started (by kernel_rfl) Try.func4
    (ChangeSpec.witness6 (enc := enc) (C := Try.checked) false ⟨#[], #[.agg #[.int .i64 0, .int .i64 0, .int .u64 0, .int .u64 0, .int .u64 0, .int .u64 0, .int .u64 0, .int .u64 0, .slice none 0 0], .int .i64 0, .int .u16 0, .int .u8 0], []⟩ 8 (by kernel_rfl) (by kernel_rfl) (by kernel_rfl) (by kernel_rfl)) ?_
  intro W base args ds gs before hval0 hW hcnd _
  have hval : ∀ (j : Nat) t v, Try.f4.params[j]? = some t → args[j]? = some v → Value.okWide Try.prog W .any base t v := hval0
  have hW' := hW
  obtain ⟨p, q, hA0, hV, rfl, hfz, hnd⟩ := hW
  have hA : DataW.TrodAll enc Try.prog W 0 (fun _ => true) true Try.f4.params.toList args.toList ds p := hA0
  rw [Try.params4] at hA hval
  obtain ⟨v0, vs0, d0, ds0, p0, q0, hargs, rfl, rfl, h0, r0⟩ := trodAll_cons hA
  obtain ⟨v1, vs1, d1, ds1, p1, q1, rfl, rfl, rfl, h1, r1⟩ := trodAll_cons r0
  obtain ⟨v2, vs2, d2, ds2, p2, q2, rfl, rfl, rfl, h2, r2⟩ := trodAll_cons r1
  obtain ⟨v3, vs3, d3, ds3, p3, q3, rfl, rfl, rfl, h3, r3⟩ := trodAll_cons r2
  obtain ⟨rfl, rfl, rfl⟩ := trodAll_nil r3
  obtain rfl : args = #[v0, v1, v2, v3] := by cases args; simp_all
  obtain ⟨rfl, rfl⟩ := trodVars_none hV
  have k0 := h0
  have lt0 : ∀ x ∈ p0, x.block < W.heap.size := by obtain ⟨m, hm⟩ := k0; exact DataW.trod_lt m _ _ _ hm
  have k1 := h1
  have lt1 : ∀ x ∈ p1, x.block < W.heap.size := by obtain ⟨m, hm⟩ := k1; exact DataW.trod_lt m _ _ _ hm
  have k2 := h2
  have lt2 : ∀ x ∈ p2, x.block < W.heap.size := by obtain ⟨m, hm⟩ := k2; exact DataW.trod_lt m _ _ _ hm
  have k3 := h3
  have lt3 : ∀ x ∈ p3, x.block < W.heap.size := by obtain ⟨m, hm⟩ := k3; exact DataW.trod_lt m _ _ _ hm
  obtain ⟨f0, rfl, w0⟩ := open_frame (hval 0 28 v0 rfl rfl) h0
  obtain ⟨a1, rfl, e1, f1, w1⟩ := open_int Try.underlying3 (hval 1 3 v1 rfl rfl) h1
  obtain ⟨a2, rfl, e2, f2, w2⟩ := open_int Try.underlying42 (hval 2 42 v2 rfl rfl) h2
  obtain ⟨a3, rfl, e3, f3, w3⟩ := open_int Try.underlying5 (hval 3 5 v3 rfl rfl) h3
  clear hA0 hval0
  refine (walk f0 a1 a2 a3 W w0 w1 w2 w3).mono fun e W' ⟨he, bel⟩ => ?_
  subst he
  exact ⟨_, rfl, _, _, _, [], _, [], hW', trodAll_mk1 (shut_bool Try.underlying4 _), (trodAll_cons_mk (Below.trod laidOut (by kernel_rfl) (of_decide_eq_true (by kernel_rfl)) k0 bel lt0) (trodAll_cons_mk (Below.trod laidOut (by kernel_rfl) (of_decide_eq_true (by kernel_rfl)) k1 bel lt1) (trodAll_cons_mk (Below.trod laidOut (by kernel_rfl) (of_decide_eq_true (by kernel_rfl)) k2 bel lt2) (trodAll_cons_mk (Below.trod laidOut (by kernel_rfl) (of_decide_eq_true (by kernel_rfl)) k3 bel lt3) trodAll_mk0)))), rfl, bel.frame _, fun h => by cases h⟩

theorem over : Rows.frameMeansRow.holds Try.pinned (OpenSpec.ofChange Rows.frameMeansSpec) :=
  OpenClaim.holds_of_wide 4 Try.f4 rfl rfl rfl rfl rfl rfl rfl ⟨rfl, rfl, rfl, rfl, rfl⟩ rfl rfl rfl rfl rfl (by kernel_rfl) Try.func4 (by kernel_rfl)
    (of_decide_eq_true (by kernel_rfl)) (by unfold Func.isWrapper; first | (rw [if_pos (by decide +kernel)]; kernel_rfl) | (rw [if_neg (by decide +kernel)]; exact ⟨rfl, rfl⟩))
    (fun os started H enc _ => lifted os started H enc)

/-- The statement. -/
theorem proved : Rows.FrameMeansSaid := over
end Go.Proofs.Ytiphhjipgjpepaa.frameMeans
