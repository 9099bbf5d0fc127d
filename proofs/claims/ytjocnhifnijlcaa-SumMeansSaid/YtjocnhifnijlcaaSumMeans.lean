/- Bytes of an even number with their checksum behind them are good; where a word is changed, the checksum is Change of it, but that 0 and 65535 may stand for each other where all words are noughts then; for any at most 9000 bytes, any place, any word. -/
import Derived.Test.YtjocnhifnijlcaaRows
import Derived.Test.YtjocnhifnijlcaaSumOpen
import Derived.Test.YtjocnhifnijlcaaSumKnown
import Derived.Test.YtjocnhifnijlcaaSumJoin
import Derived.Test.YtjocnhifnijlcaaSumChange
import Derived.WalkKit
import Derived.Deep.QuietTactic
import Derived.BigQuiet
import Derived.ProofKit
import Derived.OpenShut
import Derived.ShutString
import Derived.ChangeOld
import Derived.Below
set_option linter.unusedVariables false
namespace Go.Proofs.Ytjocnhifnijlcaa.sumMeans
open Go.ChangeShapes Go.WideShapes Go.ChangeAt Go.RowKit
open Go.ChangeMaps (open_string shut_string)

theorem own : ownKnob Try.prog.godebug = none := by kernel_rfl
theorem laidOut : laidOutB Try.prog = true := by kernel_rfl

theorem two_bd {a b : Int} (h1 : 0 ≤ a) (h2 : a < 256) (h3 : 0 ≤ b) (h4 : b < 256) : Bytes [a, b] := fun z hz => by
  simp at hz
  rcases hz with rfl | rfl <;> omega

theorem two_bytes (w : World) {a b : Int} (h1 : 0 ≤ a) (h2 : a < 256) (h3 : 0 ≤ b) (h4 : b < 256) : BytesV (w.alloc (.cells #[.int .u8 a, .int .u8 b] 5)) (.slice (some ⟨w.heap.size, 0, none⟩) 2 2) [a, b] :=
  bytes_new (w := w) [.int .u8 a, .int .u8 b] [a, b] 5 rfl (two_bd h1 h2 h3 h4) (by simp [maxLen])

theorem bytes_pre {w : World} {ao : Option Addr} {cap n : Nat} {zs : List Int} (h : BytesV w (.slice ao zs.length cap) zs) (hn : n ≤ zs.length) : BytesV w (.slice ao n cap) (zs.take n) := by
  obtain ⟨hb, ⟨rfl, ao', c, e, h1, h2⟩ | ⟨b, off, c, e, h1, h2, h3⟩⟩ := h
  · have : n = 0 := by simpa using hn
    subst this
    injection e with e1 _ e3
    subst e1; subst e3
    exact ⟨Bytes.nil, Or.inl ⟨rfl, _, _, rfl, h1, h2⟩⟩
  · injection e with e1 _ e3
    subst e1; subst e3
    have hl : (zs.take n).length = n := by simp; omega
    refine ⟨hb.take n, Or.inr ⟨b, off, cap, by rw [hl], by omega, h2, fun i hi => ?_⟩⟩
    rw [hl] at hi
    rw [h3 i (by omega)]
    simp [List.getD_eq_getElem?_getD, hi]

theorem grow_two {w w5 : World} {g : Nat} (h : Grow w w5) (hg : w.heap.size ≤ g) (n i j : Nat) (x y : Value) : Grow w (((w5.drewN n).setCell ⟨g, i, none⟩ x).setCell ⟨g, j, none⟩ y) :=
  Below.setCell (p := ⟨g, j, none⟩) (Below.setCell (p := ⟨g, i, none⟩) (show Below w.heap.size w (w5.drewN n) from ⟨h.os, h.tape, h.output, h.size, h.block⟩) hg x) hg y

/-- Are the first bytes noughts? -/
def noughts (q : List Int) (j : Nat) : Bool := (List.range j).all fun i => q.getD i 0 == 0
theorem noughts_succ (q : List Int) (j : Nat) : noughts q (j + 1) = (noughts q j && (q.getD j 0 == 0)) := by
  simp [noughts, List.range_succ]
theorem noughts_all {q : List Int} (h : ∀ i, q.getD i 0 = 0) (j : Nat) : noughts q j = true := by
  unfold noughts
  refine List.all_eq_true.2 fun i _ => ?_
  rw [h i]; rfl

theorem stored_two {w : World} {base g n cp k : Nat} {p : List Int} {x y : Int} (h : w.ownsRow base 5 1 (.slice (some ⟨g, 0, none⟩) n cp) n (p.map (Value.int .u8))) (hk : 2 * k + 1 < p.length) :
    ((w.setCell ⟨g, 2 * k, none⟩ (.int .u8 x)).setCell ⟨g, 2 * k + 1, none⟩ (.int .u8 y)).ownsRow base 5 1 (.slice (some ⟨g, 0, none⟩) n cp) n ((chg p k x y).map (Value.int .u8)) := by
  have h1 := ((h.stored (2 * k) (.int .u8 x)).1.stored (2 * k + 1) (.int .u8 y)).1
  rw [← chg_set x y hk, List.map_set, List.map_set]
  exact h1

set_option maxHeartbeats 2000000 in
theorem walk (v : Value) (zs : List Int) (a1 n2 : Int) (w : World) (hv : BytesV w v zs) (w1 : (Lit.int .i64 a1).wf = true) (w2 : (Lit.int .u16 n2).wf = true) :
    Calls Try.prog 8 #[v, .int .i64 a1, .int .u16 n2] w fun e w' => e = .returned (.bool true) ∧ Below w.heap.size w w' := by
  obtain ⟨i0, hi, hz0, hz1, hz2⟩ := info_parts infoU8
  obtain ⟨ao, cap, rfl, hl, hm⟩ := hv.shape
  have hn2 := wf_u16 w2
  have ha1 := wf_i64 w1
  have HV := Lib.hid hv
  clear hv w1 w2
  unfold maxLen at hm
  go_enter Try.func8, Try.ntmps8
  go_wp2_with fail
  refine (known_any _).mono ?_; rintro e w0 ⟨rfl, hg⟩
  have HG := Lib.hid hg
  clear hg
  by_cases h9 : 9000 < zs.length
  · go_wp2
    go_ret
    exact ⟨rfl, HG.out⟩
  · obtain ⟨n, hn⟩ : ∃ n : Nat, n = zs.length / 2 * 2 := ⟨_, rfl⟩
    have hni : (zs.length : Int) / 2 * 2 = (n : Int) := by omega
    have hnl : n ≤ zs.length := by omega
    have hnc : (n : Int) ≤ (cap : Int) := by omega
    have hn0 : (0 : Int) ≤ (n : Int) := by omega
    have hpl : (zs.take n).length = n := by simp; omega
    have HE : Hid ((zs.take n).length % 2 = 0) := by show (zs.take n).length % 2 = 0; rw [hpl, hn]; omega
    have HL : Hid ((zs.take n).length ≤ 9000) := by show (zs.take n).length ≤ 9000; omega
    have HX := Lib.hid (bytes_pre (HV.out.mono HG.out) hnl)
    have HP : Hid (Bytes (zs.take n)) := HX.out.1
    have HPL := Lib.hid hpl
    clear hn hpl HV
    generalize zs.take n = p at *
    go_wp2_with (at_builtin; refine wpList_append_ints (k := .u8) rfl (.const (.slice none 0 0)) (.tmp 23) 23 rfl w0.heap.size 5 i0 1 Try.underlying23 hi hz0 hz1 hz2 _ _ _ rfl (World.ownsRow_nil _ _ _ _) _ p rfl HX.out.2 (by have := HL.out; unfold maxLen; omega) (by have := HL.out; omega) (Nat.le_refl _) ?_)
    intro v0 w1 ho hgr
    have hg1 : Grow w0 w1 := grow_by (e := 5) (n := 0) (xs := []) (v := .slice none 0 0) (Grow.refl w0) (World.ownsRow_nil _ _ _ _) hgr
    have HV0 : Hid (BytesV w1 v0 p) := ⟨HP.out, ints_of_owns ho⟩
    have HG1 : Hid (Grow w w1) := Grow.trans HG.out hg1
    have HGW : Hid (w.heap.size ≤ w0.heap.size) := HG.out.size
    clear hg1 hgr HX HG
    rcases ho.2 with ⟨rfl, h0⟩ | ⟨g, cp, cur, rfl, hgb, hgh, hgc, hgm, _, _⟩
    · have hp0 : p = [] := List.length_eq_zero_iff.1 h0
      have HP0 := Lib.hid hp0
      clear ho h0 hp0
      -- the checksum
      go_wp2_with fail
      refine (check_any _ [p] _ (rows_new (w := w1) [.slice none 0 0] [p] 23 rfl (by simp [maxLen]) (fun i x hx => by
        match i, hx with
        | 0, hx => simp at hx; subst hx; exact HV0.out))).mono ?_
      rintro e w2 ⟨rfl, hg⟩
      have HG2 : Hid (Grow w1 w2) := Grow.trans (Grow.alloc (Grow.refl w1) _) hg
      clear hg
      rw [show [p].flatten = p from by simp]
      have hcb := nrm_bd (bsum p)
      have HGL := Lib.hid (good_law HP.out HE.out)
      generalize hcc : 65535 - nrm (bsum p) = c at *
      have HCC := Lib.hid hcc
      have hc0 : 0 ≤ c := by omega
      have hc1 : c < 65536 := by omega
      clear hcc hcb
      have HTB : Hid (∀ W : World, BytesV (W.alloc (.cells #[.int .u8 (c / 256), .int .u8 (c % 256)] 5)) (.slice (some ⟨W.heap.size, 0, none⟩) 2 2) [c / 256, c % 256]) := fun W => two_bytes W (by omega) (by omega) (by omega) (by omega)
      have HS1 : Hid (p.length + [c / 256, c % 256].length ≤ maxLen) := by have := HL.out; show p.length + 2 ≤ maxLen; unfold maxLen; omega
      have HS2 : Hid ((p.length + [c / 256, c % 256].length) * 1 ≤ 140737488355328) := by have := HL.out; show (p.length + 2) * 1 ≤ 140737488355328; omega
      have hq1 : IntKind.u16.wrap (c.tdiv 256) = c / 256 := by rw [Int.tdiv_eq_ediv_of_nonneg hc0, wrap16]; omega
      have hq2 : c / 256 % 256 = c / 256 := by omega
      go_wp2_with (at_builtin; refine wpList_append_ints (k := .u8) rfl (.const (.slice none 0 0)) (.tmp 28) 23 rfl w2.heap.size 5 i0 1 Try.underlying23 hi hz0 hz1 hz2 _ _ _ rfl (World.ownsRow_nil _ _ _ _) _ p rfl (HV0.out.mono HG2.out).2 (by have := HL.out; unfold maxLen; omega) (by have := HL.out; omega) (Nat.le_refl _) ?_)
      intro v3 w3 ho3 hgr3
      have hg3 : Grow w2 w3 := grow_by (e := 5) (n := 0) (xs := []) (v := .slice none 0 0) (Grow.refl w2) (World.ownsRow_nil _ _ _ _) hgr3
      have HO3 := Lib.hid ho3
      have HG3 := Lib.hid hg3
      clear ho3 hg3 hgr3
      go_wp2_with (at_builtin; refine wpList_append_ints (k := .u8) rfl (.tmp 29) (.tmp 36) 23 rfl w2.heap.size 5 i0 1 Try.underlying23 hi hz0 hz1 hz2 _ _ _ rfl (HO3.out.alloc (.cells #[.int .u8 (c / 256), .int .u8 (c % 256)] 5)) _ [c / 256, c % 256] rfl (HTB.out _).2 HS1.out HS2.out (HG3.out.alloc (.cells #[.int .u8 (c / 256), .int .u8 (c % 256)] 5)).size ?_)
      intro v4 w4 ho4 hgr4
      have hg4 : Grow w2 w4 := grow_by (HG3.out.alloc _) (HO3.out.alloc _) hgr4
      have hv4 : BytesV w4 v4 (p ++ [c / 256, c % 256]) := ⟨HP.out.append (two_bd (by omega) (by omega) (by omega) (by omega)), ints_of_owns (base := w2.heap.size) (e := 5) (by rw [List.map_append]; exact ho4)⟩
      have HV4 := Lib.hid hv4
      have HG4 := Lib.hid hg4
      obtain ⟨ao4, c4, e4, _, _⟩ := hv4.shape
      rw [show (p ++ [c / 256, c % 256]).length = p.length + 2 from by simp] at e4
      subst e4
      clear ho4 hg4 hgr4 hv4 HO3 HG3
      go_wp2_with fail
      refine (good_any _ _ _ HV4.out).mono ?_
      rintro e w5 ⟨rfl, hg⟩
      have HG5 : Hid (Grow w1 w5) := Grow.trans HG2.out (Grow.trans HG4.out hg)
      clear hg HV4 HG4 HG2
      rw [show (nrm (bsum (p ++ [c / 256, c % 256])) == 65535) = true from by rw [HGL.out]; rfl]
      by_cases ha : a1 < 0
      · go_wp2
        go_ret
        exact ⟨rfl, Grow.trans HG1.out HG5.out⟩
      · go_wp2
        go_ret
        exact ⟨rfl, Grow.trans HG1.out HG5.out⟩
    · have HO := Lib.hid ho
      have HGB : Hid (w.heap.size ≤ g) := Nat.le_trans HGW.out hgb
      clear ho hgh hgb
      have hpp : 0 ≤ (p.length : Int) := by omega
      have hple : (p.length : Int) ≤ 9000 := by have := HL.out; omega
      -- the checksum
      go_wp2_with fail
      refine (check_any _ [p] _ (rows_new (w := w1) [.slice (some ⟨g, 0, none⟩) p.length cp] [p] 23 rfl (by simp [maxLen]) (fun i x hx => by
        match i, hx with
        | 0, hx => simp at hx; subst hx; exact HV0.out))).mono ?_
      rintro e w2 ⟨rfl, hg⟩
      have HG2 : Hid (Grow w1 w2) := Grow.trans (Grow.alloc (Grow.refl w1) _) hg
      clear hg
      rw [show [p].flatten = p from by simp]
      have hcb := nrm_bd (bsum p)
      have HGL := Lib.hid (good_law HP.out HE.out)
      generalize hcc : 65535 - nrm (bsum p) = c at *
      have HCC := Lib.hid hcc
      have hc0 : 0 ≤ c := by omega
      have hc1 : c < 65536 := by omega
      clear hcc hcb
      have HTB : Hid (∀ W : World, BytesV (W.alloc (.cells #[.int .u8 (c / 256), .int .u8 (c % 256)] 5)) (.slice (some ⟨W.heap.size, 0, none⟩) 2 2) [c / 256, c % 256]) := fun W => two_bytes W (by omega) (by omega) (by omega) (by omega)
      have HS1 : Hid (p.length + [c / 256, c % 256].length ≤ maxLen) := by have := HL.out; show p.length + 2 ≤ maxLen; unfold maxLen; omega
      have HS2 : Hid ((p.length + [c / 256, c % 256].length) * 1 ≤ 140737488355328) := by have := HL.out; show (p.length + 2) * 1 ≤ 140737488355328; omega
      have hq1 : IntKind.u16.wrap (c.tdiv 256) = c / 256 := by rw [Int.tdiv_eq_ediv_of_nonneg hc0, wrap16]; omega
      have hq2 : c / 256 % 256 = c / 256 := by omega
      go_wp2_with (at_builtin; refine wpList_append_ints (k := .u8) rfl (.const (.slice none 0 0)) (.tmp 28) 23 rfl w2.heap.size 5 i0 1 Try.underlying23 hi hz0 hz1 hz2 _ _ _ rfl (World.ownsRow_nil _ _ _ _) _ p rfl (HV0.out.mono HG2.out).2 (by have := HL.out; unfold maxLen; omega) (by have := HL.out; omega) (Nat.le_refl _) ?_)
      intro v3 w3 ho3 hgr3
      have hg3 : Grow w2 w3 := grow_by (e := 5) (n := 0) (xs := []) (v := .slice none 0 0) (Grow.refl w2) (World.ownsRow_nil _ _ _ _) hgr3
      have HO3 := Lib.hid ho3
      have HG3 := Lib.hid hg3
      clear ho3 hg3 hgr3
      go_wp2_with (at_builtin; refine wpList_append_ints (k := .u8) rfl (.tmp 29) (.tmp 36) 23 rfl w2.heap.size 5 i0 1 Try.underlying23 hi hz0 hz1 hz2 _ _ _ rfl (HO3.out.alloc (.cells #[.int .u8 (c / 256), .int .u8 (c % 256)] 5)) _ [c / 256, c % 256] rfl (HTB.out _).2 HS1.out HS2.out (HG3.out.alloc (.cells #[.int .u8 (c / 256), .int .u8 (c % 256)] 5)).size ?_)
      intro v4 w4 ho4 hgr4
      have hg4 : Grow w2 w4 := grow_by (HG3.out.alloc _) (HO3.out.alloc _) hgr4
      have hv4 : BytesV w4 v4 (p ++ [c / 256, c % 256]) := ⟨HP.out.append (two_bd (by omega) (by omega) (by omega) (by omega)), ints_of_owns (base := w2.heap.size) (e := 5) (by rw [List.map_append]; exact ho4)⟩
      have HV4 := Lib.hid hv4
      have HG4 := Lib.hid hg4
      obtain ⟨ao4, c4, e4, _, _⟩ := hv4.shape
      rw [show (p ++ [c / 256, c % 256]).length = p.length + 2 from by simp] at e4
      subst e4
      clear ho4 hg4 hgr4 hv4 HO3 HG3
      go_wp2_with fail
      refine (good_any _ _ _ HV4.out).mono ?_
      rintro e w5 ⟨rfl, hg⟩
      have HG5 : Hid (Grow w1 w5) := Grow.trans HG2.out (Grow.trans HG4.out hg)
      clear hg HV4 HG4 HG2
      rw [show (nrm (bsum (p ++ [c / 256, c % 256])) == 65535) = true from by rw [HGL.out]; rfl]
      by_cases ha : a1 < 0
      · go_wp2
        go_ret
        exact ⟨rfl, Grow.trans HG1.out HG5.out⟩
      · by_cases hb : (p.length : Int) / 2 ≤ a1
        · go_wp2
          go_ret
          exact ⟨rfl, Grow.trans HG1.out HG5.out⟩
        · obtain ⟨k, rfl⟩ : ∃ k : Nat, a1 = (k : Int) := ⟨a1.toNat, by omega⟩
          have hk : (k : Int) < (p.length : Int) / 2 := by omega
          have hkp : 2 * k + 1 < p.length := by omega
          clear ha hb ha1
          have ho5 : w5.ownsRow w0.heap.size 5 1 (.slice (some ⟨g, 0, none⟩) p.length cp) p.length (p.map (Value.int .u8)) :=
            HO.out.kept (row := none) ⟨HG5.out.os, HG5.out.tape, HG5.out.output, HG5.out.size, fun q hq _ => HG5.out.block q hq⟩ (Or.inr (by simp [Value.ownBlock]))
          have hx := ho5.cellAt (2 * k) (by omega)
          have hy := ho5.cellAt (2 * k + 1) (by omega)
          have hfx := ho5.frozenAt (2 * k)
          have hfy := ho5.frozenAt (2 * k + 1)
          rw [show (p.map (Value.int .u8))[2 * k]? = some (.int .u8 (p.getD (2 * k) 0)) from by simp [show 2 * k < p.length by omega]] at hx
          rw [show (p.map (Value.int .u8))[2 * k + 1]? = some (.int .u8 (p.getD (2 * k + 1) 0)) from by simp [hkp]] at hy
          have hxb := HP.out.getD (2 * k)
          have hyb := HP.out.getD (2 * k + 1)
          have HO5 := Lib.hid ho5
          clear ho5 HO
          have hk1 : (0 : Int) ≤ 2 * (k : Int) := by omega
          have hk2 : 2 * (k : Int) + 1 < (p.length : Int) := by omega
          have hn3 : IntKind.u16.wrap (n2.tdiv 256) = n2 / 256 := by rw [Int.tdiv_eq_ediv_of_nonneg hn2.1, wrap16]; omega
          have hn4 : n2 / 256 % 256 = n2 / 256 := by omega
          have HM : Hid (bsum (chg p k (n2 / 256) (n2 % 256)) = bsum p - (256 * p.getD (2 * k) 0 + p.getD (2 * k + 1) 0) + n2) := by
            show bsum (chg p k (n2 / 256) (n2 % 256)) = _
            rw [bsum_chg _ _ hkp]; omega
          have HMP : Hid (256 * p.getD (2 * k) 0 + p.getD (2 * k + 1) 0 ≤ bsum p) := by
            show 256 * p.getD (2 * k) 0 + p.getD (2 * k + 1) 0 ≤ bsum p
            have hq : 2 * k + 1 < p.length := hkp
            have e := bsum_chg (p := p) 0 0 hkp
            have := bsum_nonneg (chg_bytes (k := k) (x := 0) (y := 0) HP.out (by omega) (by omega))
            omega
          generalize p.getD (2 * k) 0 = xa at *
          generalize p.getD (2 * k + 1) 0 = xb at *
          have hw1 : IntKind.u16.wrap (256 * xa) = 256 * xa := by rw [wrap16]; omega
          have hw2 : IntKind.u16.wrap (256 * xa + xb) = 256 * xa + xb := by rw [wrap16]; omega
          go_wp2_with fail
          go_quiet (fail)
          have hs := stored_two (k := k) (x := n2 / 256) (y := n2 % 256) (show (w5.drewN nq).ownsRow w0.heap.size 5 1 (.slice (some ⟨g, 0, none⟩) p.length cp) p.length (p.map (Value.int .u8)) from HO5.out) hkp
          have hg6 : Grow w (((w5.drewN nq).setCell ⟨g, 2 * k, none⟩ (.int .u8 (n2 / 256))).setCell ⟨g, 2 * k + 1, none⟩ (.int .u8 (n2 % 256))) :=
            grow_two (Grow.trans HG1.out HG5.out) HGB.out nq _ _ _ _
          have HQ : Hid (Bytes (chg p k (n2 / 256) (n2 % 256))) := chg_bytes HP.out (by omega) (by omega)
          have HQL : Hid ((chg p k (n2 / 256) (n2 % 256)).length = p.length) := chg_length _ _ hkp
          generalize hq : chg p k (n2 / 256) (n2 % 256) = q at *
          clear hq
          go_wp2_with fail
          have hsz : (((w5.drewN nq).setCell ⟨g, 2 * k, none⟩ (.int .u8 (n2 / 256))).setCell ⟨g, 2 * k + 1, none⟩ (.int .u8 (n2 % 256))).heap.size = w5.heap.size := by simp [World.setCell]
          generalize ((w5.drewN nq).setCell ⟨g, 2 * k, none⟩ (.int .u8 (n2 / 256))).setCell ⟨g, 2 * k + 1, none⟩ (.int .u8 (n2 % 256)) = w6 at *
          rw [← hsz]
          clear hsz
          have HV6 : Hid (BytesV w6 (.slice (some ⟨g, 0, none⟩) p.length cp) q) := ⟨HQ.out, ints_of_owns hs⟩
          have HG6 := Lib.hid hg6
          clear hs hg6 HO5 HG5 hx hy hfx hfy
          refine (check_any _ [q] _ (rows_new (w := w6) [.slice (some ⟨g, 0, none⟩) p.length cp] [q] 23 rfl (by simp [maxLen]) (fun i x hx => by
            match i, hx with
            | 0, hx => simp at hx; subst hx; exact HV6.out))).mono ?_
          rintro e w7 ⟨rfl, hg⟩
          have HG7 : Hid (Grow w6 w7) := Grow.trans (Grow.alloc (Grow.refl w6) _) hg
          clear hg
          rw [show [q].flatten = q from by simp]
          have hmb : 0 ≤ 256 * xa + xb ∧ 256 * xa + xb < 65536 := by omega
          have HXY : Hid ((65535 - nrm (bsum q) = 65535 - addc (addc (65535 - c) (65535 - (256 * xa + xb))) n2) ∨ (noughts q p.length = true ∧ 65535 - nrm (bsum q) = 65535 ∧ 65535 - addc (addc (65535 - c) (65535 - (256 * xa + xb))) n2 = 0)) := by
            have hl := change_law (P := bsum p) (m := 256 * xa + xb) (n := n2) (bsum_nonneg HP.out) hmb.1 hmb.2 HMP.out hn2.1 hn2.2
            rw [HCC.out, ← HM.out] at hl
            rcases hl with h | ⟨h1, h2, h3⟩
            · exact Or.inl h
            · exact Or.inr ⟨noughts_all (zero_of_bsum HQ.out h1) _, h2, h3⟩
          go_wp2_with fail
          refine (change_any _ _ _ _ hc0 hc1 hmb.1 hmb.2 hn2.1 hn2.2).mono ?_
          rintro e w8 ⟨rfl, rfl⟩
          generalize 65535 - nrm (bsum q) = X at *
          generalize 65535 - addc (addc (65535 - c) (65535 - (256 * xa + xb))) n2 = Y at *
          have HCL : Hid (∀ i, i < p.length → w7.cell? ⟨g, i, none⟩ = some (.int .u8 (q.getD i 0))) := by
            rcases (HV6.out.mono HG7.out).2 with ⟨h0, _⟩ | ⟨b', off', c', e, _, _, hcell⟩
            · have := HQL.out; rw [h0] at this; simp at this; omega
            · injection e with e1 e2 e3
              injection e1 with e1
              injection e1 with e4 e5
              subst e4; subst e5
              intro i hi
              have := hcell i (by rw [HQL.out]; exact hi)
              rwa [Nat.zero_add] at this
          have HF : Hid (Grow w w7) := Grow.trans HG6.out HG7.out
          clear HV6 HG6 HG7 HM HMP HCC HGL HTB HS1 HS2 HV0 hxb hyb hw1 hw2 hmb hq1 hq2 hn3 hn4
          go_wp2
          go_loop [11, 12] (fun s i => ∃ (j : Nat) (nb : Bool), j ≤ p.length ∧ i = .int .i64 j ∧ s = .bool nb ∧ Hid (nb = noughts q j)) (fun _ i => p.length - (intOf i).toNat)
          case atStart => exact ⟨0, true, Nat.zero_le _, rfl, rfl, rfl⟩
          case round =>
            obtain ⟨j, nb, hj, rfl, rfl, HN⟩ := hrel
            by_cases hlt : j < p.length
            · have hcl := HCL.out j hlt
              have HS := Lib.hid (noughts_succ q j)
              generalize q.getD j 0 = z at *
              cases nb
              · go_wp2
                all_goals
                  go_round
                  case rel => exact ⟨j + 1, false, by omega, by go_num, rfl, by show false = _; rw [HS.out, ← HN.out]; rfl⟩
                  case measure => simp [intOf]; omega
              · go_wp2
                all_goals
                  go_round
                  case rel => exact ⟨j + 1, z == 0, by omega, by go_num, by first | rfl | simp, by show (z == 0) = _; rw [HS.out, ← HN.out]; rfl⟩
                  case measure => simp [intOf]; omega
            · have hjl : j = p.length := by omega
              subst hjl
              rcases HXY.out with h | ⟨h1, h2, h3⟩
              · subst h
                go_wp2
                all_goals
                  go_ret
                  exact ⟨rfl, HF.out⟩
              · rw [h1] at HN
                have hnb := HN.out
                subst hnb; subst h2; subst h3
                go_wp2
                all_goals
                  go_ret
                  exact ⟨rfl, HF.out⟩


set_option maxRecDepth 100000 in
theorem lifted (os : Os) (started : os.Started) (H : Type) (enc : TypeId × Value → H) :
    ReturnsInHanded {} Try.checked os 8 .any (Rows.sumMeansSpec.pre6 enc Try.prog Try.f8 Rows.sumMeansRow.domain false) (Rows.sumMeansSpec.post enc Try.prog Try.f8 false true false false) := by
  refine returnsInHanded_of_change (C := Try.checked) own started (by kernel_rfl) Try.func8
    (ChangeSpec.witness6 (enc := enc) (C := Try.checked) false ⟨#[], #[.slice none 0 0, .int .i64 0, .int .u16 0], []⟩ 8 (by kernel_rfl) (by kernel_rfl) (by kernel_rfl) (by kernel_rfl)) ?_
  intro W base args ds gs before hval0 hW hcnd _
  have hval : ∀ (j : Nat) t v, Try.f8.params[j]? = some t → args[j]? = some v → Value.okWide Try.prog W .any base t v := hval0
  have hW' := hW
  obtain ⟨p, q, hA0, hV, rfl, hfz, hnd⟩ := hW
  have hA : DataW.TrodAll enc Try.prog W 0 (fun _ => true) true Try.f8.params.toList args.toList ds p := hA0
  rw [Try.params8] at hA hval
  obtain ⟨v0, vs0, d0, ds0, p0, q0, hargs, rfl, rfl, h0, r0⟩ := trodAll_cons hA
  obtain ⟨v1, vs1, d1, ds1, p1, q1, rfl, rfl, rfl, h1, r1⟩ := trodAll_cons r0
  obtain ⟨v2, vs2, d2, ds2, p2, q2, rfl, rfl, rfl, h2, r2⟩ := trodAll_cons r1
  obtain ⟨rfl, rfl, rfl⟩ := trodAll_nil r2
  obtain rfl : args = #[v0, v1, v2] := by cases args; simp_all
  obtain ⟨rfl, rfl⟩ := trodVars_none hV
  have k0 := h0
  have lt0 : ∀ x ∈ p0, x.block < W.heap.size := by obtain ⟨m, hm⟩ := k0; exact DataW.trod_lt m _ _ _ hm
  have k1 := h1
  have lt1 : ∀ x ∈ p1, x.block < W.heap.size := by obtain ⟨m, hm⟩ := k1; exact DataW.trod_lt m _ _ _ hm
  have k2 := h2
  have lt2 : ∀ x ∈ p2, x.block < W.heap.size := by obtain ⟨m, hm⟩ := k2; exact DataW.trod_lt m _ _ _ hm
  obtain ⟨z0, w0⟩ : ∃ zs, BytesV W v0 zs := open_bytes Try.underlying23 Try.underlying5 (by kernel_rfl) (hval 0 23 v0 rfl rfl) h0
  obtain ⟨a1, rfl, e1, f1, w1⟩ := open_int Try.underlying3 (hval 1 3 v1 rfl rfl) h1
  obtain ⟨a2, rfl, e2, f2, w2⟩ := open_int Try.underlying27 (hval 2 27 v2 rfl rfl) h2
  clear hA0 hval0
  refine (walk v0 z0 a1 a2 W w0 w1 w2).mono fun e W' ⟨he, bel⟩ => ?_
  subst he
  exact ⟨_, rfl, _, _, _, [], _, [], hW', trodAll_mk1 (shut_bool Try.underlying4 _), (trodAll_cons_mk (Below.trod laidOut (by kernel_rfl) (of_decide_eq_true (by kernel_rfl)) k0 bel lt0) (trodAll_cons_mk (Below.trod laidOut (by kernel_rfl) (of_decide_eq_true (by kernel_rfl)) k1 bel lt1) (trodAll_cons_mk (Below.trod laidOut (by kernel_rfl) (of_decide_eq_true (by kernel_rfl)) k2 bel lt2) trodAll_mk0))), rfl, bel.frame _, fun h => by cases h⟩

theorem over : Rows.sumMeansRow.holds Try.pinned (OpenSpec.ofChange Rows.sumMeansSpec) :=
  OpenClaim.holds_of_wide 8 Try.f8 rfl rfl rfl rfl rfl rfl rfl ⟨rfl, rfl, rfl, rfl, rfl⟩ rfl rfl rfl rfl rfl (by kernel_rfl) Try.func8 (by kernel_rfl)
    (of_decide_eq_true (by kernel_rfl)) (by unfold Func.isWrapper; first | (rw [if_pos (by decide +kernel)]; kernel_rfl) | (rw [if_neg (by decide +kernel)]; exact ⟨rfl, rfl⟩))
    (fun os started H enc _ => lifted os started H enc)

/-- The statement. -/
theorem proved : Rows.SumMeansSaid := over
end Go.Proofs.Ytjocnhifnijlcaa.sumMeans
