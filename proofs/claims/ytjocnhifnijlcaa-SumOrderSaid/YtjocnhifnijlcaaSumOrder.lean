/- The sum does not hang on the order of words, nor on noughts among them; for any at most 9000 bytes, any place. -/
import Derived.Test.YtjocnhifnijlcaaRows
import Derived.Test.YtjocnhifnijlcaaSumOpen
import Derived.Test.YtjocnhifnijlcaaSumKnown
import Derived.Test.YtjocnhifnijlcaaSumJoin
import Derived.WalkKit
import Derived.Deep.RegionHeld3
import Derived.Deep.DrawnRows
import Derived.ProofKit
import Derived.OpenShut
import Derived.ShutString
import Derived.ChangeOld
import Derived.Below
set_option linter.unusedVariables false
namespace Go.Proofs.Ytjocnhifnijlcaa.sumOrder
open Go.ChangeShapes Go.WideShapes Go.ChangeAt Go.RowKit
open Go.ChangeMaps (open_string shut_string)

attribute [local go_sem ↓] Go.wp_at_zero Go.wp_at_succ
theorem own : ownKnob Try.prog.godebug = none := by kernel_rfl
theorem laidOut : laidOutB Try.prog = true := by kernel_rfl

theorem other (v : Value) (zs : List Int) (a1 : Int) (w : World) (hv : BytesV w v zs) (w1 : (Lit.int .i64 a1).wf = true) (h : 9000 < zs.length ∨ a1 < 0 ∨ (zs.length : Int) / 2 < a1) :
    Calls Try.prog 5 #[v, .int .i64 a1] w fun e w' => e = .returned (.bool true) ∧ Below w.heap.size w w' := by
  obtain ⟨ao, cap, rfl, hl, hm⟩ := hv.shape
  clear hv
  by_cases h1 : 9000 < zs.length
  · go_enter Try.func5, Try.ntmps5
    go_wp2_with fail
    refine (known_any _).mono ?_; rintro e w' ⟨rfl, hg⟩
    have HG := Lib.hid hg
    clear hg
    go_wp2
    go_ret
    exact ⟨rfl, HG.out⟩
  · by_cases h2 : a1 < 0
    · go_enter Try.func5, Try.ntmps5
      go_wp2_with fail
      refine (known_any _).mono ?_; rintro e w' ⟨rfl, hg⟩
      have HG := Lib.hid hg
      clear hg
      go_wp2
      go_ret
      exact ⟨rfl, HG.out⟩
    · have h3 : (zs.length : Int) / 2 < a1 := by omega
      clear h
      go_enter Try.func5, Try.ntmps5
      go_wp2_with fail
      refine (known_any _).mono ?_; rintro e w' ⟨rfl, hg⟩
      have HG := Lib.hid hg
      clear hg
      go_wp2
      go_ret
      exact ⟨rfl, HG.out⟩

theorem two_zero (w : World) : BytesV (w.alloc (.cells #[.int .u8 0, .int .u8 0] 5)) (.slice (some ⟨w.heap.size, 0, none⟩) 2 2) [0, 0] :=
  bytes_new (w := w) [.int .u8 0, .int .u8 0] [0, 0] 5 rfl (by unfold Bytes; decide) (by simp [maxLen])

/-- Where the two noughts were made ahead of the append. -/
theorem own_zero (w w3 : World) (h : (w.alloc (.cells #[.int .u8 0, .int .u8 0] 5)).drew.grownBy w3 (Value.ownBlock (.slice none 0 0))) : BytesV w3 (.slice (some ⟨w.heap.size, 0, none⟩) 2 2) [0, 0] :=
  (two_zero w).mono ⟨h.os, h.tape, h.output, h.size, fun k hk => h.block k hk (by simp [Value.ownBlock])⟩

theorem wide_bytes {w5 : World} {base : Nat} {v5 : Value} {p d : List Int} {m : Nat} (hp : Bytes p) (hd : Bytes d) (ho : w5.ownsRow base 5 1 v5 m (p.map (Value.int .u8) ++ [0, 0].map (Value.int .u8) ++ d.map (Value.int .u8))) : BytesV w5 v5 (p ++ [0, 0] ++ d) := by
  refine ⟨(hp.append (by unfold Bytes; decide)).append hd, ints_of_owns (base := base) (e := 5) (n := m) ?_⟩
  rw [List.map_append, List.map_append]
  exact ho

theorem bsum_wide {zs : List Int} {n k : Nat} (hn : 2 * k = n) (hl : n ≤ zs.length) : bsum (zs.take n ++ [0, 0] ++ zs.drop n) = bsum zs := by
  have h1 : (zs.take n).length % 2 = 0 := by simp; omega
  have h2 : (zs.take n ++ [0, 0]).length % 2 = 0 := by simp; omega
  rw [bsum_append _ _ h2, bsum_append _ _ h1]
  conv => rhs; rw [← List.take_append_drop n zs, bsum_append _ _ h1]
  simp [bsum]

theorem bsum_turned {zs : List Int} {n k : Nat} (hn : 2 * k = n) (hl : n ≤ zs.length) (he : zs.length % 2 = 0) : bsum (zs.drop n ++ zs.take n) = bsum zs := by
  have h1 : (zs.take n).length % 2 = 0 := by simp; omega
  have h2 : (zs.drop n).length % 2 = 0 := by simp; omega
  rw [bsum_append _ _ h2]
  conv => rhs; rw [← List.take_append_drop n zs, bsum_append _ _ h1]
  omega

set_option maxHeartbeats 1000000 in
theorem main (b off cap : Nat) (zs : List Int) (k : Nat) (w : World) (hv : BytesV w (.slice (some ⟨b, off, none⟩) zs.length cap) zs) (hc : zs.length ≤ cap) (hm : cap ≤ maxLen) (hz : zs.length ≤ 9000) (hk : k ≤ zs.length / 2) (hpos : 0 < zs.length) :
    Calls Try.prog 5 #[.slice (some ⟨b, off, none⟩) zs.length cap, .int .i64 k] w fun e w' => e = .returned (.bool true) ∧ Below w.heap.size w w' := by
  obtain ⟨i0, hi, hz0, hz1, hz2⟩ := info_parts infoU8
  unfold maxLen at hm
  have hA := hv
  have hP := bytes_sub hv 0 (2 * k) (by omega) (by omega)
  have hD := bytes_sub hv (2 * k) zs.length (by omega) (by omega)
  simp only [Nat.sub_zero, Nat.add_zero, List.drop_zero] at hP
  have e0 : (zs.drop (2 * k)).take (zs.length - 2 * k) = zs.drop (2 * k) := List.take_of_length_le (by simp)
  rw [e0] at hD
  clear e0
  replace hD := bytes_rest hv (n := 2 * k) hc hD
  obtain ⟨c0, hc0⟩ : ∃ c0, w.cell? ⟨b, off, none⟩ = some (.int .u8 c0) := by
    rcases hv.2 with ⟨h0, _⟩ | ⟨b', off', c', e, _, _, hcell⟩
    · rw [h0] at hpos; exact absurd hpos (by simp)
    · injection e with e1 e2 e3
      injection e1 with e1
      injection e1 with e4 e5
      subst e4; subst e5
      exact ⟨_, by simpa using hcell 0 hpos⟩
  obtain ⟨ad, had⟩ : ∃ ad, (if cap = 2 * k then some (⟨b, off, none⟩ : Addr) else some ⟨b, off + 2 * k, none⟩) = ad := ⟨_, rfl⟩
  rw [had] at hD
  clear hv
  generalize hn : 2 * k = n at *
  have HN := Lib.hid hn
  have hn2 : (2 : Int) * (k : Int) = (n : Int) := by omega
  clear hn
  have HA := Lib.hid hA
  have HP := Lib.hid hP
  have HD := Lib.hid hD
  have hnl : n ≤ zs.length := by have := HN.out; omega
  have hnc : (n : Int) ≤ (cap : Int) := by omega
  have hn0 : (0 : Int) ≤ (n : Int) := by omega
  have hnl' : (n : Int) ≤ (zs.length : Int) := by omega
  clear hA hP hD
  go_enter Try.func5, Try.ntmps5
  go_wp2_with fail
  refine wp_region_grow 7 [] NoBlock (fun _ => True) (by kernel_rfl) (by kernel_rfl) (by rfl) (fun _ _ _ _ => trivial) trivial ?_
  simp only [List.take_succ_cons, List.take_zero, List.drop_succ_cons, List.drop_zero]
  repeat (refine wpH_pure (by intro _ _ h; cases h) (by rfl) (by rfl) (fun K hK => ?_); go_simp; refine hK _ ?_; clear hK K)
  refine wpH_hid (fun u w1 => w1.ownsRow w.heap.size 5 1 u (zs.drop n).length ((zs.drop n).map (Value.int .u8))) rfl (by rfl) owns_stay (fun xs => by rfl) (fun xs w' hg hf => ?_) ?_
  · clear hf
    refine mild_append_nil (k := .u8) _ _ 23 rfl w.heap.size 5 i0 1 Try.underlying23 hi hz0 hz1 hz2 rfl _ (zs.drop n) rfl (HD.out.mono hg.below).2 (by unfold maxLen; simp; omega) (by simp; omega) hg.size (fun v' w' h1 h2 => ⟨h1, h2⟩)
  repeat (refine wpH_pure (by intro _ _ h; cases h) (by rfl) (by rfl) (fun K hK => ?_); go_simp; refine hK _ ?_; clear hK K)
  refine wpH_nil ?_
  intro xs w1 hg _ hh
  have hown := hh _ (List.Mem.head _)
  dsimp only at hown
  clear hh
  simp only [fill]
  generalize xs 28 = v1 at *
  have HO := Lib.hid hown
  have HG : Hid (Grow w w1) := hg.below
  clear hown hg
  refine wpList_append_ints (k := .u8) rfl (.tmp 28) (.tmp 31) 23 rfl w.heap.size 5 i0 1 Try.underlying23 hi hz0 hz1 hz2 _ _ _ rfl HO.out _ (zs.take n) rfl (HP.out.mono HG.out).2 (by unfold maxLen; simp; omega) (by simp; omega) HG.out.size (fun v2 w2 ho2 hgr2 => ?_)
  have hg2 : Grow w w2 := grow_by HG.out HO.out hgr2
  rw [← List.map_append] at ho2
  have hv2 : BytesV w2 v2 (zs.drop n ++ zs.take n) := ⟨(HD.out.1).append HP.out.1, ints_of_owns ho2⟩
  obtain ⟨ao2, cap2, rfl, _, _⟩ := hv2.shape
  have el : (zs.drop n ++ zs.take n).length = zs.length := by simp; omega
  rw [el] at hv2 ⊢
  have HV2 := Lib.hid hv2
  have HG2 := Lib.hid hg2
  clear hv2 hg2 hgr2 ho2 HO HG el
  go_wp2_with fail
  have hcd : w2.cell? ⟨b, off, none⟩ = some (.int .u8 c0) := (HG2.out.cell (block_lt hc0)).trans hc0
  have HB1 : Hid (0 + (zs.take n).length ≤ maxLen) := by show 0 + (zs.take n).length ≤ maxLen; rw [List.length_take]; unfold maxLen; omega
  have HB2 : Hid ((0 + (zs.take n).length) * 1 ≤ 140737488355328) := by show (0 + (zs.take n).length) * 1 ≤ 140737488355328; rw [List.length_take]; omega
  have HB3 : Hid ((zs.take n).length + [(0 : Int), 0].length ≤ maxLen) := by show (zs.take n).length + 2 ≤ maxLen; rw [List.length_take]; unfold maxLen; omega
  have HB4 : Hid (((zs.take n).length + [(0 : Int), 0].length) * 1 ≤ 140737488355328) := by show ((zs.take n).length + 2) * 1 ≤ 140737488355328; rw [List.length_take]; omega
  have HB5 : Hid ((zs.take n).length + [(0 : Int), 0].length + (zs.drop n).length ≤ maxLen) := by show (zs.take n).length + 2 + (zs.drop n).length ≤ maxLen; rw [List.length_take, List.length_drop]; unfold maxLen; omega
  have HB6 : Hid (((zs.take n).length + [(0 : Int), 0].length + (zs.drop n).length) * 1 ≤ 140737488355328) := by show ((zs.take n).length + 2 + (zs.drop n).length) * 1 ≤ 140737488355328; rw [List.length_take, List.length_drop]; omega
  have HP2 := Lib.hid (HP.out.mono HG2.out)
  have HD2 := Lib.hid (HD.out.mono HG2.out)
  go_region_held3 (fun w' => w'.cell? ⟨b, off, none⟩ = some (.int .u8 c0)) (first | go_keep | exact (HG5.out.cell (block_lt hcd)).trans hcd | exact (HG4.out.cell (block_lt hcd)).trans hcd | exact (HG3.out.cell (block_lt hcd)).trans hcd)
    ((first | (refine step_append_ints (k := .u8) rfl (.const (.slice none 0 0)) (.tmp 35) 23 (by rfl) w2.heap.size 5 i0 1 Try.underlying23 hi hz0 hz1 hz2 _ 0 [] (by rfl) (World.ownsRow_nil _ _ _ _) _ (zs.take n) (by rfl) (HP2.out.mono ((Grow.refl w2).drew)).2 HB1.out HB2.out ((Grow.refl w2).drew).size ?_; intro v3 w3 ho3 hgr3; have hg3 : Grow w2 w3 := grow_by (e := 5) (n := 0) (xs := []) (v := .slice none 0 0) ((Grow.refl w2).drew) (World.ownsRow_nil _ _ _ _) hgr3; rw [Nat.zero_add, List.nil_append] at ho3; have HO3 := Lib.hid ho3; have HG3 := Lib.hid hg3; clear ho3 hg3 hgr3) | (refine step_append_ints (k := .u8) rfl (.const (.slice none 0 0)) (.tmp 35) 23 (by rfl) w2.heap.size 5 i0 1 Try.underlying23 hi hz0 hz1 hz2 _ 0 [] (by rfl) (World.ownsRow_nil _ _ _ _) _ (zs.take n) (by rfl) (HP2.out.mono (((Grow.refl w2).alloc (.cells #[.int .u8 0, .int .u8 0] 5)).drew)).2 HB1.out HB2.out (((Grow.refl w2).alloc (.cells #[.int .u8 0, .int .u8 0] 5)).drew).size ?_; intro v3 w3 ho3 hgr3; have hg3 : Grow w2 w3 := grow_by (e := 5) (n := 0) (xs := []) (v := .slice none 0 0) (((Grow.refl w2).alloc (.cells #[.int .u8 0, .int .u8 0] 5)).drew) (World.ownsRow_nil _ _ _ _) hgr3; have hx3 := own_zero w2 w3 hgr3; have HX3 := Lib.hid hx3; clear hx3; rw [Nat.zero_add, List.nil_append] at ho3; have HO3 := Lib.hid ho3; have HG3 := Lib.hid hg3; clear ho3 hg3 hgr3) | (refine step_append_ints (k := .u8) rfl (.tmp 36) (.tmp 37) 23 (by rfl) w2.heap.size 5 i0 1 Try.underlying23 hi hz0 hz1 hz2 _ _ _ (by rfl) (HO3.out.alloc _) _ [0, 0] (by rfl) (two_zero _).2 HB3.out HB4.out (HG3.out.alloc _).size ?_; intro v4 w4 ho4 hgr4; have hg4 : Grow w2 w4 := grow_by (HG3.out.alloc _) (HO3.out.alloc _) hgr4; have HO4 := Lib.hid ho4; have HG4 := Lib.hid hg4; clear ho4 hg4 hgr4) | (refine step_append_ints (k := .u8) rfl (.tmp 36) (.tmp 37) 23 (by rfl) w2.heap.size 5 i0 1 Try.underlying23 hi hz0 hz1 hz2 _ _ _ (by rfl) HO3.out _ [0, 0] (by rfl) HX3.out.2 HB3.out HB4.out HG3.out.size ?_; intro v4 w4 ho4 hgr4; have hg4 : Grow w2 w4 := grow_by HG3.out HO3.out hgr4; have HO4 := Lib.hid ho4; have HG4 := Lib.hid hg4; clear ho4 hg4 hgr4) | (refine step_append_ints (k := .u8) rfl (.tmp 38) (.tmp 41) 23 (by rfl) w2.heap.size 5 i0 1 Try.underlying23 hi hz0 hz1 hz2 _ _ _ (by rfl) HO4.out _ (zs.drop n) (by rfl) (HD2.out.mono HG4.out).2 HB5.out HB6.out HG4.out.size ?_; intro v5 w5 ho5 hgr5; have hg5 : Grow w2 w5 := grow_by HG4.out HO4.out hgr5; have HO5 := Lib.hid ho5; have HG5 := Lib.hid hg5; clear ho5 hg5 hgr5)))
  all_goals
    have HV5 : Hid (BytesV w5 v5 (zs.take n ++ [0, 0] ++ zs.drop n)) := wide_bytes HP.out.1 HD.out.1 HO5.out
    have HV2' := Lib.hid (HV2.out.mono HG5.out)
    have HA5 : Hid (BytesV w5 (.slice (some ⟨b, off, none⟩) zs.length cap) zs) := HA.out.mono (Grow.trans HG2.out HG5.out)
    have HG : Hid (Grow w w5) := Grow.trans HG2.out HG5.out
    obtain ⟨ao5, cap5, hv5⟩ : ∃ ao5 cap5, v5 = .slice ao5 (zs.length + 2) cap5 := by
      obtain ⟨ao, c, e, _, _⟩ := HV5.out.shape
      refine ⟨ao, c, ?_⟩
      rw [e]
      congr 1
      simp only [List.length_append, List.length_take, List.length_drop, List.length_cons, List.length_nil]
      omega
    subst hv5
    clear HO5 HG5 HV2 HG2 HP HD HB1 HB2 HB3 HB4 HB5 HB6 HP2 HD2 hcd had hc0 HA
    try clear HX3
    clear HO4 HG4 HO3 HG3
    by_cases hp : zs.length % 2 = 1
    · have hpi : ((zs.length : Int) % 2 == 1) = true := by simp; omega
      clear hp
      go_wp2_with fail
      refine (total_any _ [zs.take n ++ [0, 0] ++ zs.drop n] _ (rows_new (w := w5) [.slice ao5 (zs.length + 2) cap5] [zs.take n ++ [0, 0] ++ zs.drop n] 23 rfl (by simp [maxLen]) (fun i x hx => by
        match i, hx with
        | 0, hx => simp at hx; subst hx; exact HV5.out))).mono ?_
      rintro e w6 ⟨rfl, hg⟩
      have HG6 : Hid (Grow w5 w6) := Grow.trans (Grow.alloc (Grow.refl w5) _) hg
      clear hg
      rw [show [zs.take n ++ [0, 0] ++ zs.drop n].flatten = zs.take n ++ [0, 0] ++ zs.drop n from by simp, bsum_wide HN.out hnl]
      go_wp2_with fail
      refine (total_any _ [zs] _ (rows_new (w := w6) [.slice (some ⟨b, off, none⟩) zs.length cap] [zs] 23 rfl (by simp [maxLen]) (fun i x hx => by
        match i, hx with
        | 0, hx => simp at hx; subst hx; exact HA5.out.mono HG6.out))).mono ?_
      rintro e w7 ⟨rfl, hg⟩
      have HG7 : Hid (Grow w5 w7) := Grow.trans (Grow.alloc HG6.out _) hg
      clear hg
      rw [show [zs].flatten = zs from by simp]
      go_wp2_with fail
      refine (known_any _).mono ?_; rintro e w9 ⟨rfl, hg⟩
      have HF : Hid (Grow w w9) := Grow.trans HG.out (Grow.trans HG7.out hg)
      clear hg
      go_wp2
      go_ret
      exact ⟨rfl, HF.out⟩
    · have hpi : ((zs.length : Int) % 2 == 1) = false := by simp; omega
      have HE : Hid (zs.length % 2 = 0) := by show zs.length % 2 = 0; omega
      clear hp
      go_wp2_with fail
      refine (total_any _ [zs.drop n ++ zs.take n] _ (rows_new (w := w5) [.slice ao2 zs.length cap2] [zs.drop n ++ zs.take n] 23 rfl (by simp [maxLen]) (fun i x hx => by
        match i, hx with
        | 0, hx => simp at hx; subst hx; exact HV2'.out))).mono ?_
      rintro e w6 ⟨rfl, hg⟩
      have HG6 : Hid (Grow w5 w6) := Grow.trans (Grow.alloc (Grow.refl w5) _) hg
      clear hg
      rw [show [zs.drop n ++ zs.take n].flatten = zs.drop n ++ zs.take n from by simp, bsum_turned HN.out hnl HE.out]
      go_wp2_with fail
      refine (total_any _ [zs] _ (rows_new (w := w6) [.slice (some ⟨b, off, none⟩) zs.length cap] [zs] 23 rfl (by simp [maxLen]) (fun i x hx => by
        match i, hx with
        | 0, hx => simp at hx; subst hx; exact HA5.out.mono HG6.out))).mono ?_
      rintro e w7 ⟨rfl, hg⟩
      have HG7 : Hid (Grow w5 w7) := Grow.trans (Grow.alloc HG6.out _) hg
      clear hg
      rw [show [zs].flatten = zs from by simp]
      go_wp2_with fail
      refine (total_any _ [zs.take n ++ [0, 0] ++ zs.drop n] _ (rows_new (w := w7) [.slice ao5 (zs.length + 2) cap5] [zs.take n ++ [0, 0] ++ zs.drop n] 23 rfl (by simp [maxLen]) (fun i x hx => by
        match i, hx with
        | 0, hx => simp at hx; subst hx; exact HV5.out.mono HG7.out))).mono ?_
      rintro e w8 ⟨rfl, hg⟩
      have HG8 : Hid (Grow w5 w8) := Grow.trans (Grow.alloc HG7.out _) hg
      clear hg
      rw [show [zs.take n ++ [0, 0] ++ zs.drop n].flatten = zs.take n ++ [0, 0] ++ zs.drop n from by simp, bsum_wide HN.out hnl]
      go_wp2_with fail
      refine (total_any _ [zs] _ (rows_new (w := w8) [.slice (some ⟨b, off, none⟩) zs.length cap] [zs] 23 rfl (by simp [maxLen]) (fun i x hx => by
        match i, hx with
        | 0, hx => simp at hx; subst hx; exact HA5.out.mono HG8.out))).mono ?_
      rintro e w10 ⟨rfl, hg⟩
      have HG10 : Hid (Grow w5 w10) := Grow.trans (Grow.alloc HG8.out _) hg
      clear hg
      rw [show [zs].flatten = zs from by simp]
      go_wp2_with fail
      refine (known_any _).mono ?_; rintro e w9 ⟨rfl, hg⟩
      have HF : Hid (Grow w w9) := Grow.trans HG.out (Grow.trans HG10.out hg)
      clear hg
      go_wp2
      go_ret
      exact ⟨rfl, HF.out⟩

set_option maxHeartbeats 1000000 in
theorem none0 (ao : Option Addr) (cap : Nat) (w : World) (hm : cap ≤ maxLen) (hao : ao = none → cap = 0) :
    Calls Try.prog 5 #[.slice ao 0 cap, .int .i64 0] w fun e w' => e = .returned (.bool true) ∧ Below w.heap.size w w' := by
  obtain ⟨i0, hi, hz0, hz1, hz2⟩ := info_parts infoU8
  have HE : Hid (∀ W : World, BytesV W (.slice ao 0 cap) []) := fun W => ⟨Bytes.nil, Or.inl ⟨rfl, _, _, rfl, hm, hao⟩⟩
  clear hao
  unfold maxLen at hm
  go_enter Try.func5, Try.ntmps5
  go_wp2_with fail
  refine wp_region_grow 7 [] NoBlock (fun _ => True) (by kernel_rfl) (by kernel_rfl) (by rfl) (fun _ _ _ _ => trivial) trivial ?_
  simp only [List.take_succ_cons, List.take_zero, List.drop_succ_cons, List.drop_zero]
  repeat (refine wpH_pure (by intro _ _ h; cases h) (by rfl) (by rfl) (fun K hK => ?_); go_simp; refine hK _ ?_; clear hK K)
  refine wpH_hid (fun u w1 => w1.ownsRow w.heap.size 5 1 u 0 []) rfl (by rfl) owns_stay (fun xs => by rfl) (fun xs w' hg hf => ?_) ?_
  · clear hf
    refine mild_append_nil (k := .u8) _ _ 23 rfl w.heap.size 5 i0 1 Try.underlying23 hi hz0 hz1 hz2 rfl _ [] rfl (HE.out _).2 (by unfold maxLen; simp) (by simp) hg.size (fun v' w' h1 h2 => ⟨h1, h2⟩)
  repeat (refine wpH_pure (by intro _ _ h; cases h) (by rfl) (by rfl) (fun K hK => ?_); go_simp; refine hK _ ?_; clear hK K)
  refine wpH_nil ?_
  intro xs w1 hg _ hh
  have hown := hh _ (List.Mem.head _)
  dsimp only at hown
  clear hh
  simp only [fill]
  generalize xs 28 = v1 at *
  have HO := Lib.hid hown
  have HG : Hid (Grow w w1) := hg.below
  clear hown hg
  refine wpList_append_ints (k := .u8) rfl (.tmp 28) (.tmp 31) 23 rfl w.heap.size 5 i0 1 Try.underlying23 hi hz0 hz1 hz2 _ _ _ rfl HO.out _ [] rfl (HE.out _).2 (by unfold maxLen; simp) (by simp) HG.out.size (fun v2 w2 ho2 hgr2 => ?_)
  have hg2 : Grow w w2 := grow_by HG.out HO.out hgr2
  have hv2 : BytesV w2 v2 [] := ⟨Bytes.nil, ints_of_owns (base := w.heap.size) (e := 5) (n := 0) ho2⟩
  obtain ⟨ao2, cap2, rfl, _, _⟩ := hv2.shape
  have HV2 := Lib.hid hv2
  have HG2 := Lib.hid hg2
  clear hv2 hg2 hgr2 ho2 HO HG
  go_wp2_with fail
  have hS0 : w2.drew.output = w2.output := rfl
  have hS1 : w2.output = w2.output := rfl
  have HB1 : Hid (0 + ([] : List Int).length ≤ maxLen) := by show 0 ≤ maxLen; exact Nat.zero_le _
  have HB2 : Hid ((0 + ([] : List Int).length) * 1 ≤ 140737488355328) := by show 0 * 1 ≤ 140737488355328; omega
  have HB3 : Hid (0 + [(0 : Int), 0].length ≤ maxLen) := by show 0 + 2 ≤ maxLen; unfold maxLen; omega
  have HB4 : Hid ((0 + [(0 : Int), 0].length) * 1 ≤ 140737488355328) := by show (0 + 2) * 1 ≤ 140737488355328; omega
  have HB5 : Hid (2 + ([] : List Int).length ≤ maxLen) := by show 2 + 0 ≤ maxLen; unfold maxLen; omega
  have HB6 : Hid ((2 + ([] : List Int).length) * 1 ≤ 140737488355328) := by show (2 + 0) * 1 ≤ 140737488355328; omega
  go_region_held3 (fun w' => w'.output = w2.output) (first | rfl | exact HG5.out.output | exact HG4.out.output | exact HG3.out.output)
    ((first | (refine step_append_ints (k := .u8) rfl (.const (.slice none 0 0)) (.tmp 35) 23 (by rfl) w2.heap.size 5 i0 1 Try.underlying23 hi hz0 hz1 hz2 _ 0 [] (by rfl) (World.ownsRow_nil _ _ _ _) _ [] (by rfl) (HE.out _).2 HB1.out HB2.out ((Grow.refl w2).drew).size ?_; intro v3 w3 ho3 hgr3; have hg3 : Grow w2 w3 := grow_by (e := 5) (n := 0) (xs := []) (v := .slice none 0 0) ((Grow.refl w2).drew) (World.ownsRow_nil _ _ _ _) hgr3; replace ho3 : w3.ownsRow w2.heap.size 5 1 v3 0 [] := ho3; have HO3 := Lib.hid ho3; have HG3 := Lib.hid hg3; clear ho3 hg3 hgr3) | (refine step_append_ints (k := .u8) rfl (.const (.slice none 0 0)) (.tmp 35) 23 (by rfl) w2.heap.size 5 i0 1 Try.underlying23 hi hz0 hz1 hz2 _ 0 [] (by rfl) (World.ownsRow_nil _ _ _ _) _ [] (by rfl) (HE.out _).2 HB1.out HB2.out (((Grow.refl w2).alloc (.cells #[.int .u8 0, .int .u8 0] 5)).drew).size ?_; intro v3 w3 ho3 hgr3; have hg3 : Grow w2 w3 := grow_by (e := 5) (n := 0) (xs := []) (v := .slice none 0 0) (((Grow.refl w2).alloc (.cells #[.int .u8 0, .int .u8 0] 5)).drew) (World.ownsRow_nil _ _ _ _) hgr3; have hx3 := own_zero w2 w3 hgr3; have HX3 := Lib.hid hx3; clear hx3; replace ho3 : w3.ownsRow w2.heap.size 5 1 v3 0 [] := ho3; have HO3 := Lib.hid ho3; have HG3 := Lib.hid hg3; clear ho3 hg3 hgr3) | (refine step_append_ints (k := .u8) rfl (.tmp 36) (.tmp 37) 23 (by rfl) w2.heap.size 5 i0 1 Try.underlying23 hi hz0 hz1 hz2 _ 0 [] (by rfl) (HO3.out.alloc _) _ [0, 0] (by rfl) (two_zero _).2 HB3.out HB4.out (HG3.out.alloc _).size ?_; intro v4 w4 ho4 hgr4; have hg4 : Grow w2 w4 := grow_by (HG3.out.alloc _) (HO3.out.alloc _) hgr4; replace ho4 : w4.ownsRow w2.heap.size 5 1 v4 2 [.int .u8 0, .int .u8 0] := ho4; have HO4 := Lib.hid ho4; have HG4 := Lib.hid hg4; clear ho4 hg4 hgr4) | (refine step_append_ints (k := .u8) rfl (.tmp 36) (.tmp 37) 23 (by rfl) w2.heap.size 5 i0 1 Try.underlying23 hi hz0 hz1 hz2 _ 0 [] (by rfl) HO3.out _ [0, 0] (by rfl) HX3.out.2 HB3.out HB4.out HG3.out.size ?_; intro v4 w4 ho4 hgr4; have hg4 : Grow w2 w4 := grow_by HG3.out HO3.out hgr4; replace ho4 : w4.ownsRow w2.heap.size 5 1 v4 2 [.int .u8 0, .int .u8 0] := ho4; have HO4 := Lib.hid ho4; have HG4 := Lib.hid hg4; clear ho4 hg4 hgr4) | (refine step_append_ints (k := .u8) rfl (.tmp 38) (.tmp 41) 23 (by rfl) w2.heap.size 5 i0 1 Try.underlying23 hi hz0 hz1 hz2 _ 2 [.int .u8 0, .int .u8 0] (by rfl) HO4.out _ [] (by rfl) (HE.out _).2 HB5.out HB6.out HG4.out.size ?_; intro v5 w5 ho5 hgr5; have hg5 : Grow w2 w5 := grow_by HG4.out HO4.out hgr5; have HO5 := Lib.hid ho5; have HG5 := Lib.hid hg5; clear ho5 hg5 hgr5)))
  all_goals
    have HV5 : Hid (BytesV w5 v5 [0, 0]) := wide_bytes (p := []) (d := []) Bytes.nil Bytes.nil HO5.out
    have HV2' := Lib.hid (HV2.out.mono HG5.out)
    have HG : Hid (Grow w w5) := Grow.trans HG2.out HG5.out
    obtain ⟨ao5, cap5, hv5⟩ : ∃ ao5 cap5, v5 = .slice ao5 2 cap5 := by
      obtain ⟨ao, c, e, _, _⟩ := HV5.out.shape
      exact ⟨ao, c, e⟩
    subst hv5
    clear HO5 HG5 HV2 HG2 HB1 HB2 HB3 HB4 HB5 HB6
    try clear HX3
    clear HO4 HG4 HO3 HG3 hS0 hS1
    go_wp2_with fail
    refine (total_any _ [([] : List Int)] _ (rows_new (w := w5) [.slice ao2 0 cap2] [([] : List Int)] 23 rfl (by simp [maxLen]) (fun i x hx => by
      match i, hx with
      | 0, hx => simp at hx; subst hx; exact HV2'.out))).mono ?_
    rintro e w6 ⟨rfl, hg⟩
    have HG6 : Hid (Grow w5 w6) := Grow.trans (Grow.alloc (Grow.refl w5) _) hg
    clear hg
    rw [show nrm (bsum [([] : List Int)].flatten) = 0 from by decide]
    go_wp2_with fail
    refine (total_any _ [([] : List Int)] _ (rows_new (w := w6) [.slice ao 0 cap] [([] : List Int)] 23 rfl (by simp [maxLen]) (fun i x hx => by
      match i, hx with
      | 0, hx => simp at hx; subst hx; exact HE.out _))).mono ?_
    rintro e w7 ⟨rfl, hg⟩
    have HG7 : Hid (Grow w5 w7) := Grow.trans (Grow.alloc HG6.out _) hg
    clear hg
    rw [show nrm (bsum [([] : List Int)].flatten) = 0 from by decide]
    go_wp2_with fail
    refine (total_any _ [[0, 0]] _ (rows_new (w := w7) [.slice ao5 2 cap5] [[0, 0]] 23 rfl (by simp [maxLen]) (fun i x hx => by
      match i, hx with
      | 0, hx => simp at hx; subst hx; exact HV5.out.mono HG7.out))).mono ?_
    rintro e w8 ⟨rfl, hg⟩
    have HG8 : Hid (Grow w5 w8) := Grow.trans (Grow.alloc HG7.out _) hg
    clear hg
    rw [show nrm (bsum [[0, 0]].flatten) = 0 from by decide]
    go_wp2_with fail
    refine (total_any _ [([] : List Int)] _ (rows_new (w := w8) [.slice ao 0 cap] [([] : List Int)] 23 rfl (by simp [maxLen]) (fun i x hx => by
      match i, hx with
      | 0, hx => simp at hx; subst hx; exact HE.out _))).mono ?_
    rintro e w10 ⟨rfl, hg⟩
    have HG10 : Hid (Grow w5 w10) := Grow.trans (Grow.alloc HG8.out _) hg
    clear hg
    rw [show nrm (bsum [([] : List Int)].flatten) = 0 from by decide]
    go_wp2_with fail
    refine (known_any _).mono ?_; rintro e w9 ⟨rfl, hg⟩
    have HF : Hid (Grow w w9) := Grow.trans HG.out (Grow.trans HG10.out hg)
    clear hg
    go_wp2
    go_ret
    exact ⟨rfl, HF.out⟩

theorem walk (v : Value) (zs : List Int) (a1 : Int) (w : World) (hv : BytesV w v zs) (w1 : (Lit.int .i64 a1).wf = true) :
    Calls Try.prog 5 #[v, .int .i64 a1] w fun e w' => e = .returned (.bool true) ∧ Below w.heap.size w w' := by
  by_cases h : 9000 < zs.length ∨ a1 < 0 ∨ (zs.length : Int) / 2 < a1
  · exact other v zs a1 w hv w1 h
  · obtain ⟨k, rfl⟩ : ∃ k : Nat, a1 = (k : Int) := ⟨a1.toNat, by omega⟩
    by_cases hz : zs = []
    · subst hz
      have hk : k = 0 := by simp at h; omega
      subst hk
      rcases hv.2 with ⟨_, ao, cap, rfl, hm, hao⟩ | ⟨b, off, cap, rfl, hl, hm, _⟩
      · exact none0 ao cap w hm hao
      · exact none0 _ cap w hm (fun hh => by cases hh)
    · have hp : 0 < zs.length := List.length_pos_iff.2 hz
      rcases hv.2 with ⟨rfl, _⟩ | ⟨b, off, cap, rfl, hl, hm, _⟩
      · exact absurd rfl hz
      · exact main b off cap zs k w hv hl hm (by omega) (by omega) hp


set_option maxRecDepth 100000 in
theorem lifted (os : Os) (started : os.Started) (H : Type) (enc : TypeId × Value → H) :
    ReturnsInHanded {} Try.checked os 5 .any (Rows.sumOrderSpec.pre6 enc Try.prog Try.f5 Rows.sumOrderRow.domain false) (Rows.sumOrderSpec.post enc Try.prog Try.f5 false true false false) := by
  refine returnsInHanded_of_change (C := Try.checked) own started (by kernel_rfl) Try.func5
    (ChangeSpec.witness6 (enc := enc) (C := Try.checked) false ⟨#[], #[.slice none 0 0, .int .i64 0], []⟩ 8 (by kernel_rfl) (by kernel_rfl) (by kernel_rfl) (by kernel_rfl)) ?_
  intro W base args ds gs before hval0 hW hcnd _
  have hval : ∀ (j : Nat) t v, Try.f5.params[j]? = some t → args[j]? = some v → Value.okWide Try.prog W .any base t v := hval0
  have hW' := hW
  obtain ⟨p, q, hA0, hV, rfl, hfz, hnd⟩ := hW
  have hA : DataW.TrodAll enc Try.prog W 0 (fun _ => true) true Try.f5.params.toList args.toList ds p := hA0
  rw [Try.params5] at hA hval
  obtain ⟨v0, vs0, d0, ds0, p0, q0, hargs, rfl, rfl, h0, r0⟩ := trodAll_cons hA
  obtain ⟨v1, vs1, d1, ds1, p1, q1, rfl, rfl, rfl, h1, r1⟩ := trodAll_cons r0
  obtain ⟨rfl, rfl, rfl⟩ := trodAll_nil r1
  obtain rfl : args = #[v0, v1] := by cases args; simp_all
  obtain ⟨rfl, rfl⟩ := trodVars_none hV
  have k0 := h0
  have lt0 : ∀ x ∈ p0, x.block < W.heap.size := by obtain ⟨m, hm⟩ := k0; exact DataW.trod_lt m _ _ _ hm
  have k1 := h1
  have lt1 : ∀ x ∈ p1, x.block < W.heap.size := by obtain ⟨m, hm⟩ := k1; exact DataW.trod_lt m _ _ _ hm
  obtain ⟨z0, w0⟩ : ∃ zs, BytesV W v0 zs := open_bytes Try.underlying23 Try.underlying5 (by kernel_rfl) (hval 0 23 v0 rfl rfl) h0
  obtain ⟨a1, rfl, e1, f1, w1⟩ := open_int Try.underlying3 (hval 1 3 v1 rfl rfl) h1
  clear hA0 hval0
  refine (walk v0 z0 a1 W w0 w1).mono fun e W' ⟨he, bel⟩ => ?_
  subst he
  exact ⟨_, rfl, _, _, _, [], _, [], hW', trodAll_mk1 (shut_bool Try.underlying4 _), (trodAll_cons_mk (Below.trod laidOut (by kernel_rfl) (of_decide_eq_true (by kernel_rfl)) k0 bel lt0) (trodAll_cons_mk (Below.trod laidOut (by kernel_rfl) (of_decide_eq_true (by kernel_rfl)) k1 bel lt1) trodAll_mk0)), rfl, bel.frame _, fun h => by cases h⟩

theorem over : Rows.sumOrderRow.holds Try.pinned (OpenSpec.ofChange Rows.sumOrderSpec) :=
  OpenClaim.holds_of_wide 5 Try.f5 rfl rfl rfl rfl rfl rfl rfl ⟨rfl, rfl, rfl, rfl, rfl⟩ rfl rfl rfl rfl rfl (by kernel_rfl) Try.func5 (by kernel_rfl)
    (of_decide_eq_true (by kernel_rfl)) (by unfold Func.isWrapper; first | (rw [if_pos (by decide +kernel)]; kernel_rfl) | (rw [if_neg (by decide +kernel)]; exact ⟨rfl, rfl⟩))
    (fun os started H enc _ => lifted os started H enc)

/-- The statement. -/
theorem proved : Rows.SumOrderSaid := over
end Go.Proofs.Ytjocnhifnijlcaa.sumOrder
