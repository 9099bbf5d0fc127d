/- A beginning leaves the other slot as it was, and what it told is the counter from then on. -/
import Derived.Test.YtajmfgadbphjbaaRows
import Derived.Test.YtajmfgadbphjbaaSumOpen
import Derived.Test.YtajmfgadbphjbaaBoTwo
import Derived.WalkKit
import Derived.ProofKit
import Derived.OpenShut
import Derived.ShutString
import Derived.ChangeOld
import Derived.Below
set_option linter.unusedVariables false
namespace Go.Proofs.Ytajmfgadbphjbaa.bootKeeps
open Go.ChangeShapes Go.WideShapes Go.ChangeAt Go.RowKit
open Go.ChangeMaps (open_string shut_string)

theorem own : ownKnob Try.prog.godebug = none := by kernel_rfl
theorem laidOut : laidOutB Try.prog = true := by kernel_rfl


set_option maxRecDepth 20000 in
set_option maxHeartbeats 2000000 in
theorem full_b (a b : Int) (w : World) (w0 : (Lit.int .u64 a).wf = true) (w1 : (Lit.int .u64 b).wf = true) (hab : a < b) (ht : (b == 18446744073709551615) = true) :
    Calls Try.prog 4 #[.int .u64 a, .int .u64 b] w fun e w' => e = .returned (.bool true) ∧ Below w.heap.size w w' := by
  have ha := wf_u64 w0
  have hb := wf_u64 w1
  have HRa := Lib.hid ha
  have HRb := Lib.hid hb
  have htw := two_made a b ha hb
  have hf := wrote_free (slotB a) (St.fresh 40) 0 rfl
  have hl1 : (wrote (St.fresh 40) 0 (slotB a)).cells.length = 40 := by rw [wrote_length']; rfl
  obtain ⟨st0, hst0⟩ : ∃ s, St.fresh 40 = s := ⟨_, rfl⟩
  have hd0 : st0.dead = false := by rw [← hst0]; rfl
  have hl0 : st0.cells.length = 40 := by rw [← hst0]; rfl
  rw [hst0] at htw hf hl1
  obtain ⟨st1, hst1⟩ : ∃ s, wrote st0 0 (slotB a) = s := ⟨_, rfl⟩
  rw [hst1] at htw hf hl1
  obtain ⟨st2, hst2⟩ : ∃ s, wrote st1 16 (slotB b) = s := ⟨_, rfl⟩
  rw [hst2] at htw
  have HTW := Lib.hid htw
  have HF := Lib.hid (hf.1.trans hd0)
  have HL0 := Lib.hid hl0
  have HL1 := Lib.hid hl1
  have HD0 := Lib.hid hd0
  have HS0 := Lib.hid hst0
  have HS1 := Lib.hid hst1
  have HS2 := Lib.hid hst2
  clear htw hf hl1 hl0 hd0 hst0 hst1 hst2
  clear w0 w1
  have HMX : Hid (max a b = b) := by show max a b = _; omega
  have HX := Lib.hid (HTW.out.full (HMX.out.trans (eq_of_beq ht)))
  go_enter Try.func4, Try.ntmps4
  go_wp2_with fail
  refine (new_any 40 w (by omega) (by omega)).mono ?_
  rintro e w1 ⟨P, g, rfl, hs, hgr, hP, hg⟩
  have hm := Mine.of_new hs hgr hP hg
  rw [HS0.out] at hm
  have HM := Lib.hid hm
  clear hs hgr hP hg hm
  go_wp2_with fail
  refine (refslot_any a _ HRa.out).mono ?_
  rintro e w2 ⟨v, rfl, hv⟩
  have hw1 := mine_write (HM.out.grow hv.2) 0 v (slotB a) (held_newb hv HM.out.store.ltP HM.out.store.ltG (slotB_bytes a)) (by rw [slotB_length, HL0.out]; decide) HD0.out st1 0 HS1.out (by rw [HF.out]; rfl)
  have HW1 := Lib.hid hw1
  clear hw1 hv
  go_wp2_with fail
  refine HW1.out.mono ?_
  rintro e w3 ⟨rfl, hm, _⟩
  have HM3 := Lib.hid hm
  clear hm HM HW1
  go_wp2_with fail
  refine (refslot_any b _ HRb.out).mono ?_
  rintro e w4 ⟨v, rfl, hv⟩
  have hw1 := mine_write (HM3.out.grow hv.2) 16 v (slotB b) (held_newb hv HM3.out.store.ltP HM3.out.store.ltG (slotB_bytes b)) (by rw [slotB_length, HL1.out]; decide) HF.out st2 0 HS2.out (by rw [HTW.out.dead]; rfl)
  have HW1 := Lib.hid hw1
  clear hw1 hv
  go_wp2_with fail
  refine HW1.out.mono ?_
  rintro e w5 ⟨rfl, hm, _⟩
  have HM5 := Lib.hid hm
  clear hm HM3 HW1
  go_wp2_with fail
  have hb1 := mine_begin HM5.out 0 5 _ HX.out.2.1 HX.out.1 HX.out.2.2
  have HB1 := Lib.hid hb1
  clear hb1
  refine HB1.out.mono ?_
  rintro e w6 ⟨rfl, hm⟩
  have HM6 := Lib.hid hm
  have hc := count_any HM6.out.store
  rw [HTW.out.why, HTW.out.cnt, HMX.out] at hc
  have HC := Lib.hid hc
  clear hc hm
  go_wp2_with fail
  refine HC.out.mono ?_
  rintro e w7 ⟨rfl, hg⟩
  have HM7 := Lib.hid (HM6.out.grow hg)
  clear hg
  go_wp2_with fail
  refine (known_any _).mono ?_
  rintro e w8 ⟨rfl, hg⟩
  have HG := Lib.hid (HM7.out.grow hg).below
  clear hg
  go_wp2_with fail
  go_ret
  exact ⟨rfl, HG.out⟩

set_option maxRecDepth 20000 in
set_option maxHeartbeats 2000000 in
theorem full_a (a b : Int) (w : World) (w0 : (Lit.int .u64 a).wf = true) (w1 : (Lit.int .u64 b).wf = true) (hab : b ≤ a) (ht : (a == 18446744073709551615) = true) :
    Calls Try.prog 4 #[.int .u64 a, .int .u64 b] w fun e w' => e = .returned (.bool true) ∧ Below w.heap.size w w' := by
  have ha := wf_u64 w0
  have hb := wf_u64 w1
  have HRa := Lib.hid ha
  have HRb := Lib.hid hb
  have htw := two_made a b ha hb
  have hf := wrote_free (slotB a) (St.fresh 40) 0 rfl
  have hl1 : (wrote (St.fresh 40) 0 (slotB a)).cells.length = 40 := by rw [wrote_length']; rfl
  obtain ⟨st0, hst0⟩ : ∃ s, St.fresh 40 = s := ⟨_, rfl⟩
  have hd0 : st0.dead = false := by rw [← hst0]; rfl
  have hl0 : st0.cells.length = 40 := by rw [← hst0]; rfl
  rw [hst0] at htw hf hl1
  obtain ⟨st1, hst1⟩ : ∃ s, wrote st0 0 (slotB a) = s := ⟨_, rfl⟩
  rw [hst1] at htw hf hl1
  obtain ⟨st2, hst2⟩ : ∃ s, wrote st1 16 (slotB b) = s := ⟨_, rfl⟩
  rw [hst2] at htw
  have HTW := Lib.hid htw
  have HF := Lib.hid (hf.1.trans hd0)
  have HL0 := Lib.hid hl0
  have HL1 := Lib.hid hl1
  have HD0 := Lib.hid hd0
  have HS0 := Lib.hid hst0
  have HS1 := Lib.hid hst1
  have HS2 := Lib.hid hst2
  clear htw hf hl1 hl0 hd0 hst0 hst1 hst2
  clear w0 w1
  have HMX : Hid (max a b = a) := by show max a b = _; omega
  have HX := Lib.hid (HTW.out.full (HMX.out.trans (eq_of_beq ht)))
  go_enter Try.func4, Try.ntmps4
  go_wp2_with fail
  refine (new_any 40 w (by omega) (by omega)).mono ?_
  rintro e w1 ⟨P, g, rfl, hs, hgr, hP, hg⟩
  have hm := Mine.of_new hs hgr hP hg
  rw [HS0.out] at hm
  have HM := Lib.hid hm
  clear hs hgr hP hg hm
  go_wp2_with fail
  refine (refslot_any a _ HRa.out).mono ?_
  rintro e w2 ⟨v, rfl, hv⟩
  have hw1 := mine_write (HM.out.grow hv.2) 0 v (slotB a) (held_newb hv HM.out.store.ltP HM.out.store.ltG (slotB_bytes a)) (by rw [slotB_length, HL0.out]; decide) HD0.out st1 0 HS1.out (by rw [HF.out]; rfl)
  have HW1 := Lib.hid hw1
  clear hw1 hv
  go_wp2_with fail
  refine HW1.out.mono ?_
  rintro e w3 ⟨rfl, hm, _⟩
  have HM3 := Lib.hid hm
  clear hm HM HW1
  go_wp2_with fail
  refine (refslot_any b _ HRb.out).mono ?_
  rintro e w4 ⟨v, rfl, hv⟩
  have hw1 := mine_write (HM3.out.grow hv.2) 16 v (slotB b) (held_newb hv HM3.out.store.ltP HM3.out.store.ltG (slotB_bytes b)) (by rw [slotB_length, HL1.out]; decide) HF.out st2 0 HS2.out (by rw [HTW.out.dead]; rfl)
  have HW1 := Lib.hid hw1
  clear hw1 hv
  go_wp2_with fail
  refine HW1.out.mono ?_
  rintro e w5 ⟨rfl, hm, _⟩
  have HM5 := Lib.hid hm
  clear hm HM3 HW1
  go_wp2_with fail
  have hb1 := mine_begin HM5.out 0 5 _ HX.out.2.1 HX.out.1 HX.out.2.2
  have HB1 := Lib.hid hb1
  clear hb1
  refine HB1.out.mono ?_
  rintro e w6 ⟨rfl, hm⟩
  have HM6 := Lib.hid hm
  have hc := count_any HM6.out.store
  rw [HTW.out.why, HTW.out.cnt, HMX.out] at hc
  have HC := Lib.hid hc
  clear hc hm
  go_wp2_with fail
  refine HC.out.mono ?_
  rintro e w7 ⟨rfl, hg⟩
  have HM7 := Lib.hid (HM6.out.grow hg)
  clear hg
  go_wp2_with fail
  refine (known_any _).mono ?_
  rintro e w8 ⟨rfl, hg⟩
  have HG := Lib.hid (HM7.out.grow hg).below
  clear hg
  go_wp2_with fail
  go_ret
  exact ⟨rfl, HG.out⟩

set_option maxRecDepth 20000 in
set_option maxHeartbeats 4000000 in
theorem next_lt (a b n : Int) (w : World) (w0 : (Lit.int .u64 a).wf = true) (w1 : (Lit.int .u64 b).wf = true) (hab : a < b) (ht : (b == 18446744073709551615) = false) (hn : n = b + 1) :
    Calls Try.prog 4 #[.int .u64 a, .int .u64 b] w fun e w' => e = .returned (.bool true) ∧ Below w.heap.size w w' := by
  have ha := wf_u64 w0
  have hb := wf_u64 w1
  have HRa := Lib.hid ha
  have HRb := Lib.hid hb
  have htw := two_made a b ha hb
  have hf := wrote_free (slotB a) (St.fresh 40) 0 rfl
  have hl1 : (wrote (St.fresh 40) 0 (slotB a)).cells.length = 40 := by rw [wrote_length']; rfl
  obtain ⟨st0, hst0⟩ : ∃ s, St.fresh 40 = s := ⟨_, rfl⟩
  have hd0 : st0.dead = false := by rw [← hst0]; rfl
  have hl0 : st0.cells.length = 40 := by rw [← hst0]; rfl
  rw [hst0] at htw hf hl1
  obtain ⟨st1, hst1⟩ : ∃ s, wrote st0 0 (slotB a) = s := ⟨_, rfl⟩
  rw [hst1] at htw hf hl1
  obtain ⟨st2, hst2⟩ : ∃ s, wrote st1 16 (slotB b) = s := ⟨_, rfl⟩
  rw [hst2] at htw
  have HTW := Lib.hid htw
  have HF := Lib.hid (hf.1.trans hd0)
  have HL0 := Lib.hid hl0
  have HL1 := Lib.hid hl1
  have HD0 := Lib.hid hd0
  have HS0 := Lib.hid hst0
  have HS1 := Lib.hid hst1
  have HS2 := Lib.hid hst2
  clear htw hf hl1 hl0 hd0 hst0 hst1 hst2
  clear w0 w1
  have hne : b ≠ 18446744073709551615 := by simpa using ht
  have hn1 : n < 18446744073709551616 := by omega
  have HRn : Hid (0 ≤ n ∧ n < 18446744073709551616) := ⟨by omega, hn1⟩
  have HMX : Hid (max a b = b) := by show max a b = _; omega
  have hx := HTW.out.next n (by rw [HMX.out]; exact hn) hn1
  rw [if_neg (by omega), if_neg (by omega)] at hx
  obtain ⟨st3, hst3⟩ : ∃ s, beginSt st2 = s := ⟨_, rfl⟩
  rw [hst3] at hx
  have HX := Lib.hid hx
  have HS3 := Lib.hid hst3
  have hcm : cntOf st3 = n := by rw [hx.2.2.cnt]; omega
  have HCm := Lib.hid hcm
  clear hst3 hcm
  have HN := Lib.hid hn
  have q3 : (n == b + 1) = true := by rw [hn]; simp
  have hms : (b : Int) < 18446744073709551615 := by omega
  obtain ⟨sa, hsa⟩ : ∃ s, strOfNums (slotB a) = s := ⟨_, rfl⟩
  obtain ⟨sb, hsb⟩ : ∃ s, strOfNums (slotB b) = s := ⟨_, rfl⟩
  obtain ⟨sn, hsn⟩ : ∃ s, strOfNums (slotB n) = s := ⟨_, rfl⟩
  have HSa := Lib.hid hsa
  have HSb := Lib.hid hsb
  have HSn := Lib.hid hsn
  have q1 : (sn.toList == sa.toList) = false := by rw [← hsn, ← hsa]; exact slot_str_ne HRn.out ha (by omega)
  have q2 : (a == b) = false := by simp; omega
  have hle : a ≤ b := by omega
  clear hx hne hn1 hsa hsb hsn q3
  subst hn
  have hn0 : (0 : Int) ≤ b + 1 := HRn.out.1
  go_enter Try.func4, Try.ntmps4
  go_wp2_with fail
  refine (new_any 40 w (by omega) (by omega)).mono ?_
  rintro e w1 ⟨P, g, rfl, hs, hgr, hP, hg⟩
  have hm := Mine.of_new hs hgr hP hg
  rw [HS0.out] at hm
  have HM := Lib.hid hm
  clear hs hgr hP hg hm
  go_wp2_with fail
  refine (refslot_any a _ HRa.out).mono ?_
  rintro e w2 ⟨v, rfl, hv⟩
  have hw1 := mine_write (HM.out.grow hv.2) 0 v (slotB a) (held_newb hv HM.out.store.ltP HM.out.store.ltG (slotB_bytes a)) (by rw [slotB_length, HL0.out]; decide) HD0.out st1 0 HS1.out (by rw [HF.out]; rfl)
  have HW1 := Lib.hid hw1
  clear hw1 hv
  go_wp2_with fail
  refine HW1.out.mono ?_
  rintro e w3 ⟨rfl, hm, _⟩
  have HM3 := Lib.hid hm
  clear hm HM HW1
  go_wp2_with fail
  refine (refslot_any b _ HRb.out).mono ?_
  rintro e w4 ⟨v, rfl, hv⟩
  have hw1 := mine_write (HM3.out.grow hv.2) 16 v (slotB b) (held_newb hv HM3.out.store.ltP HM3.out.store.ltG (slotB_bytes b)) (by rw [slotB_length, HL1.out]; decide) HF.out st2 0 HS2.out (by rw [HTW.out.dead]; rfl)
  have HW1 := Lib.hid hw1
  clear hw1 hv
  go_wp2_with fail
  refine HW1.out.mono ?_
  rintro e w5 ⟨rfl, hm, _⟩
  have HM5 := Lib.hid hm
  clear hm HM3 HW1
  go_wp2_with fail
  have hb1 := mine_begin HM5.out _ 0 st3 HX.out.2.1 HX.out.1 HS3.out
  have HB1 := Lib.hid hb1
  clear hb1
  refine HB1.out.mono ?_
  rintro e w6 ⟨rfl, hm⟩
  have HM6 := Lib.hid hm
  have hc := count_any HM6.out.store
  rw [HX.out.2.2.why, HCm.out] at hc
  have HC := Lib.hid hc
  clear hc hm
  go_wp2_with fail
  refine HC.out.mono ?_
  rintro e w7 ⟨rfl, hg⟩
  have HM7 := Lib.hid (HM6.out.grow hg)
  clear hg
  go_wp2_with fail
  refine (mine_read HM7.out 0 16 (by rw [HX.out.2.2.len]; decide) HX.out.2.2.dead _ HX.out.2.2.one).mono ?_
  rintro e w8 ⟨x, rfl, hx, hm, _⟩
  have HM8 := Lib.hid hm
  have HX0 := Lib.hid hx
  clear hm hx
  go_wp2_with fail
  refine (mine_read HM8.out 16 16 (by rw [HX.out.2.2.len]; decide) HX.out.2.2.dead _ HX.out.2.2.two).mono ?_
  rintro e w9 ⟨y, rfl, hy, hm, hg⟩
  have HVx := Lib.hid (HX0.out.mono hg)
  have HVy := Lib.hid hy
  have HBW := Lib.hid hm.below
  have HWR : Hid (Grow w9 w9) := Grow.refl _
  clear hm hy hg HX0
  go_wp2_with fail
  refine wp_region_grow 15 [] NoBlock (fun _ => True) (by kernel_rfl) (by kernel_rfl) (by rfl) (fun _ _ _ _ => trivial) trivial ?_
  simp only [List.take_succ_cons, List.take_zero, List.drop_succ_cons, List.drop_zero]
  repeat (refine wpH_pure (by intro _ _ h; cases h) (by rfl) (by rfl) (fun K hK => ?_); go_simp; refine hK _ ?_; clear hK K)
  refine wpH_det (.string sn) (by rfl) (fun xs => by rfl) (fun xs w' hg hf => ?_) ?_
  · have hc := str_of (HVx.out.mono (HWR.out.trans hg.below))
    clear hf
    rw [HSn.out] at hc
    go_simp
    exact Below.refl _ _
  try go_simp
  repeat (refine wpH_pure (by intro _ _ h; cases h) (by rfl) (by rfl) (fun K hK => ?_); go_simp; refine hK _ ?_; clear hK K)
  refine wpH_hid (fun u w => BytesV w u (slotB a)) rfl (by rfl) (bytes_stay _) (fun xs => by rfl) (fun xs w' hg hf => ?_) ?_
  · clear hf
    go_simp
    refine (refslot_any _ _ HRa.out).mono ?_
    rintro e w1 ⟨v, rfl, h⟩
    exact ⟨v, rfl, newb_bytes h (slotB_bytes _), h.2⟩
  try go_simp
  refine wpH_det (.string sa) (by rfl) (fun xs => by rfl) (fun xs w' hg hf => ?_) ?_
  · have h1 := hf _ (List.Mem.head _) (by rfl); dsimp only at h1
    have hc := str_of h1
    clear hf h1
    rw [HSa.out] at hc
    go_simp
    exact Below.refl _ _
  try go_simp
  repeat (refine wpH_pure (by intro _ _ h; cases h) (by rfl) (by rfl) (fun K hK => ?_); go_simp; refine hK _ ?_; clear hK K)
  refine wpH_nil ?_
  intro xs w2 hg hx1 hx2
  clear hx1 hx2
  have HWR2 := Lib.hid (HWR.out.trans hg.below)
  clear hg HWR
  have HWR := Lib.hid HWR2.out
  clear HWR2
  generalize xs 81 = y0
  generalize xs 88 = y1
  simp only [fill]
  go_simp
  go_wp2_with fail
  refine wp_region_grow 15 [] NoBlock (fun _ => True) (by kernel_rfl) (by kernel_rfl) (by rfl) (fun _ _ _ _ => trivial) trivial ?_
  simp only [List.take_succ_cons, List.take_zero, List.drop_succ_cons, List.drop_zero]
  repeat (refine wpH_pure (by intro _ _ h; cases h) (by rfl) (by rfl) (fun K hK => ?_); go_simp; refine hK _ ?_; clear hK K)
  refine wpH_det (.string sb) (by rfl) (fun xs => by rfl) (fun xs w' hg hf => ?_) ?_
  · have hc := str_of (HVy.out.mono (HWR.out.trans hg.below))
    clear hf
    rw [HSb.out] at hc
    go_simp
    exact Below.refl _ _
  try go_simp
  repeat (refine wpH_pure (by intro _ _ h; cases h) (by rfl) (by rfl) (fun K hK => ?_); go_simp; refine hK _ ?_; clear hK K)
  refine wpH_hid (fun u w => BytesV w u (slotB b)) rfl (by rfl) (bytes_stay _) (fun xs => by rfl) (fun xs w' hg hf => ?_) ?_
  · clear hf
    go_simp
    refine (refslot_any _ _ HRb.out).mono ?_
    rintro e w1 ⟨v, rfl, h⟩
    exact ⟨v, rfl, newb_bytes h (slotB_bytes _), h.2⟩
  try go_simp
  refine wpH_det (.string sb) (by rfl) (fun xs => by rfl) (fun xs w' hg hf => ?_) ?_
  · have h1 := hf _ (List.Mem.head _) (by rfl); dsimp only at h1
    have hc := str_of h1
    clear hf h1
    rw [HSb.out] at hc
    go_simp
    exact Below.refl _ _
  try go_simp
  repeat (refine wpH_pure (by intro _ _ h; cases h) (by rfl) (by rfl) (fun K hK => ?_); go_simp; refine hK _ ?_; clear hK K)
  refine wpH_det (.string sn) (by rfl) (fun xs => by rfl) (fun xs w' hg hf => ?_) ?_
  · have hc := str_of (HVx.out.mono (HWR.out.trans hg.below))
    clear hf
    rw [HSn.out] at hc
    go_simp
    exact Below.refl _ _
  try go_simp
  repeat (refine wpH_pure (by intro _ _ h; cases h) (by rfl) (by rfl) (fun K hK => ?_); go_simp; refine hK _ ?_; clear hK K)
  refine wpH_hid (fun u w => BytesV w u (slotB (b + 1))) rfl (by rfl) (bytes_stay _) (fun xs => by rfl) (fun xs w' hg hf => ?_) ?_
  · clear hf
    go_simp
    refine (refslot_any _ _ HRn.out).mono ?_
    rintro e w1 ⟨v, rfl, h⟩
    exact ⟨v, rfl, newb_bytes h (slotB_bytes _), h.2⟩
  try go_simp
  refine wpH_det (.string sn) (by rfl) (fun xs => by rfl) (fun xs w' hg hf => ?_) ?_
  · have h1 := hf _ (List.Mem.head _) (by rfl); dsimp only at h1
    have hc := str_of h1
    clear hf h1
    rw [HSn.out] at hc
    go_simp
    exact Below.refl _ _
  try go_simp
  repeat (refine wpH_pure (by intro _ _ h; cases h) (by rfl) (by rfl) (fun K hK => ?_); go_simp; refine hK _ ?_; clear hK K)
  refine wpH_nil ?_
  intro xs w2 hg hx1 hx2
  clear hx1 hx2
  have HWR2 := Lib.hid (HWR.out.trans hg.below)
  clear hg HWR
  have HWR := Lib.hid HWR2.out
  clear HWR2
  generalize xs 95 = y0
  generalize xs 102 = y1
  clear HSa HSb HSn HX HCm HTW HF HS0 HS1 HS2 HS3 HB1 HC HM6 HM7 HM8 HVx HVy HM5
  simp only [fill]
  go_simp
  go_wp2_with fail
  refine (known_any _).mono ?_
  rintro e w' ⟨rfl, hg⟩
  have HG := Lib.hid (HBW.out.trans (Below.mono (HWR.out.trans hg) HBW.out.size))
  clear hg
  go_wp2_with fail
  go_ret
  exact ⟨by first | rfl | (simp; omega) | simp, HG.out⟩

set_option maxRecDepth 20000 in
set_option maxHeartbeats 4000000 in
theorem next_gt (a b n : Int) (w : World) (w0 : (Lit.int .u64 a).wf = true) (w1 : (Lit.int .u64 b).wf = true) (hab : b < a) (ht : (a == 18446744073709551615) = false) (hn : n = a + 1) :
    Calls Try.prog 4 #[.int .u64 a, .int .u64 b] w fun e w' => e = .returned (.bool true) ∧ Below w.heap.size w w' := by
  have ha := wf_u64 w0
  have hb := wf_u64 w1
  have HRa := Lib.hid ha
  have HRb := Lib.hid hb
  have htw := two_made a b ha hb
  have hf := wrote_free (slotB a) (St.fresh 40) 0 rfl
  have hl1 : (wrote (St.fresh 40) 0 (slotB a)).cells.length = 40 := by rw [wrote_length']; rfl
  obtain ⟨st0, hst0⟩ : ∃ s, St.fresh 40 = s := ⟨_, rfl⟩
  have hd0 : st0.dead = false := by rw [← hst0]; rfl
  have hl0 : st0.cells.length = 40 := by rw [← hst0]; rfl
  rw [hst0] at htw hf hl1
  obtain ⟨st1, hst1⟩ : ∃ s, wrote st0 0 (slotB a) = s := ⟨_, rfl⟩
  rw [hst1] at htw hf hl1
  obtain ⟨st2, hst2⟩ : ∃ s, wrote st1 16 (slotB b) = s := ⟨_, rfl⟩
  rw [hst2] at htw
  have HTW := Lib.hid htw
  have HF := Lib.hid (hf.1.trans hd0)
  have HL0 := Lib.hid hl0
  have HL1 := Lib.hid hl1
  have HD0 := Lib.hid hd0
  have HS0 := Lib.hid hst0
  have HS1 := Lib.hid hst1
  have HS2 := Lib.hid hst2
  clear htw hf hl1 hl0 hd0 hst0 hst1 hst2
  clear w0 w1
  have hne : a ≠ 18446744073709551615 := by simpa using ht
  have hn1 : n < 18446744073709551616 := by omega
  have HRn : Hid (0 ≤ n ∧ n < 18446744073709551616) := ⟨by omega, hn1⟩
  have HMX : Hid (max a b = a) := by show max a b = _; omega
  have hx := HTW.out.next n (by rw [HMX.out]; exact hn) hn1
  rw [if_pos (by omega), if_pos (by omega)] at hx
  obtain ⟨st3, hst3⟩ : ∃ s, beginSt st2 = s := ⟨_, rfl⟩
  rw [hst3] at hx
  have HX := Lib.hid hx
  have HS3 := Lib.hid hst3
  have hcm : cntOf st3 = n := by rw [hx.2.2.cnt]; omega
  have HCm := Lib.hid hcm
  clear hst3 hcm
  have HN := Lib.hid hn
  have q3 : (n == a + 1) = true := by rw [hn]; simp
  have hms : (a : Int) < 18446744073709551615 := by omega
  obtain ⟨sa, hsa⟩ : ∃ s, strOfNums (slotB a) = s := ⟨_, rfl⟩
  obtain ⟨sb, hsb⟩ : ∃ s, strOfNums (slotB b) = s := ⟨_, rfl⟩
  obtain ⟨sn, hsn⟩ : ∃ s, strOfNums (slotB n) = s := ⟨_, rfl⟩
  have HSa := Lib.hid hsa
  have HSb := Lib.hid hsb
  have HSn := Lib.hid hsn
  have q1 : (sn.toList == sb.toList) = false := by rw [← hsn, ← hsb]; exact slot_str_ne HRn.out hb (by omega)
  have q2 : (a == b) = false := by simp; omega
  have hle : b ≤ a := by omega
  clear hx hne hn1 hsa hsb hsn q3
  subst hn
  have hn0 : (0 : Int) ≤ a + 1 := HRn.out.1
  go_enter Try.func4, Try.ntmps4
  go_wp2_with fail
  refine (new_any 40 w (by omega) (by omega)).mono ?_
  rintro e w1 ⟨P, g, rfl, hs, hgr, hP, hg⟩
  have hm := Mine.of_new hs hgr hP hg
  rw [HS0.out] at hm
  have HM := Lib.hid hm
  clear hs hgr hP hg hm
  go_wp2_with fail
  refine (refslot_any a _ HRa.out).mono ?_
  rintro e w2 ⟨v, rfl, hv⟩
  have hw1 := mine_write (HM.out.grow hv.2) 0 v (slotB a) (held_newb hv HM.out.store.ltP HM.out.store.ltG (slotB_bytes a)) (by rw [slotB_length, HL0.out]; decide) HD0.out st1 0 HS1.out (by rw [HF.out]; rfl)
  have HW1 := Lib.hid hw1
  clear hw1 hv
  go_wp2_with fail
  refine HW1.out.mono ?_
  rintro e w3 ⟨rfl, hm, _⟩
  have HM3 := Lib.hid hm
  clear hm HM HW1
  go_wp2_with fail
  refine (refslot_any b _ HRb.out).mono ?_
  rintro e w4 ⟨v, rfl, hv⟩
  have hw1 := mine_write (HM3.out.grow hv.2) 16 v (slotB b) (held_newb hv HM3.out.store.ltP HM3.out.store.ltG (slotB_bytes b)) (by rw [slotB_length, HL1.out]; decide) HF.out st2 0 HS2.out (by rw [HTW.out.dead]; rfl)
  have HW1 := Lib.hid hw1
  clear hw1 hv
  go_wp2_with fail
  refine HW1.out.mono ?_
  rintro e w5 ⟨rfl, hm, _⟩
  have HM5 := Lib.hid hm
  clear hm HM3 HW1
  go_wp2_with fail
  have hb1 := mine_begin HM5.out _ 0 st3 HX.out.2.1 HX.out.1 HS3.out
  have HB1 := Lib.hid hb1
  clear hb1
  refine HB1.out.mono ?_
  rintro e w6 ⟨rfl, hm⟩
  have HM6 := Lib.hid hm
  have hc := count_any HM6.out.store
  rw [HX.out.2.2.why, HCm.out] at hc
  have HC := Lib.hid hc
  clear hc hm
  go_wp2_with fail
  refine HC.out.mono ?_
  rintro e w7 ⟨rfl, hg⟩
  have HM7 := Lib.hid (HM6.out.grow hg)
  clear hg
  go_wp2_with fail
  refine (mine_read HM7.out 0 16 (by rw [HX.out.2.2.len]; decide) HX.out.2.2.dead _ HX.out.2.2.one).mono ?_
  rintro e w8 ⟨x, rfl, hx, hm, _⟩
  have HM8 := Lib.hid hm
  have HX0 := Lib.hid hx
  clear hm hx
  go_wp2_with fail
  refine (mine_read HM8.out 16 16 (by rw [HX.out.2.2.len]; decide) HX.out.2.2.dead _ HX.out.2.2.two).mono ?_
  rintro e w9 ⟨y, rfl, hy, hm, hg⟩
  have HVx := Lib.hid (HX0.out.mono hg)
  have HVy := Lib.hid hy
  have HBW := Lib.hid hm.below
  have HWR : Hid (Grow w9 w9) := Grow.refl _
  clear hm hy hg HX0
  go_wp2_with fail
  refine wp_region_grow 15 [] NoBlock (fun _ => True) (by kernel_rfl) (by kernel_rfl) (by rfl) (fun _ _ _ _ => trivial) trivial ?_
  simp only [List.take_succ_cons, List.take_zero, List.drop_succ_cons, List.drop_zero]
  repeat (refine wpH_pure (by intro _ _ h; cases h) (by rfl) (by rfl) (fun K hK => ?_); go_simp; refine hK _ ?_; clear hK K)
  refine wpH_det (.string sa) (by rfl) (fun xs => by rfl) (fun xs w' hg hf => ?_) ?_
  · have hc := str_of (HVx.out.mono (HWR.out.trans hg.below))
    clear hf
    rw [HSa.out] at hc
    go_simp
    exact Below.refl _ _
  try go_simp
  repeat (refine wpH_pure (by intro _ _ h; cases h) (by rfl) (by rfl) (fun K hK => ?_); go_simp; refine hK _ ?_; clear hK K)
  refine wpH_hid (fun u w => BytesV w u (slotB a)) rfl (by rfl) (bytes_stay _) (fun xs => by rfl) (fun xs w' hg hf => ?_) ?_
  · clear hf
    go_simp
    refine (refslot_any _ _ HRa.out).mono ?_
    rintro e w1 ⟨v, rfl, h⟩
    exact ⟨v, rfl, newb_bytes h (slotB_bytes _), h.2⟩
  try go_simp
  refine wpH_det (.string sa) (by rfl) (fun xs => by rfl) (fun xs w' hg hf => ?_) ?_
  · have h1 := hf _ (List.Mem.head _) (by rfl); dsimp only at h1
    have hc := str_of h1
    clear hf h1
    rw [HSa.out] at hc
    go_simp
    exact Below.refl _ _
  try go_simp
  repeat (refine wpH_pure (by intro _ _ h; cases h) (by rfl) (by rfl) (fun K hK => ?_); go_simp; refine hK _ ?_; clear hK K)
  refine wpH_det (.string sn) (by rfl) (fun xs => by rfl) (fun xs w' hg hf => ?_) ?_
  · have hc := str_of (HVy.out.mono (HWR.out.trans hg.below))
    clear hf
    rw [HSn.out] at hc
    go_simp
    exact Below.refl _ _
  try go_simp
  repeat (refine wpH_pure (by intro _ _ h; cases h) (by rfl) (by rfl) (fun K hK => ?_); go_simp; refine hK _ ?_; clear hK K)
  refine wpH_hid (fun u w => BytesV w u (slotB (a + 1))) rfl (by rfl) (bytes_stay _) (fun xs => by rfl) (fun xs w' hg hf => ?_) ?_
  · clear hf
    go_simp
    refine (refslot_any _ _ HRn.out).mono ?_
    rintro e w1 ⟨v, rfl, h⟩
    exact ⟨v, rfl, newb_bytes h (slotB_bytes _), h.2⟩
  try go_simp
  refine wpH_det (.string sn) (by rfl) (fun xs => by rfl) (fun xs w' hg hf => ?_) ?_
  · have h1 := hf _ (List.Mem.head _) (by rfl); dsimp only at h1
    have hc := str_of h1
    clear hf h1
    rw [HSn.out] at hc
    go_simp
    exact Below.refl _ _
  try go_simp
  repeat (refine wpH_pure (by intro _ _ h; cases h) (by rfl) (by rfl) (fun K hK => ?_); go_simp; refine hK _ ?_; clear hK K)
  refine wpH_nil ?_
  intro xs w2 hg hx1 hx2
  clear hx1 hx2
  have HWR2 := Lib.hid (HWR.out.trans hg.below)
  clear hg HWR
  have HWR := Lib.hid HWR2.out
  clear HWR2
  generalize xs 81 = y0
  generalize xs 88 = y1
  simp only [fill]
  go_simp
  go_wp2_with fail
  refine wp_region_grow 15 [] NoBlock (fun _ => True) (by kernel_rfl) (by kernel_rfl) (by rfl) (fun _ _ _ _ => trivial) trivial ?_
  simp only [List.take_succ_cons, List.take_zero, List.drop_succ_cons, List.drop_zero]
  repeat (refine wpH_pure (by intro _ _ h; cases h) (by rfl) (by rfl) (fun K hK => ?_); go_simp; refine hK _ ?_; clear hK K)
  refine wpH_det (.string sn) (by rfl) (fun xs => by rfl) (fun xs w' hg hf => ?_) ?_
  · have hc := str_of (HVy.out.mono (HWR.out.trans hg.below))
    clear hf
    rw [HSn.out] at hc
    go_simp
    exact Below.refl _ _
  try go_simp
  repeat (refine wpH_pure (by intro _ _ h; cases h) (by rfl) (by rfl) (fun K hK => ?_); go_simp; refine hK _ ?_; clear hK K)
  refine wpH_hid (fun u w => BytesV w u (slotB b)) rfl (by rfl) (bytes_stay _) (fun xs => by rfl) (fun xs w' hg hf => ?_) ?_
  · clear hf
    go_simp
    refine (refslot_any _ _ HRb.out).mono ?_
    rintro e w1 ⟨v, rfl, h⟩
    exact ⟨v, rfl, newb_bytes h (slotB_bytes _), h.2⟩
  try go_simp
  refine wpH_det (.string sb) (by rfl) (fun xs => by rfl) (fun xs w' hg hf => ?_) ?_
  · have h1 := hf _ (List.Mem.head _) (by rfl); dsimp only at h1
    have hc := str_of h1
    clear hf h1
    rw [HSb.out] at hc
    go_simp
    exact Below.refl _ _
  try go_simp
  repeat (refine wpH_pure (by intro _ _ h; cases h) (by rfl) (by rfl) (fun K hK => ?_); go_simp; refine hK _ ?_; clear hK K)
  refine wpH_nil ?_
  intro xs w2 hg hx1 hx2
  clear hx1 hx2
  have HWR2 := Lib.hid (HWR.out.trans hg.below)
  clear hg HWR
  have HWR := Lib.hid HWR2.out
  clear HWR2
  generalize xs 95 = y0
  generalize xs 102 = y1
  clear HSa HSb HSn HX HCm HTW HF HS0 HS1 HS2 HS3 HB1 HC HM6 HM7 HM8 HVx HVy HM5
  simp only [fill]
  go_simp
  go_wp2_with fail
  refine (known_any _).mono ?_
  rintro e w' ⟨rfl, hg⟩
  have HG := Lib.hid (HBW.out.trans (Below.mono (HWR.out.trans hg) HBW.out.size))
  clear hg
  go_wp2_with fail
  go_ret
  exact ⟨by first | rfl | (simp; omega) | simp, HG.out⟩

set_option maxRecDepth 20000 in
set_option maxHeartbeats 4000000 in
theorem next_eq (a b n : Int) (w : World) (w0 : (Lit.int .u64 a).wf = true) (w1 : (Lit.int .u64 b).wf = true) (hab : b ≤ a) (hba : (a == b) = true) (ht : (a == 18446744073709551615) = false) (hn : n = a + 1) :
    Calls Try.prog 4 #[.int .u64 a, .int .u64 b] w fun e w' => e = .returned (.bool true) ∧ Below w.heap.size w w' := by
  have ha := wf_u64 w0
  have hb := wf_u64 w1
  have HRa := Lib.hid ha
  have HRb := Lib.hid hb
  have htw := two_made a b ha hb
  have hf := wrote_free (slotB a) (St.fresh 40) 0 rfl
  have hl1 : (wrote (St.fresh 40) 0 (slotB a)).cells.length = 40 := by rw [wrote_length']; rfl
  obtain ⟨st0, hst0⟩ : ∃ s, St.fresh 40 = s := ⟨_, rfl⟩
  have hd0 : st0.dead = false := by rw [← hst0]; rfl
  have hl0 : st0.cells.length = 40 := by rw [← hst0]; rfl
  rw [hst0] at htw hf hl1
  obtain ⟨st1, hst1⟩ : ∃ s, wrote st0 0 (slotB a) = s := ⟨_, rfl⟩
  rw [hst1] at htw hf hl1
  obtain ⟨st2, hst2⟩ : ∃ s, wrote st1 16 (slotB b) = s := ⟨_, rfl⟩
  rw [hst2] at htw
  have HTW := Lib.hid htw
  have HF := Lib.hid (hf.1.trans hd0)
  have HL0 := Lib.hid hl0
  have HL1 := Lib.hid hl1
  have HD0 := Lib.hid hd0
  have HS0 := Lib.hid hst0
  have HS1 := Lib.hid hst1
  have HS2 := Lib.hid hst2
  clear htw hf hl1 hl0 hd0 hst0 hst1 hst2
  clear w0 w1
  have hne : a ≠ 18446744073709551615 := by simpa using ht
  have hn1 : n < 18446744073709551616 := by omega
  have HRn : Hid (0 ≤ n ∧ n < 18446744073709551616) := ⟨by omega, hn1⟩
  have HMX : Hid (max a b = a) := by show max a b = _; omega
  have hx := HTW.out.next n (by rw [HMX.out]; exact hn) hn1
  rw [if_neg (by have := eq_of_beq hba; omega), if_neg (by have := eq_of_beq hba; omega)] at hx
  obtain ⟨st3, hst3⟩ : ∃ s, beginSt st2 = s := ⟨_, rfl⟩
  rw [hst3] at hx
  have HX := Lib.hid hx
  have HS3 := Lib.hid hst3
  have hcm : cntOf st3 = n := by rw [hx.2.2.cnt]; omega
  have HCm := Lib.hid hcm
  clear hst3 hcm
  have HN := Lib.hid hn
  have q3 : (n == a + 1) = true := by rw [hn]; simp
  have hms : (a : Int) < 18446744073709551615 := by omega
  obtain ⟨sa, hsa⟩ : ∃ s, strOfNums (slotB a) = s := ⟨_, rfl⟩
  obtain ⟨sb, hsb⟩ : ∃ s, strOfNums (slotB b) = s := ⟨_, rfl⟩
  obtain ⟨sn, hsn⟩ : ∃ s, strOfNums (slotB n) = s := ⟨_, rfl⟩
  have HSa := Lib.hid hsa
  have HSb := Lib.hid hsb
  have HSn := Lib.hid hsn
  have q1 : (sn.toList == sa.toList) = false := by rw [← hsn, ← hsa]; exact slot_str_ne HRn.out ha (by omega)
  clear hx hne hn1 hsa hsb hsn q3
  subst hn
  have hn0 : (0 : Int) ≤ a + 1 := HRn.out.1
  go_enter Try.func4, Try.ntmps4
  go_wp2_with fail
  refine (new_any 40 w (by omega) (by omega)).mono ?_
  rintro e w1 ⟨P, g, rfl, hs, hgr, hP, hg⟩
  have hm := Mine.of_new hs hgr hP hg
  rw [HS0.out] at hm
  have HM := Lib.hid hm
  clear hs hgr hP hg hm
  go_wp2_with fail
  refine (refslot_any a _ HRa.out).mono ?_
  rintro e w2 ⟨v, rfl, hv⟩
  have hw1 := mine_write (HM.out.grow hv.2) 0 v (slotB a) (held_newb hv HM.out.store.ltP HM.out.store.ltG (slotB_bytes a)) (by rw [slotB_length, HL0.out]; decide) HD0.out st1 0 HS1.out (by rw [HF.out]; rfl)
  have HW1 := Lib.hid hw1
  clear hw1 hv
  go_wp2_with fail
  refine HW1.out.mono ?_
  rintro e w3 ⟨rfl, hm, _⟩
  have HM3 := Lib.hid hm
  clear hm HM HW1
  go_wp2_with fail
  refine (refslot_any b _ HRb.out).mono ?_
  rintro e w4 ⟨v, rfl, hv⟩
  have hw1 := mine_write (HM3.out.grow hv.2) 16 v (slotB b) (held_newb hv HM3.out.store.ltP HM3.out.store.ltG (slotB_bytes b)) (by rw [slotB_length, HL1.out]; decide) HF.out st2 0 HS2.out (by rw [HTW.out.dead]; rfl)
  have HW1 := Lib.hid hw1
  clear hw1 hv
  go_wp2_with fail
  refine HW1.out.mono ?_
  rintro e w5 ⟨rfl, hm, _⟩
  have HM5 := Lib.hid hm
  clear hm HM3 HW1
  go_wp2_with fail
  have hb1 := mine_begin HM5.out _ 0 st3 HX.out.2.1 HX.out.1 HS3.out
  have HB1 := Lib.hid hb1
  clear hb1
  refine HB1.out.mono ?_
  rintro e w6 ⟨rfl, hm⟩
  have HM6 := Lib.hid hm
  have hc := count_any HM6.out.store
  rw [HX.out.2.2.why, HCm.out] at hc
  have HC := Lib.hid hc
  clear hc hm
  go_wp2_with fail
  refine HC.out.mono ?_
  rintro e w7 ⟨rfl, hg⟩
  have HM7 := Lib.hid (HM6.out.grow hg)
  clear hg
  go_wp2_with fail
  refine (mine_read HM7.out 0 16 (by rw [HX.out.2.2.len]; decide) HX.out.2.2.dead _ HX.out.2.2.one).mono ?_
  rintro e w8 ⟨x, rfl, hx, hm, _⟩
  have HM8 := Lib.hid hm
  have HX0 := Lib.hid hx
  clear hm hx
  go_wp2_with fail
  refine (mine_read HM8.out 16 16 (by rw [HX.out.2.2.len]; decide) HX.out.2.2.dead _ HX.out.2.2.two).mono ?_
  rintro e w9 ⟨y, rfl, hy, hm, hg⟩
  have HVx := Lib.hid (HX0.out.mono hg)
  have HVy := Lib.hid hy
  have HBW := Lib.hid hm.below
  have HWR : Hid (Grow w9 w9) := Grow.refl _
  clear hm hy hg HX0
  go_wp2_with fail
  refine wp_region_grow 15 [] NoBlock (fun _ => True) (by kernel_rfl) (by kernel_rfl) (by rfl) (fun _ _ _ _ => trivial) trivial ?_
  simp only [List.take_succ_cons, List.take_zero, List.drop_succ_cons, List.drop_zero]
  repeat (refine wpH_pure (by intro _ _ h; cases h) (by rfl) (by rfl) (fun K hK => ?_); go_simp; refine hK _ ?_; clear hK K)
  refine wpH_det (.string sn) (by rfl) (fun xs => by rfl) (fun xs w' hg hf => ?_) ?_
  · have hc := str_of (HVx.out.mono (HWR.out.trans hg.below))
    clear hf
    rw [HSn.out] at hc
    go_simp
    exact Below.refl _ _
  try go_simp
  repeat (refine wpH_pure (by intro _ _ h; cases h) (by rfl) (by rfl) (fun K hK => ?_); go_simp; refine hK _ ?_; clear hK K)
  refine wpH_hid (fun u w => BytesV w u (slotB a)) rfl (by rfl) (bytes_stay _) (fun xs => by rfl) (fun xs w' hg hf => ?_) ?_
  · clear hf
    go_simp
    refine (refslot_any _ _ HRa.out).mono ?_
    rintro e w1 ⟨v, rfl, h⟩
    exact ⟨v, rfl, newb_bytes h (slotB_bytes _), h.2⟩
  try go_simp
  refine wpH_det (.string sa) (by rfl) (fun xs => by rfl) (fun xs w' hg hf => ?_) ?_
  · have h1 := hf _ (List.Mem.head _) (by rfl); dsimp only at h1
    have hc := str_of h1
    clear hf h1
    rw [HSa.out] at hc
    go_simp
    exact Below.refl _ _
  try go_simp
  repeat (refine wpH_pure (by intro _ _ h; cases h) (by rfl) (by rfl) (fun K hK => ?_); go_simp; refine hK _ ?_; clear hK K)
  refine wpH_nil ?_
  intro xs w2 hg hx1 hx2
  clear hx1 hx2
  have HWR2 := Lib.hid (HWR.out.trans hg.below)
  clear hg HWR
  have HWR := Lib.hid HWR2.out
  clear HWR2
  generalize xs 81 = y0
  generalize xs 88 = y1
  simp only [fill]
  go_simp
  go_wp2_with fail
  refine wp_region_grow 15 [] NoBlock (fun _ => True) (by kernel_rfl) (by kernel_rfl) (by rfl) (fun _ _ _ _ => trivial) trivial ?_
  simp only [List.take_succ_cons, List.take_zero, List.drop_succ_cons, List.drop_zero]
  repeat (refine wpH_pure (by intro _ _ h; cases h) (by rfl) (by rfl) (fun K hK => ?_); go_simp; refine hK _ ?_; clear hK K)
  refine wpH_det (.string sb) (by rfl) (fun xs => by rfl) (fun xs w' hg hf => ?_) ?_
  · have hc := str_of (HVy.out.mono (HWR.out.trans hg.below))
    clear hf
    rw [HSb.out] at hc
    go_simp
    exact Below.refl _ _
  try go_simp
  repeat (refine wpH_pure (by intro _ _ h; cases h) (by rfl) (by rfl) (fun K hK => ?_); go_simp; refine hK _ ?_; clear hK K)
  refine wpH_hid (fun u w => BytesV w u (slotB b)) rfl (by rfl) (bytes_stay _) (fun xs => by rfl) (fun xs w' hg hf => ?_) ?_
  · clear hf
    go_simp
    refine (refslot_any _ _ HRb.out).mono ?_
    rintro e w1 ⟨v, rfl, h⟩
    exact ⟨v, rfl, newb_bytes h (slotB_bytes _), h.2⟩
  try go_simp
  refine wpH_det (.string sb) (by rfl) (fun xs => by rfl) (fun xs w' hg hf => ?_) ?_
  · have h1 := hf _ (List.Mem.head _) (by rfl); dsimp only at h1
    have hc := str_of h1
    clear hf h1
    rw [HSb.out] at hc
    go_simp
    exact Below.refl _ _
  try go_simp
  repeat (refine wpH_pure (by intro _ _ h; cases h) (by rfl) (by rfl) (fun K hK => ?_); go_simp; refine hK _ ?_; clear hK K)
  refine wpH_det (.string sn) (by rfl) (fun xs => by rfl) (fun xs w' hg hf => ?_) ?_
  · have hc := str_of (HVx.out.mono (HWR.out.trans hg.below))
    clear hf
    rw [HSn.out] at hc
    go_simp
    exact Below.refl _ _
  try go_simp
  repeat (refine wpH_pure (by intro _ _ h; cases h) (by rfl) (by rfl) (fun K hK => ?_); go_simp; refine hK _ ?_; clear hK K)
  refine wpH_hid (fun u w => BytesV w u (slotB (a + 1))) rfl (by rfl) (bytes_stay _) (fun xs => by rfl) (fun xs w' hg hf => ?_) ?_
  · clear hf
    go_simp
    refine (refslot_any _ _ HRn.out).mono ?_
    rintro e w1 ⟨v, rfl, h⟩
    exact ⟨v, rfl, newb_bytes h (slotB_bytes _), h.2⟩
  try go_simp
  refine wpH_det (.string sn) (by rfl) (fun xs => by rfl) (fun xs w' hg hf => ?_) ?_
  · have h1 := hf _ (List.Mem.head _) (by rfl); dsimp only at h1
    have hc := str_of h1
    clear hf h1
    rw [HSn.out] at hc
    go_simp
    exact Below.refl _ _
  try go_simp
  repeat (refine wpH_pure (by intro _ _ h; cases h) (by rfl) (by rfl) (fun K hK => ?_); go_simp; refine hK _ ?_; clear hK K)
  refine wpH_nil ?_
  intro xs w2 hg hx1 hx2
  clear hx1 hx2
  have HWR2 := Lib.hid (HWR.out.trans hg.below)
  clear hg HWR
  have HWR := Lib.hid HWR2.out
  clear HWR2
  generalize xs 95 = y0
  generalize xs 102 = y1
  clear HSa HSb HSn HX HCm HTW HF HS0 HS1 HS2 HS3 HB1 HC HM6 HM7 HM8 HVx HVy HM5
  simp only [fill]
  go_simp
  go_wp2_with fail
  refine (known_any _).mono ?_
  rintro e w' ⟨rfl, hg⟩
  have HG := Lib.hid (HBW.out.trans (Below.mono (HWR.out.trans hg) HBW.out.size))
  clear hg
  go_wp2_with fail
  go_ret
  exact ⟨by first | rfl | (simp; omega) | simp, HG.out⟩

theorem walk (a b : Int) (w : World) (w0 : (Lit.int .u64 a).wf = true) (w1 : (Lit.int .u64 b).wf = true) :
    Calls Try.prog 4 #[.int .u64 a, .int .u64 b] w fun e w' => e = .returned (.bool true) ∧ Below w.heap.size w w' := by
  by_cases hab : a < b
  · cases ht : (b == 18446744073709551615)
    · exact next_lt a b _ w w0 w1 hab ht rfl
    · exact full_b a b w w0 w1 hab ht
  · cases ht : (a == 18446744073709551615)
    · by_cases hba : b < a
      · exact next_gt a b _ w w0 w1 hba ht rfl
      · exact next_eq a b _ w w0 w1 (by omega) (by simp; omega) ht rfl
    · exact full_a a b w w0 w1 (by omega) ht


set_option maxRecDepth 100000 in
theorem lifted (os : Os) (started : os.Started) (H : Type) (enc : TypeId × Value → H) :
    ReturnsInHanded {} Try.checked os 4 .any (Rows.bootKeepsSpec.pre6 enc Try.prog Try.f4 Rows.bootKeepsRow.domain false) (Rows.bootKeepsSpec.post enc Try.prog Try.f4 false true false false) := by
  refine returnsInHanded_of_change (C := Try.checked) own started (by kernel_rfl) Try.func4
    (ChangeSpec.witness6 (enc := enc) (C := Try.checked) false ⟨#[], #[.int .u64 0, .int .u64 0], []⟩ 8 (by kernel_rfl) (by kernel_rfl) (by kernel_rfl) (by kernel_rfl)) ?_
  intro W base args ds gs before hval0 hW hcnd _
  have hval : ∀ (j : Nat) t v, Try.f4.params[j]? = some t → args[j]? = some v → Value.okWide Try.prog W .any base t v := hval0
  have hW' := hW
  obtain ⟨p, q, hA0, hV, rfl, hfz, hnd⟩ := hW
  have hA : DataW.TrodAll enc Try.prog W 0 (fun _ => true) true Try.f4.params.toList args.toList ds p := hA0
  rw [Try.params4] at hA hval
  obtain ⟨v0, vs0, d0, ds0, p0, q0, hargs, rfl, rfl, h0, r0⟩ := trodAll_cons hA
  obtain ⟨v1, vs1, d1, ds1, p1, q1, rfl, rfl, rfl, h1, r1⟩ := trodAll_cons r0
  obtain ⟨rfl, rfl, rfl⟩ := trodAll_nil r1
  obtain rfl : args = #[v0, v1] := by cases args; simp_all
  obtain ⟨rfl, rfl⟩ := trodVars_none hV
  have k0 := h0
  have lt0 : ∀ x ∈ p0, x.block < W.heap.size := by obtain ⟨m, hm⟩ := k0; exact DataW.trod_lt m _ _ _ hm
  have k1 := h1
  have lt1 : ∀ x ∈ p1, x.block < W.heap.size := by obtain ⟨m, hm⟩ := k1; exact DataW.trod_lt m _ _ _ hm
  obtain ⟨a0, rfl, e0, f0, w0⟩ := open_int Try.underlying22 (hval 0 22 v0 rfl rfl) h0
  obtain ⟨a1, rfl, e1, f1, w1⟩ := open_int Try.underlying22 (hval 1 22 v1 rfl rfl) h1
  clear hA0 hval0
  refine (walk a0 a1 W w0 w1).mono fun e W' ⟨he, bel⟩ => ?_
  subst he
  exact ⟨_, rfl, _, _, _, [], _, [], hW', trodAll_mk1 (shut_bool Try.underlying4 _), (trodAll_cons_mk (Below.trod laidOut (by kernel_rfl) (of_decide_eq_true (by kernel_rfl)) k0 bel lt0) (trodAll_cons_mk (Below.trod laidOut (by kernel_rfl) (of_decide_eq_true (by kernel_rfl)) k1 bel lt1) trodAll_mk0)), rfl, bel.frame _, fun h => by cases h⟩

theorem over : Rows.bootKeepsRow.holds Try.pinned (OpenSpec.ofChange Rows.bootKeepsSpec) :=
  OpenClaim.holds_of_wide 4 Try.f4 rfl rfl rfl rfl rfl rfl rfl ⟨rfl, rfl, rfl, rfl, rfl⟩ rfl rfl rfl rfl rfl (by kernel_rfl) Try.func4 (by kernel_rfl)
    (of_decide_eq_true (by kernel_rfl)) (by unfold Func.isWrapper; first | (rw [if_pos (by decide +kernel)]; kernel_rfl) | (rw [if_neg (by decide +kernel)]; exact ⟨rfl, rfl⟩))
    (fun os started H enc _ => lifted os started H enc)

/-- The statement. -/
theorem proved : Rows.BootKeepsSaid := over
end Go.Proofs.Ytajmfgadbphjbaa.bootKeeps
