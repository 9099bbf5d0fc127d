/- Copies go on apart, and which are the same; at most 40 bytes, 40 acts each. -/
import Derived.Test.YteakedikmaobfaaRows
import Derived.Test.YteakedikmaobfaaStApart
import Derived.WalkKit
import Derived.ProofKit
import Derived.OpenShut
import Derived.ShutString
import Derived.ChangeOld
import Derived.Below
set_option linter.unusedVariables false
namespace Go.Proofs.Yteakedikmaobfaa.storeApart
open Go.ChangeShapes Go.WideShapes Go.ChangeAt Go.RowKit
open Go.ChangeMaps (open_string shut_string)
set_option linter.unusedSimpArgs false
theorem own : ownKnob Try.prog.godebug = none := by kernel_rfl
theorem laidOut : laidOutB Try.prog = true := by kernel_rfl

set_option maxRecDepth 20000 in
set_option maxHeartbeats 1000000 in
theorem walk0 (n : Int) (v : Value) (l : List ActP) (v2 : Value) (l2 : List ActP) (w : World) (hn : (Lit.int .i64 n).wf = true) (hv : ActsV w v l) (hv2 : ActsV w v2 l2) (h : n < 1 ∨ 40 < n ∨ 40 < l.length ∨ 40 < l2.length) :
    Calls Try.prog 6 #[.int .i64 n, v, v2] w fun e w' => e = .returned (.bool true) ∧ Below w.heap.size w w' := by
  obtain ⟨ao, cap, rfl, h1, h2⟩ := hv.shape
  obtain ⟨ao2, cap2, rfl, h3, h4⟩ := hv2.shape
  have hn' := wf_i64 hn
  clear hv hv2 hn
  unfold maxLen at h2 h4
  by_cases c1 : n < 1
  · clear h
    go_enter Try.func6, Try.ntmps6
    go_wp2_with (go_at_call 8; refine (known_any _).mono ?_; rintro e w' ⟨rfl, hg⟩; have HG := Lib.hid hg; clear hg)
    go_ret
    exact ⟨rfl, HG.out⟩
  by_cases c2 : 40 < n
  · clear h
    go_enter Try.func6, Try.ntmps6
    go_wp2_with (go_at_call 8; refine (known_any _).mono ?_; rintro e w' ⟨rfl, hg⟩; have HG := Lib.hid hg; clear hg)
    go_ret
    exact ⟨rfl, HG.out⟩
  by_cases c3 : 40 < l.length
  · clear h
    go_enter Try.func6, Try.ntmps6
    go_wp2_with (go_at_call 8; refine (known_any _).mono ?_; rintro e w' ⟨rfl, hg⟩; have HG := Lib.hid hg; clear hg)
    go_ret
    exact ⟨rfl, HG.out⟩
  have c4 : 40 < l2.length := by omega
  clear h
  go_enter Try.func6, Try.ntmps6
  go_wp2_with (go_at_call 8; refine (known_any _).mono ?_; rintro e w' ⟨rfl, hg⟩; have HG := Lib.hid hg; clear hg)
  go_ret
  exact ⟨rfl, HG.out⟩

set_option maxRecDepth 20000 in
set_option maxHeartbeats 16000000 in
theorem walk1 (m : Nat) (v : Value) (l : List ActP) (v2 : Value) (l2 : List ActP) (w : World) (hv : ActsV w v l) (hv2 : ActsV w v2 l2) (hm1 : 1 ≤ m) (hm2 : m ≤ 40) (c1 : l.length ≤ 40) (c2 : l2.length ≤ 40) :
    Calls Try.prog 6 #[.int .i64 m, v, v2] w fun e w' => e = .returned (.bool true) ∧ Below w.heap.size w w' := by
  obtain ⟨ao, cap, rfl, h1, h2⟩ := hv.shape
  obtain ⟨ao2, cap2, rfl, h3, h4⟩ := hv2.shape
  have HV1 := Lib.hid hv
  have HV2 := Lib.hid hv2
  clear hv hv2
  unfold maxLen at h2 h4
  have HN1 := Lib.hid (new_any m w hm1 (by omega))
  have HN2 : Hid (∀ x, Calls Try.prog 15 #[.int .i64 m] x (SomeRNew x m)) := fun x => rnew_any m x hm1 (by omega)
  go_enter Try.func6, Try.ntmps6
  go_wp2_with fail
  refine HN1.out.mono ?_
  rintro e w1 ⟨P, g, rfl, hs, hgr, hP, hg⟩
  have HS1 := Lib.hid hs
  have HG1 := Lib.hid hgr
  have HPG : Hid (w.heap.size ≤ P ∧ w.heap.size ≤ g) := ⟨hP, hg⟩
  clear hs hgr hP hg
  go_wp2_with fail
  refine (HN2.out _).mono ?_
  rintro e w2 ⟨R, rfl, hr, hgr, q1, q2, q3⟩
  have HB := Lib.hid (both_new HS1.out HG1.out HPG.out.1 HPG.out.2 hr hgr q1 q2 q3)
  clear HS1 HG1 HPG hr hgr q1 q2 q3 HN1 HN2
  go_wp2_with fail
  go_loopw [10] (fun i wr => ∃ (j : Nat) (st : St), j ≤ l.length ∧ i = .int .i64 j ∧ Hid (Both w wr P g R st st) ∧ Hid (st.cells.length = m)) (fun i _ => l.length - (intOf i).toNat)
  case atStart => exact ⟨0, _, Nat.zero_le _, rfl, ⟨HB.out, (show (St.fresh m).cells.length = m by simp [St.fresh])⟩⟩
  case round =>
    obtain ⟨j, st, hj, rfl, HI, HLN⟩ := hrel
    by_cases hlt : j < l.length
    case neg =>
      have hjl : j = l.length := by omega
      subst hjl
      go_wp2_with fail
      obtain ⟨s0, rfl⟩ : ∃ s0 : St, s0 = st := ⟨_, rfl⟩
      have HB1 := HI
      have HLN0 := HLN
      clear HI HB
      refine (copy_any HB1.out.s).mono ?_
      rintro e w4 ⟨P2, g2, rfl, hs, hg4, q1, q2⟩
      have HC := Lib.hid hs
      have HCG : Hid (Grow wr w4 ∧ wr.heap.size ≤ P2 ∧ wr.heap.size ≤ g2) := ⟨hg4, q1, q2⟩
      have HRR := Lib.hid (HB1.out.grow hg4).r
      clear hs hg4 q1 q2
      go_wp2_with fail
      refine (rcopy_any HRR.out).mono ?_
      rintro e w5 ⟨R2, rfl, hr, hg5, q1, q2, q3⟩
      have HQ := Lib.hid (quad_copy HB1.out HC.out HCG.out.1 HCG.out.2.1 HCG.out.2.2 hr hg5 q1 q2 q3)
      clear hr hg5 q1 q2 q3 HC HCG HRR HB1
      have hnn : ∀ x : World, (binOp .eql 25 (.pointer (some ⟨P2, 0, none⟩)) (.pointer none)).run Try.prog x = .ok (.bool false) x := fun _ => by simp [go_sem]
      have HSA : Hid (Calls Try.prog 20 #[.pointer (some ⟨P2, 0, none⟩), .pointer (some ⟨P, 0, none⟩)] w5 fun e w' => e = .returned (.bool true) ∧ ∃ n, w' = w5.drewN n) := by
        have := same_any HQ.out.two.s HQ.out.one.s
        have e : sameB s0.cells s0.cells = true := by unfold sameB; exact decide_eq_true rfl
        rwa [e] at this
      go_wp2_with fail
      have hsa := HSA.out
      with_reducible refine hsa.mono ?_
      clear hsa
      rintro e w6 ⟨rfl, q, hq⟩
      have HQ6 : Hid (Quad w w6 P g R P2 g2 R2 s0 s0) := by subst hq; exact HQ.out.drewN q
      clear hq HSA HQ
      have HQ := HQ6
      clear HQ6
      go_wp2_with fail
      go_loopw [13] (fun i wr => ∃ (j : Nat) (st : St), j ≤ l2.length ∧ i = .int .i64 j ∧ Hid (Quad w wr P g R P2 g2 R2 st s0) ∧ Hid (st.cells.length = m)) (fun i _ => l2.length - (intOf i).toNat)
      case atStart => exact ⟨0, _, Nat.zero_le _, rfl, ⟨HQ.out, HLN.out⟩⟩
      case round =>
        obtain ⟨j, st, hj, rfl, HI, HLN⟩ := hrel
        by_cases hlt : j < l2.length
        case neg =>
          have hjl : j = l2.length := by omega
          subst hjl
          go_wp2_with fail
          have HQ3 := HI
          have HLS := HLN
          clear HI HQ HLN
          obtain ⟨s1, rfl⟩ : ∃ s1 : St, s1 = st := ⟨_, rfl⟩
          have HP0 : Hid (preB s1 s0 0 = true) := preB_zero _ _
          go_loopw [14, 15] (fun sm i wr => ∃ k : Nat, k ≤ m ∧ i = .int .i64 k ∧ sm = .bool (preB s1 s0 k) ∧ Hid (Quad w wr P g R P2 g2 R2 s1 s0)) (fun _ i _ => m - (intOf i).toNat)
          case atStart => exact ⟨0, Nat.zero_le _, rfl, congrArg Value.bool HP0.out.symm, HQ3.out⟩
          case round =>
            obtain ⟨k, hk, rfl, rfl, HI⟩ := hrel
            by_cases hkm : k < m
            case neg =>
              have hkn : k = m := by omega
              subst hkn
              have HSB : Hid (sameB s0.cells s1.cells = preB s1 s0 k) := preB_all HLS.out HLN0.out
              generalize preB s1 s0 k = sm at *
              have hnb : (sm != sm) = false := by simp
              go_wp2_with fail
              refine (bytes_any HI.out.two).mono ?_
              rintro e w7 ⟨rfl, hg⟩
              have HI7 := Lib.hid (HI.out.grow hg)
              clear hg HI
              go_wp2_with fail
              refine (bytes_any HI7.out.one).mono ?_
              rintro e w8 ⟨rfl, hg⟩
              have HI8 := Lib.hid (HI7.out.grow hg)
              clear hg HI7
              have HSA : Hid (Calls Try.prog 20 #[.pointer (some ⟨P2, 0, none⟩), .pointer (some ⟨P, 0, none⟩)] w8 fun e w' => e = .returned (.bool sm) ∧ ∃ n, w' = w8.drewN n) := by
                have := same_any HI8.out.two.s HI8.out.one.s
                rwa [HSB.out] at this
              go_wp2_with fail
              have hsa := HSA.out
              with_reducible refine hsa.mono ?_
              clear hsa
              rintro e w9 ⟨rfl, q, hq⟩
              have HI9 : Hid (Quad w w9 P g R P2 g2 R2 s1 s0) := by subst hq; exact HI8.out.drewN q
              clear hq HSA HI8
              go_wp2_with fail
              have HLT : Hid (∀ q, BOwn P2 g2 R2 q → q < w9.heap.size) := fun q hq => by
                obtain ⟨l1, l2, l3, l4, l5⟩ := HI9.out.two.lts
                simp only [BOwn, Own, ROwn] at hq; omega
              have HK4 : Hid (k ≤ 4096) := by have := HI9.out.two.s.le; rw [HLN0.out] at this; exact this
              obtain ⟨AZ, hAZ⟩ : ∃ AZ, ((List.replicate k (0 : Int)).map (Value.int .u8)).toArray = AZ := ⟨_, rfl⟩
              have HAZ := Lib.hid hAZ
              clear hAZ
              have HMK : Hid (∀ W : World, (Instr.makeSlice 29 (.int .i64 (k : Int)) (.int .i64 (k : Int))).run Try.prog W = .ok (.slice (some ⟨W.heap.size, 0, none⟩) k k) (W.alloc (.cells AZ 5))) := by
                obtain ⟨i0, hi, hz0, hz1, hz2⟩ := info_parts infoByte
                intro W
                have hk4 := HK4.out
                rw [run_make (P := Try.prog) W _ _ i0 (.int .u8 0) Try.underlying29 hi hz0 .i64 .i64 k k (by omega) (Int.le_refl _) (by rw [hz2]; omega) (by omega)]
                rw [hz1, Nat.mul_one, Int.toNat_natCast]
                have e := congrArg List.toArray (made_bytes k)
                simp only [Array.toArray_toList] at e
                show Result.ok _ (W.alloc (.cells (madeCells #[Value.int .u8 0] k) _)) = _
                rw [e, HAZ.out]
              have HQ9 : Hid (∀ w', GrowBut (BOwn P2 g2 R2) w9 w' → Below w.heap.size w w') := fun w' hg => below_but HI9.out.two.below hg HI9.out.two.low
              cases hdd : s0.dead
              · have HD := Lib.hid hdd
                have HLZ : Hid ((List.replicate k (0 : Int)).length = k) := by show List.length _ = _; simp
                clear hdd
                refine wp_region_grow 10 [3, 7] (BOwn P2 g2 R2) (fun x => Both w x P2 g2 R2 s0 s0) (by kernel_rfl) (by kernel_rfl) (by rfl) both_stay HI9.out.two ?_
                simp only [List.take_succ_cons, List.take_zero, List.drop_succ_cons, List.drop_zero]
                repeat (refine wpH_pure (by intro _ _ h; cases h) (by rfl) (by rfl) (fun K hK => ?_); go_simp; refine hK _ ?_; clear hK K)
                refine wpH_hid (fun u x => HeldB P2 g2 R2 x u (List.replicate k 0)) rfl (by rfl) (fun u x x' hg hh x2 hx2 => hh x2 (hg.trans hx2)) (fun xs => by rfl) (fun xs w' hg hf => ?_) ?_
                · clear hf
                  have hmk := HMK.out w'
                  have hne : ¬ BOwn P2 g2 R2 w'.heap.size := fun e => by
                    have h1 := HLT.out w'.heap.size e
                    have h2 := hg.size
                    omega
                  have hh := heldB_made (P := P2) (g := g2) (R := R2) (w := w') HK4.out hne
                  rw [HAZ.out] at hh
                  have HH := Lib.hid hh
                  clear hh hg hne
                  go_simp
                  exact ⟨HH.out, (Below.refl _ _).alloc (Nat.le_refl _) _⟩
                refine wpH_cdet (.int .i64 (wrRes s0 0 (List.replicate k 0))) (fun x => Both w x P2 g2 R2 (wrote s0 0 (List.replicate k 0)) s0) (by rfl) both_stay (fun xs => by rfl) (fun xs w' hg hc hf => ?_) ?_
                · have h1 := hf _ (List.Mem.head _) (by rfl); dsimp only at h1
                  clear hf
                  go_simp
                  refine (write_any hc.s 0 _ _ h1.held (by rw [HLZ.out, HLN0.out]; omega) HD.out).mono ?_
                  rintro e x2 ⟨rfl, hs, hg2⟩
                  exact ⟨_, rfl, rfl, growS hg2, hc.turnS hs hg2⟩
                repeat (refine wpH_pure (by intro _ _ h; cases h) (by rfl) (by rfl) (fun K hK => ?_); go_simp; refine hK _ ?_; clear hK K)
                refine wpH_hid (fun u x => HeldB P2 g2 R2 x u (List.replicate k 0)) rfl (by rfl) (fun u x x' hg hh x2 hx2 => hh x2 (hg.trans hx2)) (fun xs => by rfl) (fun xs w' hg hf => ?_) ?_
                · clear hf
                  have hmk := HMK.out w'
                  have hne : ¬ BOwn P2 g2 R2 w'.heap.size := fun e => by
                    have h1 := HLT.out w'.heap.size e
                    have h2 := hg.size
                    omega
                  have hh := heldB_made (P := P2) (g := g2) (R := R2) (w := w') HK4.out hne
                  rw [HAZ.out] at hh
                  have HH := Lib.hid hh
                  clear hh hg hne
                  go_simp
                  exact ⟨HH.out, (Below.refl _ _).alloc (Nat.le_refl _) _⟩
                refine wpH_cdet (.int .i64 (wrRes s0 0 (List.replicate k 0))) (fun x => Both w x P2 g2 R2 (wrote s0 0 (List.replicate k 0)) (wrote s0 0 (List.replicate k 0))) (by rfl) both_stay (fun xs => by rfl) (fun xs w' hg hc hf => ?_) ?_
                · have h1 := hf _ (List.Mem.head _) (by rfl); dsimp only at h1
                  clear hf
                  go_simp
                  refine (rwrite_any hc.r 0 _ _ h1.heldR (by rw [HLZ.out, HLN0.out]; omega) HD.out).mono ?_
                  rintro e x2 ⟨rfl, hs, hg2⟩
                  exact ⟨_, rfl, rfl, growR hg2, hc.turnR hs hg2⟩
                repeat (refine wpH_pure (by intro _ _ h; cases h) (by rfl) (by rfl) (fun K hK => ?_); go_simp; refine hK _ ?_; clear hK K)
                refine wpH_nil ?_
                intro xs wa hga hca _
                have HCA := Lib.hid hca
                clear hga hca
                simp only [fill]
                go_simp
                go_wp2_with fail
                refine (bytes_any HCA.out).mono ?_
                rintro e wb ⟨rfl, hg⟩
                have HBL := Lib.hid (HCA.out.grow hg).below
                clear hg HCA
                go_wp2_with (go_at_call 8; refine (known_any _).mono ?_; rintro e w' ⟨rfl, hg⟩; have HG := Lib.hid hg; clear hg)
                go_ret
                exact ⟨rfl, HBL.out.trans (Below.mono HG.out HBL.out.size)⟩
              · have HW : Hid (wrongOf s0 0 (List.replicate k (0 : Int)).length = 7) := by
                  show wrongOf s0 0 _ = 7
                  rw [inside_yes ⟨by omega, by omega, by rw [HLN0.out]; simp, by rw [HLN0.out]; simp⟩, hdd]; rfl
                clear hdd
                refine wp_region_grow 10 [3, 7] (BOwn P2 g2 R2) (fun x => Both w x P2 g2 R2 s0 s0) (by kernel_rfl) (by kernel_rfl) (by rfl) both_stay HI9.out.two ?_
                simp only [List.take_succ_cons, List.take_zero, List.drop_succ_cons, List.drop_zero]
                repeat (refine wpH_pure (by intro _ _ h; cases h) (by rfl) (by rfl) (fun K hK => ?_); go_simp; refine hK _ ?_; clear hK K)
                refine wpH_hid (fun u x => HeldB P2 g2 R2 x u (List.replicate k 0)) rfl (by rfl) (fun u x x' hg hh x2 hx2 => hh x2 (hg.trans hx2)) (fun xs => by rfl) (fun xs w' hg hf => ?_) ?_
                · clear hf
                  have hmk := HMK.out w'
                  have hne : ¬ BOwn P2 g2 R2 w'.heap.size := fun e => by
                    have h1 := HLT.out w'.heap.size e
                    have h2 := hg.size
                    omega
                  have hh := heldB_made (P := P2) (g := g2) (R := R2) (w := w') HK4.out hne
                  rw [HAZ.out] at hh
                  have HH := Lib.hid hh
                  clear hh hg hne
                  go_simp
                  exact ⟨HH.out, (Below.refl _ _).alloc (Nat.le_refl _) _⟩
                refine wpH_cdet (.int .i64 7) (fun x => Both w x P2 g2 R2 s0 s0) (by rfl) both_stay (fun xs => by rfl) (fun xs w' hg hc hf => ?_) ?_
                · have h1 := hf _ (List.Mem.head _) (by rfl); dsimp only at h1
                  clear hf
                  go_simp
                  have hb := write_bad hc.s _ _ (h1 w' (GrowBut.refl _ _)) 0 (by omega) (by rw [HW.out]; decide)
                  rw [HW.out] at hb
                  refine hb.mono ?_
                  rintro e x2 ⟨rfl, rfl⟩
                  exact ⟨_, rfl, rfl, GrowBut.refl _ _, hc⟩
                repeat (refine wpH_pure (by intro _ _ h; cases h) (by rfl) (by rfl) (fun K hK => ?_); go_simp; refine hK _ ?_; clear hK K)
                refine wpH_hid (fun u x => HeldB P2 g2 R2 x u (List.replicate k 0)) rfl (by rfl) (fun u x x' hg hh x2 hx2 => hh x2 (hg.trans hx2)) (fun xs => by rfl) (fun xs w' hg hf => ?_) ?_
                · clear hf
                  have hmk := HMK.out w'
                  have hne : ¬ BOwn P2 g2 R2 w'.heap.size := fun e => by
                    have h1 := HLT.out w'.heap.size e
                    have h2 := hg.size
                    omega
                  have hh := heldB_made (P := P2) (g := g2) (R := R2) (w := w') HK4.out hne
                  rw [HAZ.out] at hh
                  have HH := Lib.hid hh
                  clear hh hg hne
                  go_simp
                  exact ⟨HH.out, (Below.refl _ _).alloc (Nat.le_refl _) _⟩
                refine wpH_cdet (.int .i64 7) (fun x => Both w x P2 g2 R2 s0 s0) (by rfl) both_stay (fun xs => by rfl) (fun xs w' hg hc hf => ?_) ?_
                · have h1 := hf _ (List.Mem.head _) (by rfl); dsimp only at h1
                  clear hf
                  go_simp
                  have hb := rwrite_bad hc.r _ _ (h1 w' (GrowBut.refl _ _)) 0 (by omega) (by rw [HW.out]; decide)
                  rw [HW.out] at hb
                  refine hb.mono ?_
                  rintro e x2 ⟨rfl, rfl⟩
                  exact ⟨_, rfl, rfl, GrowBut.refl _ _, hc⟩
                repeat (refine wpH_pure (by intro _ _ h; cases h) (by rfl) (by rfl) (fun K hK => ?_); go_simp; refine hK _ ?_; clear hK K)
                refine wpH_nil ?_
                intro xs wa hga hca _
                have HCA := Lib.hid hca
                clear hga hca
                simp only [fill]
                go_simp
                go_wp2_with fail
                refine (bytes_any HCA.out).mono ?_
                rintro e wb ⟨rfl, hg⟩
                have HBL := Lib.hid (HCA.out.grow hg).below
                clear hg HCA
                go_wp2_with (go_at_call 8; refine (known_any _).mono ?_; rintro e w' ⟨rfl, hg⟩; have HG := Lib.hid hg; clear hg)
                go_ret
                exact ⟨rfl, HBL.out.trans (Below.mono HG.out HBL.out.size)⟩
            case pos =>
              obtain ⟨cb, cu, ⟨hcb, hcu⟩, c0, c1, _⟩ := HI.out.one.r.cellsP
              obtain ⟨db, du, ⟨hdb, hdu⟩, d0, d1, _⟩ := HI.out.two.r.cellsP
              obtain ⟨x0, x1, _, _⟩ := HI.out.one.r.cellsR k (by rw [HLS.out]; exact hkm)
              obtain ⟨y0, y1, _, _⟩ := HI.out.two.r.cellsR k (by rw [HLN0.out]; exact hkm)
              rw [HLS.out] at c0 c1
              rw [HLN0.out] at d0 d1
              have HNX : Hid (preB s1 s0 (k + 1) = (preB s1 s0 k && decide (s1.cells.getD k (0, false) = s0.cells.getD k (0, false)))) := preB_next (by rw [HLS.out]; exact hkm) (by rw [HLN0.out]; exact hkm)
              have hk1 : (k : Int) < (m : Int) := by omega
              obtain ⟨X, hX⟩ : ∃ X, s1.cells.getD k (0, false) = X := ⟨_, rfl⟩
              obtain ⟨Y, hY⟩ : ∃ Y, s0.cells.getD k (0, false) = Y := ⟨_, rfl⟩
              rw [hX] at x0 x1 HNX
              rw [hY] at y0 y1 HNX
              clear hX hY hcb hcu hdb hdu
              obtain ⟨X1, X2⟩ := X
              obtain ⟨Y1, Y2⟩ := Y
              dsimp only at x0 x1 y0 y1
              cases hpk : preB s1 s0 k
              · rw [hpk] at HNX
                have HN : Hid (preB s1 s0 (k + 1) = false) := HNX.out
                clear HNX hpk
                go_wp2_with fail
                go_quiet (fail)
                go_wp2_with fail
                exact ⟨⟨k + 1, by omega, by go_num, congrArg Value.bool HN.out.symm, HI.out.drewN _⟩, by simp [intOf]; omega⟩
              · rw [hpk] at HNX
                clear hpk
                by_cases h1 : X1 = Y1
                · by_cases h2 : X2 = Y2
                  · have HN : Hid (preB s1 s0 (k + 1) = true) := by show preB _ _ _ = true; rw [HNX.out, h1, h2]; simp
                    have e1 : (X1 == Y1) = true := by simpa using h1
                    have e2 : (X2 == Y2) = true := by simpa using h2
                    clear HNX h1 h2
                    go_wp2_with fail
                    go_quiet (fail)
                    go_wp2_with fail
                    exact ⟨⟨k + 1, by omega, by go_num, congrArg Value.bool HN.out.symm, HI.out.drewN _⟩, by simp [intOf]; omega⟩
                  · have HN : Hid (preB s1 s0 (k + 1) = false) := by show preB _ _ _ = false; rw [HNX.out]; simp [h2]
                    have e1 : (X1 == Y1) = true := by simpa using h1
                    have e2 : (X2 == Y2) = false := by simpa using h2
                    clear HNX h1 h2
                    go_wp2_with fail
                    go_quiet (fail)
                    go_wp2_with fail
                    exact ⟨⟨k + 1, by omega, by go_num, congrArg Value.bool HN.out.symm, HI.out.drewN _⟩, by simp [intOf]; omega⟩
                · have HN : Hid (preB s1 s0 (k + 1) = false) := by show preB _ _ _ = false; rw [HNX.out]; simp [h1]
                  have e1 : (X1 == Y1) = false := by simpa using h1
                  clear HNX h1
                  go_wp2_with fail
                  go_quiet (fail)
                  go_wp2_with fail
                  exact ⟨⟨k + 1, by omega, by go_num, congrArg Value.bool HN.out.symm, HI.out.drewN _⟩, by simp [intOf]; omega⟩
        case pos =>
          obtain ⟨b, off, cp, e1, _, _, hall⟩ := HV2.out.solid (fun h => by rw [h] at hlt; simp at hlt)
          injection e1 with e1 _ e2
          subst e1; subst e2
          obtain ⟨hok, hc⟩ := hall j hlt
          obtain ⟨x, hx⟩ : ∃ x, l2.getD j .zero = x := ⟨_, rfl⟩
          rw [hx] at hok hc
          clear hall hx
          have HOK := Lib.hid hok
          obtain ⟨kd, at', nn, by', un, vv, zs⟩ := x
          obtain ⟨ao3, cap3, hvv, hz1, hz2⟩ := hok.bytes.shape
          dsimp only at hvv hz1 hz2
          subst hvv
          unfold maxLen at hz2
          have bc : ∀ k u, (ActP.cells ⟨kd, at', nn, by', un, .slice ao3 zs.length cap3, zs⟩)[k]? = some u → wr.cell? ⟨b, off + j * 6 + k, none⟩ = some u := fun k u h => (HI.out.one.below.cell (block_lt (hc k u h))).trans (hc k u h)
          have b0 : wr.cell? ⟨b, off + j * 6, none⟩ = some (.int .i64 kd) := bc 0 _ rfl
          have b1 : wr.cell? ⟨b, off + j * 6 + 1, none⟩ = some (.int .i64 at') := bc 1 _ rfl
          have b2 : wr.cell? ⟨b, off + j * 6 + 2, none⟩ = some (.int .i64 nn) := bc 2 _ rfl
          have b3 : wr.cell? ⟨b, off + j * 6 + 3, none⟩ = some (.int .u8 by') := bc 3 _ rfl
          have b4 : wr.cell? ⟨b, off + j * 6 + 4, none⟩ = some (.bool un) := bc 4 _ rfl
          have b5 : wr.cell? ⟨b, off + j * 6 + 5, none⟩ = some (.slice ao3 zs.length cap3) := bc 5 _ rfl
          clear bc hok hc
          have HDO : Hid (Calls Try.prog 16 #[.pointer (some ⟨P, 0, none⟩), .pointer (some ⟨R.p, 0, none⟩), .agg #[.int .i64 kd, .int .i64 at', .int .i64 nn, .int .u8 by', .bool un, .slice ao3 zs.length cap3]] wr (DoneAct w P g R (doSt st ⟨kd, at', nn, by', un, .slice ao3 zs.length cap3, zs⟩) wr)) := do_any HI.out.one ⟨kd, at', nn, by', un, .slice ao3 zs.length cap3, zs⟩ HOK.out
          by_cases hl : 100 < zs.length
          · go_wp2_with (go_at_call 8; refine (known_any _).mono ?_; rintro e w' ⟨rfl, hg⟩; have HG := Lib.hid hg; clear hg)
            go_ret
            exact ⟨rfl, HI.out.one.below.trans (Below.mono HG.out HI.out.one.below.size)⟩
          · go_wp2_with fail
            have hdo := HDO.out
            with_reducible refine hdo.mono ?_
            clear hdo
            rintro e w3 ⟨rfl, hb, hg3⟩
            have HI3 : Hid (Quad w w3 P g R P2 g2 R2 (doSt st ⟨kd, at', nn, by', un, .slice ao3 zs.length cap3, zs⟩) s0) := HI.out.turn1 hb hg3
            have HLN3 : Hid ((doSt st ⟨kd, at', nn, by', un, .slice ao3 zs.length cap3, zs⟩).cells.length = m) := (doSt_length _ _).trans HLN.out
            clear hb hg3 b0 b1 b2 b3 b4 b5 HDO
            go_wp2_with fail
            exact ⟨⟨j + 1, _, by omega, by go_num, HI3.out, HLN3.out⟩, by simp [intOf]; omega⟩
    case pos =>
      obtain ⟨b, off, cp, e1, _, _, hall⟩ := HV1.out.solid (fun h => by rw [h] at hlt; simp at hlt)
      injection e1 with e1 _ e2
      subst e1; subst e2
      obtain ⟨hok, hc⟩ := hall j hlt
      obtain ⟨x, hx⟩ : ∃ x, l.getD j .zero = x := ⟨_, rfl⟩
      rw [hx] at hok hc
      clear hall hx
      have HOK := Lib.hid hok
      obtain ⟨kd, at', nn, by', un, vv, zs⟩ := x
      obtain ⟨ao3, cap3, hvv, hz1, hz2⟩ := hok.bytes.shape
      dsimp only at hvv hz1 hz2
      subst hvv
      unfold maxLen at hz2
      have bc : ∀ k u, (ActP.cells ⟨kd, at', nn, by', un, .slice ao3 zs.length cap3, zs⟩)[k]? = some u → wr.cell? ⟨b, off + j * 6 + k, none⟩ = some u := fun k u h => (HI.out.below.cell (block_lt (hc k u h))).trans (hc k u h)
      have b0 : wr.cell? ⟨b, off + j * 6, none⟩ = some (.int .i64 kd) := bc 0 _ rfl
      have b1 : wr.cell? ⟨b, off + j * 6 + 1, none⟩ = some (.int .i64 at') := bc 1 _ rfl
      have b2 : wr.cell? ⟨b, off + j * 6 + 2, none⟩ = some (.int .i64 nn) := bc 2 _ rfl
      have b3 : wr.cell? ⟨b, off + j * 6 + 3, none⟩ = some (.int .u8 by') := bc 3 _ rfl
      have b4 : wr.cell? ⟨b, off + j * 6 + 4, none⟩ = some (.bool un) := bc 4 _ rfl
      have b5 : wr.cell? ⟨b, off + j * 6 + 5, none⟩ = some (.slice ao3 zs.length cap3) := bc 5 _ rfl
      clear bc hok hc
      have HDO : Hid (Calls Try.prog 16 #[.pointer (some ⟨P, 0, none⟩), .pointer (some ⟨R.p, 0, none⟩), .agg #[.int .i64 kd, .int .i64 at', .int .i64 nn, .int .u8 by', .bool un, .slice ao3 zs.length cap3]] wr (DoneAct w P g R (doSt st ⟨kd, at', nn, by', un, .slice ao3 zs.length cap3, zs⟩) wr)) := do_any HI.out ⟨kd, at', nn, by', un, .slice ao3 zs.length cap3, zs⟩ HOK.out
      by_cases hl : 100 < zs.length
      · go_wp2_with (go_at_call 8; refine (known_any _).mono ?_; rintro e w' ⟨rfl, hg⟩; have HG := Lib.hid hg; clear hg)
        go_ret
        exact ⟨rfl, HI.out.below.trans (Below.mono HG.out HI.out.below.size)⟩
      · go_wp2_with fail
        have hdo := HDO.out
        with_reducible refine hdo.mono ?_
        clear hdo
        rintro e w3 ⟨rfl, hb, hg3⟩
        have HI3 : Hid (Both w w3 P g R (doSt st ⟨kd, at', nn, by', un, .slice ao3 zs.length cap3, zs⟩) (doSt st ⟨kd, at', nn, by', un, .slice ao3 zs.length cap3, zs⟩)) := hb
        have HLN3 : Hid ((doSt st ⟨kd, at', nn, by', un, .slice ao3 zs.length cap3, zs⟩).cells.length = m) := (doSt_length _ _).trans HLN.out
        clear hb hg3 b0 b1 b2 b3 b4 b5 HDO
        go_wp2_with fail
        exact ⟨⟨j + 1, _, by omega, by go_num, HI3.out, HLN3.out⟩, by simp [intOf]; omega⟩

theorem walk (n : Int) (v : Value) (l : List ActP) (v2 : Value) (l2 : List ActP) (w : World) (hn : (Lit.int .i64 n).wf = true) (hv : ActsV w v l) (hv2 : ActsV w v2 l2) :
    Calls Try.prog 6 #[.int .i64 n, v, v2] w fun e w' => e = .returned (.bool true) ∧ Below w.heap.size w w' := by
  by_cases h : n < 1 ∨ 40 < n ∨ 40 < l.length ∨ 40 < l2.length
  · exact walk0 n v l v2 l2 w hn hv hv2 h
  · obtain ⟨m, rfl⟩ : ∃ m : Nat, n = m := ⟨n.toNat, by omega⟩
    exact walk1 m v l v2 l2 w hv hv2 (by omega) (by omega) (by omega) (by omega)


set_option maxRecDepth 100000 in
theorem lifted (os : Os) (started : os.Started) (H : Type) (enc : TypeId × Value → H) :
    ReturnsInHanded {} Try.checked os 6 .any (Rows.storeApartSpec.pre6 enc Try.prog Try.f6 Rows.storeApartRow.domain false) (Rows.storeApartSpec.post enc Try.prog Try.f6 false true false false) := by
  refine returnsInHanded_of_change (C := Try.checked) own started (by kernel_rfl) Try.func6
    (ChangeSpec.witness6 (enc := enc) (C := Try.checked) false ⟨#[], #[.int .i64 0, .slice none 0 0, .slice none 0 0], []⟩ 8 (by kernel_rfl) (by kernel_rfl) (by kernel_rfl) (by kernel_rfl)) ?_
  intro W base args ds gs before hval0 hW hcnd _
  have hval : ∀ (j : Nat) t v, Try.f6.params[j]? = some t → args[j]? = some v → Value.okWide Try.prog W .any base t v := hval0
  have hW' := hW
  obtain ⟨p, q, hA0, hV, rfl, hfz, hnd⟩ := hW
  have hA : DataW.TrodAll enc Try.prog W 0 (fun _ => true) true Try.f6.params.toList args.toList ds p := hA0
  rw [Try.params6] at hA hval
  obtain ⟨v0, vs0, d0, ds0, p0, q0, hargs, rfl, rfl, h0, r0⟩ := trodAll_cons hA
  obtain ⟨v1, vs1, d1, ds1, p1, q1, rfl, rfl, rfl, h1, r1⟩ := trodAll_cons r0
  obtain ⟨v2, vs2, d2, ds2, p2, q2, rfl, rfl, rfl, h2, r2⟩ := trodAll_cons r1
  obtain ⟨rfl, rfl, rfl⟩ := trodAll_nil r2
  obtain rfl : args = #[v0, v1, v2] := by cases args; simp_all
  obtain ⟨rfl, rfl⟩ := trodVars_none hV
  have k0 := h0
  have lt0 : ∀ x ∈ p0, x.block < W.heap.size := by obtain ⟨m, hm⟩ := k0; exact DataW.trod_lt m _ _ _ hm
  have k1 := h1
  have lt1 : ∀ x ∈ p1, x.block < W.heap.size := by obtain ⟨m, hm⟩ := k1; exact DataW.trod_lt m _ _ _ hm
  have k2 := h2
  have lt2 : ∀ x ∈ p2, x.block < W.heap.size := by obtain ⟨m, hm⟩ := k2; exact DataW.trod_lt m _ _ _ hm
  obtain ⟨a0, rfl, e0, f0, w0⟩ := open_int Try.underlying3 (hval 0 3 v0 rfl rfl) h0
  obtain ⟨z1, w1⟩ : ∃ l, ActsV W v1 l := open_acts (hval 1 36 v1 rfl rfl) h1
  obtain ⟨z2, w2⟩ : ∃ l, ActsV W v2 l := open_acts (hval 2 36 v2 rfl rfl) h2
  clear hA0 hval0
  refine (walk a0 v1 z1 v2 z2 W w0 w1 w2).mono fun e W' ⟨he, bel⟩ => ?_
  subst he
  exact ⟨_, rfl, _, _, _, [], _, [], hW', trodAll_mk1 (shut_bool Try.underlying4 _), (trodAll_cons_mk (Below.trod laidOut (by kernel_rfl) (of_decide_eq_true (by kernel_rfl)) k0 bel lt0) (trodAll_cons_mk (Below.trod laidOut (by kernel_rfl) (of_decide_eq_true (by kernel_rfl)) k1 bel lt1) (trodAll_cons_mk (Below.trod laidOut (by kernel_rfl) (of_decide_eq_true (by kernel_rfl)) k2 bel lt2) trodAll_mk0))), rfl, bel.frame _, fun h => by cases h⟩

theorem over : Rows.storeApartRow.holds Try.pinned (OpenSpec.ofChange Rows.storeApartSpec) :=
  OpenClaim.holds_of_wide 6 Try.f6 rfl rfl rfl rfl rfl rfl rfl ⟨rfl, rfl, rfl, rfl, rfl⟩ rfl rfl rfl rfl rfl (by kernel_rfl) Try.func6 (by kernel_rfl)
    (of_decide_eq_true (by kernel_rfl)) (by unfold Func.isWrapper; first | (rw [if_pos (by decide +kernel)]; kernel_rfl) | (rw [if_neg (by decide +kernel)]; exact ⟨rfl, rfl⟩))
    (fun os started H enc _ => lifted os started H enc)

/-- The statement. -/
theorem proved : Rows.StoreApartSaid := over
end Go.Proofs.Yteakedikmaobfaa.storeApart
