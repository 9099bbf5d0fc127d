/- A beginning, and a count, on a store of any bytes, some of which cannot be read, and what is refused; and all bytes behind it; at most 60 bytes. -/
import Derived.Test.YtajmfgadbphjbaaRows
import Derived.Test.YtajmfgadbphjbaaBoKnown
import Derived.Test.YtajmfgadbphjbaaBoRBegin
import Derived.Test.YtajmfgadbphjbaaStOne
import Derived.Test.YtajmfgadbphjbaaBoOpen
import Derived.WalkKit
import Derived.ProofKit
import Derived.OpenShut
import Derived.ShutString
import Derived.ChangeOld
import Derived.Below
import Derived.Outline
set_option linter.unusedVariables false
namespace Go.Proofs.Ytajmfgadbphjbaa.bootPlays
open Go.ChangeShapes Go.WideShapes Go.ChangeAt Go.RowKit
open Go.ChangeMaps (open_string shut_string)
set_option linter.unusedSimpArgs false
theorem own : ownKnob Try.prog.godebug = none := by kernel_rfl
theorem laidOut : laidOutB Try.prog = true := by kernel_rfl

theorem same_left {F : Nat} {args : Array Value} {w : World} {Q : Ending → Prop} (h : Calls Try.prog F args w fun e w' => Q e ∧ w = w') : Calls Try.prog F args w fun e w' => Q e ∧ w' = w :=
  h.mono fun e w' ⟨a, b⟩ => ⟨a, b.symm⟩

set_option maxRecDepth 100000 in
theorem out (v : Value) (zs : List Int) (v1 : Value) (n y : Int) (un : Bool) (w : World) (hv : BytesV w v zs) (h : zs.length < 1 ∨ 60 < zs.length) :
    Calls Try.prog 6 #[v, v1, .agg #[.int .i64 n, .int .u8 y, .bool un]] w fun e w' => e = .returned (.bool true) ∧ Below w.heap.size w w' := by
  obtain ⟨ao, cap, rfl, hl, hm⟩ := hv.shape
  clear hv
  unfold maxLen at hm
  have HW : Hid (Grow w (w.alloc (.cells #[.int .i64 n, .int .u8 y, .bool un] 42))) := (Grow.refl w).alloc _
  generalize zs.length = m at *
  rcases h with h | h
  all_goals
    go_enter Try.func6, Try.ntmps6
    go_wp2_with fail
    refine (known_any _).mono ?_
    rintro e w' ⟨rfl, hg⟩
    have HG := Lib.hid (HW.out.trans hg)
    clear hg
    go_wp2_with fail
    go_ret
    exact ⟨rfl, HG.out⟩

theorem why_dead {st : St} (hd : (beginSt st).dead = true) (h0 : st.dead = false) : whyOf (beginSt st) = 7 := by
  have hl : ¬ st.cells.length < 32 := by
    intro hl
    have : beginSt st = st := by unfold beginSt; rw [if_neg (fun hh => by have := hh.1; unfold whyOf at this; rw [if_pos hl] at this; omega)]
    rw [this, h0] at hd
    cases hd
  have hlen : (beginSt st).cells.length = st.cells.length := by
    unfold beginSt
    split
    · exact wrote_length' _ _ _
    · rfl
  unfold whyOf
  rw [hlen, if_neg hl, if_pos hd]
theorem begin_length (st : St) : (beginSt st).cells.length = st.cells.length := by
  unfold beginSt
  split
  · exact wrote_length' _ _ _
  · rfl

set_option maxRecDepth 100000 in
set_option maxHeartbeats 8000000 in
theorem main (b off cap : Nat) (zs : List Int) (v1 : Value) (us : List Bool) (n y : Int) (un : Bool) (w : World) (hv : BytesV w (.slice (some ⟨b, off, none⟩) zs.length cap) zs) (hc1 : zs.length ≤ cap) (hc2 : cap ≤ maxLen)
    (hl1 : 1 ≤ zs.length) (hl2 : zs.length ≤ 60) (hb : BoolsV w v1 us) (hn : -9223372036854775808 ≤ n ∧ n ≤ 9223372036854775807) (hy : 0 ≤ y ∧ y < 256) :
    Calls Try.prog 6 #[.slice (some ⟨b, off, none⟩) zs.length cap, v1, .agg #[.int .i64 n, .int .u8 y, .bool un]] w fun e w' => e = .returned (.bool true) ∧ Below w.heap.size w w' := by
  unfold maxLen at hc2
  obtain ⟨wA, hwA⟩ : ∃ x, w.alloc (.cells #[.int .i64 n, .int .u8 y, .bool un] 42) = x := ⟨_, rfl⟩
  have HWA : Hid (Grow w wA) := by rw [← hwA]; exact (Grow.refl w).alloc _
  have HA := Lib.hid hwA
  have HV : Hid (∀ i, i < zs.length → wA.cell? ⟨b, off + i, none⟩ = some (.int .u8 (zs.getD i 0))) := fun i hi => (HWA.out.cell (block_lt (hv.2.cells i hi))).trans (hv.2.cells i hi)
  have HZ := Lib.hid hv.1
  have HL : Hid (wA.cell? ⟨w.heap.size, 0, none⟩ = some (.int .i64 n) ∧ wA.cell? ⟨w.heap.size, 1, none⟩ = some (.int .u8 y) ∧ wA.cell? ⟨w.heap.size, 2, none⟩ = some (.bool un)) := by
    rw [← hwA]
    exact ⟨cell_new w [.int .i64 n, .int .u8 y, .bool un] 42 0 _ rfl, cell_new w [.int .i64 n, .int .u8 y, .bool un] 42 1 _ rfl, cell_new w [.int .i64 n, .int .u8 y, .bool un] 42 2 _ rfl⟩
  have HU : Hid (∀ i, i < us.length → ∃ b1 off1 cap1, v1 = .slice (some ⟨b1, off1, none⟩) us.length cap1 ∧ us.length ≤ cap1 ∧ cap1 ≤ maxLen ∧ wA.cell? ⟨b1, off1 + i, none⟩ = some (.bool (us.getD i false))) := fun i hi => by
    obtain ⟨b1, off1, cap1, e, h1, h2, h3⟩ := hb.cell hi
    exact ⟨b1, off1, cap1, e, h1, h2, (HWA.out.cell (block_lt h3)).trans h3⟩
  obtain ⟨ao1, cap1, rfl, hu1, hu2⟩ := hb.shape
  unfold maxLen at hu2
  clear hv hb hwA
  generalize us.length = p at *
  generalize hm : zs.length = m at *
  have HN := Lib.hid hn
  have HY := Lib.hid hy
  have HNB : Hid (∀ s : St, beginErr s = beginErr s) := fun _ => rfl
  clear hm hn hy
  go_enter Try.func6, Try.ntmps6
  go_wp2_with fail
  refine (new_any m _ (by omega) (by omega)).mono ?_
  rintro e w1 ⟨P, g, rfl, hs, hgr, hP, hg⟩
  rw [HA.out] at hgr hP hg
  have HS := Lib.hid hs
  have HG1 := Lib.hid hgr
  have HP : Hid (wA.heap.size ≤ P ∧ wA.heap.size ≤ g) := ⟨hP, hg⟩
  clear hs hgr hP hg
  go_wp2_with fail
  refine (rnew_any m _ (by omega) (by omega)).mono ?_
  rintro e w2 ⟨R, rfl, hr, hgr2, hp, hb, hu⟩
  obtain ⟨st0, hst0⟩ : ∃ s, St.fresh m = s := ⟨_, rfl⟩
  have HB2 : Hid (Both wA w2 P g R st0 st0 ∧ st0.cells.length = m ∧ st0.dead = false) := by
    rw [← hst0]
    have h1 := HS.out.ltP
    have h2 := HS.out.ltG
    have h3 := HG1.out.size
    exact ⟨⟨HS.out.stay (M := fun _ => False) (GrowBut.of_below hgr2) (fun h => h) (fun h => h), hr, HG1.out.trans hgr2, HP.out.1, HP.out.2, by omega, by omega, by omega, ⟨by omega, by omega, by omega⟩, by omega, by omega, by omega⟩, by simp [St.fresh], rfl⟩
  clear hr hgr2 hp hb hu hst0 HS HG1 HP
  go_wp2_with fail
  go_loopw [10] (fun i wr => ∃ (k : Nat) (st : St), k ≤ m ∧ i = .int .i64 k ∧ Hid (Both wA wr P g R st st) ∧ Hid (st.cells.length = m ∧ st.dead = false)) (fun i _ => m - (intOf i).toNat)
  case atStart => exact ⟨0, st0, Nat.zero_le _, rfl, HB2.out.1, HB2.out.2⟩
  case round =>
    clear HB2
    obtain ⟨k, st, hk, rfl, HI, HQ⟩ := hrel
    by_cases hlt : k < m
    · obtain ⟨x, hx0⟩ : ∃ x, zs.getD k 0 = x := ⟨_, rfl⟩
      have hx := HZ.out.getD k
      have hva := HV.out k hlt
      rw [hx0] at hva hx
      have HVA := Lib.hid hva
      have hbk := block_lt hva
      have hbc := (HI.out.below.cell hbk).trans hva
      have hk1 : (k : Int) < (m : Int) := by omega
      have hk2 : decide ((m : Int) ≤ (k : Int)) = false := by simp; omega
      clear hx0 hva
      by_cases hku : k < p
      · obtain ⟨b1, off1, cap1', e, hq1, hq2, hua⟩ := HU.out k hku
        injection e with e1 e2 e3
        subst e1
        subst e3
        have huc := (HI.out.below.cell (block_lt hua)).trans hua
        obtain ⟨U, hU⟩ : ∃ U, us.getD k false = U := ⟨_, rfl⟩
        rw [hU] at huc
        have hkp : (k : Int) < (p : Int) := by omega
        clear hU hua e2 hq1 hq2
        go_wp2_with fail
        refine (spoil_any HI.out.s k x U (by rw [HQ.out.1]; exact hlt) hx).mono ?_
        rintro e w3 ⟨rfl, hs, hg⟩
        have HB3 := Lib.hid (HI.out.turnS hs hg)
        have hbc3 := (HB3.out.below.cell hbk).trans HVA.out
        obtain ⟨cb, cu, ⟨hcb, hcu⟩, c0, c1, c2, c3, c4, c5, hf⟩ := HB3.out.r.cellsP
        obtain ⟨g0, g1, gf0, gf1⟩ := HB3.out.r.cellsR k (by rw [HQ.out.1]; exact hlt)
        rw [HQ.out.1] at c0 c1 hcb hcu
        have q1 := HB3.out.r.ne1
        have q2 := HB3.out.r.ne2
        have q3 := HB3.out.r.ne3
        have HFin : Hid (Both wA (((w3.setCell ⟨R.b, k, none⟩ (.int .u8 x)).setCell ⟨R.u, k, none⟩ (.bool U)).drew) P g R { st with cells := st.cells.set k (x, U) } { st with cells := st.cells.set k (x, U) }) := by
          have hr := HB3.out.r.putR k x U (by rw [HQ.out.1]; exact hlt) hx
          have hgr : GrowBut (ROwn R) w3 ((w3.setCell ⟨R.b, k, none⟩ (.int .u8 x)).setCell ⟨R.u, k, none⟩ (.bool U)) := ((GrowBut.refl _ _).setCell (Or.inr (Or.inl rfl)) _).setCell (Or.inr (Or.inr rfl)) _
          exact (HB3.out.turnR hr hgr).drew
        have HQ' : Hid ((st.cells.set k (x, U)).length = m ∧ st.dead = false) := ⟨by rw [List.length_set]; exact HQ.out.1, HQ.out.2⟩
        clear c2 c3 c4 c5 hf hs hg HI hbc hbk
        go_wp2_with fail
        go_region
        go_wp2_with fail
        exact ⟨⟨k + 1, { st with cells := st.cells.set k (x, U) }, by omega, by go_num, HFin.out, HQ'.out⟩, by simp [intOf]; omega⟩
      · have hkp : (p : Int) ≤ (k : Int) := by omega
        go_wp2_with fail
        refine (spoil_any HI.out.s k x false (by rw [HQ.out.1]; exact hlt) hx).mono ?_
        rintro e w3 ⟨rfl, hs, hg⟩
        have HB3 := Lib.hid (HI.out.turnS hs hg)
        have hbc3 := (HB3.out.below.cell hbk).trans HVA.out
        obtain ⟨cb, cu, ⟨hcb, hcu⟩, c0, c1, c2, c3, c4, c5, hf⟩ := HB3.out.r.cellsP
        obtain ⟨g0, g1, gf0, gf1⟩ := HB3.out.r.cellsR k (by rw [HQ.out.1]; exact hlt)
        rw [HQ.out.1] at c0 c1 hcb hcu
        have q1 := HB3.out.r.ne1
        have q2 := HB3.out.r.ne2
        have q3 := HB3.out.r.ne3
        have HFin : Hid (Both wA (((w3.setCell ⟨R.b, k, none⟩ (.int .u8 x)).setCell ⟨R.u, k, none⟩ (.bool false)).drew) P g R { st with cells := st.cells.set k (x, false) } { st with cells := st.cells.set k (x, false) }) := by
          have hr := HB3.out.r.putR k x false (by rw [HQ.out.1]; exact hlt) hx
          have hgr : GrowBut (ROwn R) w3 ((w3.setCell ⟨R.b, k, none⟩ (.int .u8 x)).setCell ⟨R.u, k, none⟩ (.bool false)) := ((GrowBut.refl _ _).setCell (Or.inr (Or.inl rfl)) _).setCell (Or.inr (Or.inr rfl)) _
          exact (HB3.out.turnR hr hgr).drew
        have HQ' : Hid ((st.cells.set k (x, false)).length = m ∧ st.dead = false) := ⟨by rw [List.length_set]; exact HQ.out.1, HQ.out.2⟩
        clear c2 c3 c4 c5 hf hs hg HI hbc hbk
        go_wp2_with fail
        go_region
        go_wp2_with fail
        exact ⟨⟨k + 1, { st with cells := st.cells.set k (x, false) }, by omega, by go_num, HFin.out, HQ'.out⟩, by simp [intOf]; omega⟩
    · obtain rfl : k = m := by omega
      have HH := HI.out.r.le
      go_wp2_with fail
      refine (copy_any HI.out.s).mono ?_
      rintro e w3 ⟨P2, g2, rfl, hs2, hg3, hP2, hg2⟩
      have HC2 := Lib.hid hs2
      have HB3 := Lib.hid (HI.out.grow hg3)
      clear hs2 hg3 hP2 hg2 HI
      go_wp2_with fail
      refine (count_any HB3.out.s).mono ?_
      rintro e w4 ⟨rfl, hg4⟩
      have HC4 : Hid (StoreV w4 P2 g2 st) := HC2.out.stay (M := fun _ => False) (GrowBut.of_below hg4) (fun h => h) (fun h => h)
      have HB4 := Lib.hid (HB3.out.grow hg4)
      clear hg4 HB3 HC2
      go_wp2_with fail
      refine (rcount_any HB4.out.r).mono ?_
      rintro e w5 ⟨rfl, hg5⟩
      have HC5 : Hid (StoreV w5 P2 g2 st) := HC4.out.stay (M := fun _ => False) (GrowBut.of_below hg5) (fun h => h) (fun h => h)
      have HB5 := Lib.hid (HB4.out.grow hg5)
      have hsm := same_any HC5.out HB5.out.s
      rw [show sameB st.cells st.cells = true from decide_eq_true rfl] at hsm
      have HSM := Lib.hid hsm
      clear hg5 HB4 HC4 hsm
      generalize cntOf st = c1 at *
      generalize whyOf st = e1 at *
      go_wp2_with fail
      refine HSM.out.mono ?_
      rintro e w6 ⟨rfl, q, rfl⟩
      have HB6 := Lib.hid (HB5.out.drewN q)
      have l0 := (HB6.out.below.cell (block_lt HL.out.1)).trans HL.out.1
      have l1 := (HB6.out.below.cell (block_lt HL.out.2.1)).trans HL.out.2.1
      have l2 := (HB6.out.below.cell (block_lt HL.out.2.2)).trans HL.out.2.2
      clear HSM HB5 HC5
      generalize w5.drewN q = w6 at *
      go_wp2_with fail
      refine (fuse_any HB6.out.s n y un HN.out HY.out).mono ?_
      rintro e w7 ⟨rfl, hs7, hg7⟩
      obtain ⟨st2, hst2⟩ : ∃ s, ({ st with fuse := max n (-1), tb := y, tu := un } : St) = s := ⟨_, rfl⟩
      rw [hst2] at hs7
      have HT2 := Lib.hid hst2
      have HB7 := Lib.hid (HB6.out.turnS hs7 hg7)
      clear hs7 hg7 l0 l1 l2 HB6 hst2
      have l0 := (HB7.out.below.cell (block_lt HL.out.1)).trans HL.out.1
      have l1 := (HB7.out.below.cell (block_lt HL.out.2.1)).trans HL.out.2.1
      have l2 := (HB7.out.below.cell (block_lt HL.out.2.2)).trans HL.out.2.2
      go_wp2_with fail
      refine (rfuse_any HB7.out.r n y un HN.out HY.out).mono ?_
      rintro e w8 ⟨rfl, hr8, hg8⟩
      rw [HT2.out] at hr8
      have HB8 := Lib.hid (HB7.out.turnR hr8 hg8)
      have HD2 : Hid (st2.dead = false ∧ st2.cells.length = k) := by rw [← HT2.out]; exact ⟨HQ.out.2, HQ.out.1⟩
      clear hr8 hg8 l0 l1 l2 HB7 HT2
      go_wp2_with fail
      refine (begin_any HB8.out.s).mono ?_
      rintro e w9 ⟨rfl, hs9, hg9⟩
      obtain ⟨st3, hst3⟩ : ∃ s, beginSt st2 = s := ⟨_, rfl⟩
      rw [hst3] at hs9
      have HT3 := Lib.hid hst3
      have HB9 := Lib.hid (HB8.out.turnS hs9 hg9)
      clear hs9 hg9 HB8 hst3
      go_wp2_with fail
      refine (rbegin_any HB9.out.r).mono ?_
      rintro e w10 ⟨rfl, hr10, hg10⟩
      rw [HT3.out] at hr10
      have HB10 := Lib.hid (HB9.out.turnR hr10 hg10)
      have HWD : Hid (st3.dead = true → whyOf st3 = 7) := by rw [← HT3.out]; exact fun h => why_dead h HD2.out.1
      have HLn : Hid (st3.cells.length = k) := by rw [← HT3.out, ← HD2.out.2]; exact begin_length _
      clear hr10 hg10 HB9 HT3
      generalize beginNum st2 = bn at *
      generalize beginErr st2 = be at *
      have HDE : Hid (∀ q, Calls Try.prog 26 #[.pointer (some ⟨P, 0, none⟩)] (w10.drewN q) fun e w' => e = .returned (.bool st3.dead) ∧ w' = w10.drewN q) := fun q => same_left (dead_any (HB10.out.drewN q).s)
      obtain ⟨_, _, _, _, _, _, _, _, c5, _⟩ := HB10.out.r.cellsP
      have HCN : Hid (∀ q, Calls Try.prog 15 #[.pointer (some ⟨P, 0, none⟩)] (w10.drewN q) fun e w' => e = .returned (.tuple #[.int .u64 (cntOf st3), .int .i64 (whyOf st3)]) ∧ Grow (w10.drewN q) w') := fun q => count_any (HB10.out.drewN q).s
      generalize cntOf st3 = c3 at *
      generalize whyOf st3 = e3 at *
      generalize hdd : st3.dead = dd at *
      have HDD := Lib.hid hdd
      clear hdd
      go_wp2_with fail
      go_quiet ((go_at_call 26; exact Calls.quiet_of_same (HDE.out _)))
      go_wp2_with fail
      refine (HCN.out _).mono ?_
      rintro e w11 ⟨rfl, hg11⟩
      have HB11 := Lib.hid ((HB10.out.drewN _).grow hg11)
      have HDE2 : Hid (Calls Try.prog 26 #[.pointer (some ⟨P, 0, none⟩)] w11 fun e w' => e = .returned (.bool dd) ∧ w11 = w') := by
        have := dead_any HB11.out.s
        rwa [HDD.out] at this
      clear hg11 HB10 HDE HCN c5
      obtain ⟨sr, hsr⟩ : ∃ s, ({ st3 with dead := false, fuse := -1 } : St) = s := ⟨_, rfl⟩
      have HR : Hid (Calls Try.prog 27 #[.pointer (some ⟨P, 0, none⟩)] w11 fun e w' => e = .returned (.tuple #[]) ∧ Both wA w' P g R sr st3) := by
        refine (raise_any HB11.out.s).mono ?_
        rintro e w' ⟨rfl, hs, hg⟩
        rw [hsr] at hs
        exact ⟨rfl, HB11.out.turnS hs hg⟩
      have HSR : Hid (sr.cells = st3.cells ∧ sr.dead = false) := by rw [← hsr]; exact ⟨rfl, rfl⟩
      clear hsr HB11
      have HWE : Hid (dd = true → (e3 != 7) = false) := fun h => by
        have := HWD.out h
        rw [this]; rfl
      cases dd
      all_goals
        try have hwe := HWE.out rfl
        go_wp2_with fail
        refine HDE2.out.mono ?_
        rintro e w12 ⟨rfl, rfl⟩
        go_wp2_with fail
        refine HR.out.mono ?_
        rintro e w12 ⟨rfl, hb12⟩
        have HB12 := Lib.hid hb12
        clear hb12
        go_wp2_with fail
        go_loopw [16] (fun i wr => ∃ j : Nat, j ≤ k ∧ i = .int .i64 j ∧ Hid (Both wA wr P g R sr st3)) (fun i _ => k - (intOf i).toNat)
        case atStart => exact ⟨0, Nat.zero_le _, rfl, HB12.out⟩
        case round =>
          clear HB12
          obtain ⟨j, hj, rfl, HI⟩ := hrel
          obtain ⟨cb, cu, ⟨hcb, hcu⟩, c0, c1, c2, c3, c4, c5, hf⟩ := HI.out.r.cellsP
          rw [HLn.out] at c0 c1 hcb hcu
          clear c2 c3 c4 c5 hf
          by_cases hlt2 : j < k
          · have hlt' : (j : Int) < (k : Int) := by omega
            obtain ⟨x, hx⟩ : ∃ x, st3.cells.getD j (0, false) = x := ⟨_, rfl⟩
            obtain ⟨x, u⟩ := x
            have HX := Lib.hid hx
            clear hx
            cases u
            · have HRD := Lib.hid (read1_ok HI.out.s j (by rw [HSR.out.1, HLn.out]; exact hlt2) HSR.out.2 x (by rw [HSR.out.1]; exact HX.out))
              go_wp2_with fail
              refine HRD.out.mono ?_
              rintro e w13 ⟨bb, oo, cp, rfl, hb, hg⟩
              have HI3 := Lib.hid (HI.out.grow hg)
              have d0 := (hg.cell (block_lt c0)).trans c0
              have d1 := (hg.cell (block_lt c1)).trans c1
              obtain ⟨g0, g1, _, _⟩ := HI3.out.r.cellsR j (by rw [HLn.out]; exact hlt2)
              rw [HX.out] at g0 g1
              dsimp only at g0 g1
              clear c0 c1 hg HRD HI
              go_wp2_with fail
              go_quiet (fail)
              go_wp2_with fail
              go_roundw
              case rel => exact ⟨j + 1, by omega, by go_num, HI3.out.drewN _⟩
              case measure => simp [intOf]; omega
            · have HRD := Lib.hid (read1_torn HI.out.s j (by rw [HSR.out.1, HLn.out]; exact hlt2) HSR.out.2 x (by rw [HSR.out.1]; exact HX.out))
              go_wp2_with fail
              refine HRD.out.mono ?_
              rintro e w13 ⟨rfl, hg⟩
              have HI3 := Lib.hid (HI.out.grow hg)
              have d0 := (hg.cell (block_lt c0)).trans c0
              have d1 := (hg.cell (block_lt c1)).trans c1
              obtain ⟨g0, g1, _, _⟩ := HI3.out.r.cellsR j (by rw [HLn.out]; exact hlt2)
              rw [HX.out] at g0 g1
              dsimp only at g0 g1
              clear c0 c1 hg HRD HI
              go_wp2_with fail
              go_quiet (fail)
              go_wp2_with fail
              go_roundw
              case rel => exact ⟨j + 1, by omega, by go_num, HI3.out.drewN _⟩
              case measure => simp [intOf]; omega
          · have hjk : (k : Int) ≤ (j : Int) := by omega
            clear c0 c1
            go_wp2_with fail
            refine (known_any _).mono ?_
            rintro e w14 ⟨rfl, hg⟩
            have HG := Lib.hid (HWA.out.trans (HI.out.grow hg).below)
            clear hg
            go_wp2_with fail
            go_ret
            exact ⟨rfl, HG.out⟩

theorem walk (v : Value) (zs : List Int) (v1 : Value) (us : List Bool) (n y : Int) (un : Bool) (w : World) (hv : BytesV w v zs) (hb : BoolsV w v1 us) (hp : (Lit.int .i64 n).wf = true ∧ (Lit.int .u8 y).wf = true) :
    Calls Try.prog 6 #[v, v1, .agg #[.int .i64 n, .int .u8 y, .bool un]] w fun e w' => e = .returned (.bool true) ∧ Below w.heap.size w w' := by
  by_cases h : zs.length < 1 ∨ 60 < zs.length
  · exact out v zs v1 n y un w hv h
  · obtain ⟨b, off, cap, rfl, h1, h2⟩ := hv.2.solid (fun e => h (Or.inl (by rw [e]; decide)))
    exact main b off cap zs v1 us n y un w hv h1 h2 (by omega) (by omega) hb (wf_i64 hp.1) (wf_u8 hp.2)


set_option maxRecDepth 100000 in
theorem lifted (os : Os) (started : os.Started) (H : Type) (enc : TypeId × Value → H) :
    ReturnsInHanded {} Try.checked os 6 .any (Rows.bootPlaysSpec.pre6 enc Try.prog Try.f6 Rows.bootPlaysRow.domain false) (Rows.bootPlaysSpec.post enc Try.prog Try.f6 false true false false) := by
  refine returnsInHanded_of_change (C := Try.checked) own started (by kernel_rfl) Try.func6
    (ChangeSpec.witness6 (enc := enc) (C := Try.checked) false ⟨#[], #[.slice none 0 0, .slice none 0 0, .agg #[.int .i64 0, .int .u8 0, .bool false]], []⟩ 8 (by kernel_rfl) (by kernel_rfl) (by kernel_rfl) (by kernel_rfl)) ?_
  intro W base args ds gs before hval0 hW hcnd _
  have hval : ∀ (j : Nat) t v, Try.f6.params[j]? = some t → args[j]? = some v → Value.okWide Try.prog W .any base t v := hval0
  have hW' := hW
  obtain ⟨p, q, hA0, hV, rfl, hfz, hnd⟩ := hW
  have hA : DataW.TrodAll enc Try.prog W 0 (fun _ => true) true Try.f6.params.toList args.toList ds p := hA0
  rw [Try.params6] at hA hval
  obtain ⟨v0, vs0, d0, ds0, p0, q0, hargs, rfl, rfl, h0, r0⟩ := trodAll_cons hA
  obtain ⟨v1, vs1, d1, ds1, p1, q1, rfl, rfl, rfl, h1, r1⟩ := trodAll_cons r0
  obtain ⟨v2, vs2, d2, ds2, p2, q2, rfl, rfl, rfl, h2, r2⟩ := trodAll_cons r1
  obtain ⟨rfl, rfl, rfl⟩ := trodAll_nil r2
  obtain rfl : args = #[v0, v1, v2] := by cases args; simp_all
  obtain ⟨rfl, rfl⟩ := trodVars_none hV
  have k0 := h0
  have lt0 : ∀ x ∈ p0, x.block < W.heap.size := by obtain ⟨m, hm⟩ := k0; exact DataW.trod_lt m _ _ _ hm
  have k1 := h1
  have lt1 : ∀ x ∈ p1, x.block < W.heap.size := by obtain ⟨m, hm⟩ := k1; exact DataW.trod_lt m _ _ _ hm
  have k2 := h2
  have lt2 : ∀ x ∈ p2, x.block < W.heap.size := by obtain ⟨m, hm⟩ := k2; exact DataW.trod_lt m _ _ _ hm
  obtain ⟨z0, w0⟩ : ∃ zs, BytesV W v0 zs := open_bytes Try.underlying23 Try.underlying5 (by kernel_rfl) (hval 0 23 v0 rfl rfl) h0
  obtain ⟨z1, w1⟩ : ∃ us, BoolsV W v1 us := open_boolsV Try.underlying40 Try.underlying4 (by kernel_rfl) (hval 1 40 v1 rfl rfl) h1
  obtain ⟨n2, y2, u2, rfl, w2, w2'⟩ := open_loss (hval 2 42 v2 rfl rfl) h2
  clear hA0 hval0
  refine (walk v0 z0 v1 z1 n2 y2 u2 W w0 w1 ⟨w2, w2'⟩).mono fun e W' ⟨he, bel⟩ => ?_
  subst he
  exact ⟨_, rfl, _, _, _, [], _, [], hW', trodAll_mk1 (shut_bool Try.underlying4 _), (trodAll_cons_mk (Below.trod laidOut (by kernel_rfl) (of_decide_eq_true (by kernel_rfl)) k0 bel lt0) (trodAll_cons_mk (Below.trod laidOut (by kernel_rfl) (of_decide_eq_true (by kernel_rfl)) k1 bel lt1) (trodAll_cons_mk (Below.trod laidOut (by kernel_rfl) (of_decide_eq_true (by kernel_rfl)) k2 bel lt2) trodAll_mk0))), rfl, bel.frame _, fun h => by cases h⟩

theorem over : Rows.bootPlaysRow.holds Try.pinned (OpenSpec.ofChange Rows.bootPlaysSpec) :=
  OpenClaim.holds_of_wide 6 Try.f6 rfl rfl rfl rfl rfl rfl rfl ⟨rfl, rfl, rfl, rfl, rfl⟩ rfl rfl rfl rfl rfl (by kernel_rfl) Try.func6 (by kernel_rfl)
    (of_decide_eq_true (by kernel_rfl)) (by unfold Func.isWrapper; first | (rw [if_pos (by decide +kernel)]; kernel_rfl) | (rw [if_neg (by decide +kernel)]; exact ⟨rfl, rfl⟩))
    (fun os started H enc _ => lifted os started H enc)

/-- The statement. -/
theorem proved : Rows.BootPlaysSaid := over
end Go.Proofs.Ytajmfgadbphjbaa.bootPlays
