/- The document's store: its Write and its Read. -/
import Derived.Test.YtajmfgadbphjbaaStRef
import Derived.RegionTactic
import Derived.ChangeAlike
import Derived.BigRegion
import Derived.WalkMore
set_option linter.unusedVariables false
namespace Go.Proofs.Ytajmfgadbphjbaa
open Go.RowKit

/-- Bytes that stay whatever the document's store does. -/
def HeldR (R : RAt) (w : World) (v : Value) (zs : List Int) : Prop := ∀ w', GrowBut (ROwn R) w w' → BytesV w' v zs

theorem HeldR.now {R : RAt} {w : World} {v : Value} {zs : List Int} (h : HeldR R w v zs) : BytesV w v zs := h w (GrowBut.refl _ _)

theorem heldR_of {R : RAt} {w w0 : World} {v : Value} {zs : List Int} (h : BytesV w0 v zs) (hb : Below w0.heap.size w0 w) (hp : w0.heap.size ≤ R.p) (hb' : w0.heap.size ≤ R.b) (hu : w0.heap.size ≤ R.u) : HeldR R w v zs := by
  intro w' hw
  refine h.mono ⟨hw.os.trans hb.os, hw.tape.trans hb.tape, hw.output.trans hb.output, Nat.le_trans hb.size hw.size, fun k hk => ?_⟩
  exact (hw.block k (Nat.lt_of_lt_of_le hk hb.size) (by simp only [ROwn]; omega)).trans (hb.block k hk)

theorem rwrite_bad {w : World} {R : RAt} {st : St} (h : RefV w R st) (v : Value) (zs : List Int) (hv : BytesV w v zs) (a : Int) (ha : -9223372036854775808 ≤ a ∧ a ≤ 9223372036854775807) (hw : wrongOf st a zs.length ≠ 0) :
    Calls Try.prog 37 #[.pointer (some ⟨R.p, 0, none⟩), .int .i64 a, v] w fun e w' => e = .returned (.int .i64 (wrongOf st a zs.length)) ∧ w = w' := by
  obtain ⟨ao, cap, rfl, hlc, hcm⟩ := hv.shape
  have hml : (maxLen : Nat) = 9223372036854775807 := rfl
  have hlb : (zs.length : Int) ≤ 9223372036854775807 := by omega
  by_cases hi : insideOf st a zs.length
  · have HW := Lib.hid (within_yes h a zs.length hi)
    have hd : st.dead = true := by
      rw [inside_yes hi] at hw
      cases hdd : st.dead
      · rw [hdd] at hw; exact absurd rfl hw
      · rfl
    have HR : Hid (wrongOf st a zs.length = 7) := by show wrongOf st a zs.length = 7; rw [inside_yes hi, hd]; rfl
    obtain ⟨cb, cu, ⟨hcb, hcu⟩, c0, c1, c2, c3, c4, c5, hf⟩ := h.cellsP
    rw [hd] at c5
    clear hf c0 c1 c2 c3 c4 h hw hi hd hv hlc hcm hml hcb hcu
    go_enter Try.func37, Try.ntmps37
    go_wp2_with (first | go_step3 | (go_at_call 39; refine HW.out.mono ?_; rintro e w' ⟨rfl, rfl⟩))
    go_ret
    exact ⟨st_ret_int HR.out.symm, rfl⟩
  · have HW := Lib.hid (within_no h a zs.length hi ha (by omega))
    have HR : Hid (wrongOf st a zs.length = 2) := inside_no hi
    clear h hw hi hv hlc hcm hml
    go_enter Try.func37, Try.ntmps37
    go_wp2_with (first | go_step3 | (go_at_call 39; refine HW.out.mono ?_; rintro e w' ⟨rfl, rfl⟩))
    go_ret
    exact ⟨st_ret_int HR.out.symm, rfl⟩

def RWrote (R : RAt) (st : St) (k : Nat) (zs : List Int) (w : World) (e : Ending) (w' : World) : Prop :=
  e = .returned (.int .i64 (wrRes st k zs)) ∧ RefV w' R (wrote st k zs) ∧ GrowBut (ROwn R) w w'

set_option maxRecDepth 20000 in
set_option maxHeartbeats 1000000 in
theorem rwrite_any {w : World} {R : RAt} {st : St} (h : RefV w R st) (k : Nat) (v : Value) (zs : List Int) (hv : HeldR R w v zs) (hk : k + zs.length ≤ st.cells.length) (hd : st.dead = false) :
    Calls Try.prog 37 #[.pointer (some ⟨R.p, 0, none⟩), .int .i64 k, v] w (RWrote R st k zs w) := by
  have hl := h.le
  have HW := Lib.hid (within_yes h k zs.length ⟨by omega, by omega, by omega, by omega⟩)
  have HS := Lib.hid h
  have HV := Lib.hid hv
  have HD := Lib.hid hd
  clear hd
  by_cases hz : zs = []
  · subst hz
    obtain ⟨ao, cap, rfl, _, _⟩ := hv.now.shape
    obtain ⟨cb, cu, ⟨hcb, hcu⟩, c0, c1, c2, c3, c4, c5, hf⟩ := h.cellsP
    rw [HD.out] at c5
    clear hf c0 c1 c2 c3 c4 h hv
    go_enter Try.func37, Try.ntmps37
    go_wp2_with (first | go_step3 | (go_at_call 39; refine HW.out.mono ?_; rintro e w' ⟨rfl, rfl⟩))
    all_goals
      refine wp_loop_rounds 1 ?_
      rw [rounds_succ]
      go_wp2_with go_step3
      go_ret
      exact ⟨by rw [wrRes, wrote, HD.out]; rfl, HS.out, GrowBut.refl _ _⟩
  · obtain ⟨b, off, cap, rfl, hlc, hcm⟩ := hv.now.2.solid hz
    have hm0 : (0 : Int) < (zs.length : Int) := by have := List.length_pos_iff.2 hz; omega
    have HC : Hid (∀ w', GrowBut (ROwn R) w w' → ∀ i, i < zs.length → w'.cell? ⟨b, off + i, none⟩ = some (.int .u8 (zs.getD i 0))) := fun w' hw i hi => (hv w' hw).2.cells i hi
    have HB := Lib.hid hv.now.1
    obtain ⟨cb, cu, ⟨hcb, hcu⟩, c0, c1, c2, c3, c4, c5, hf⟩ := h.cellsP
    rw [HD.out] at c5
    clear hv h hz hf c0 c1 c2 c3 c4 hcb hcu
    generalize hnn : st.cells.length = n at hk hl HW
    have HLN := Lib.hid hnn
    clear hnn
    generalize hmm : zs.length = m at *
    have HLM := Lib.hid hmm
    clear hmm
    go_enter Try.func37, Try.ntmps37
    go_wp2_with (first | go_step3 | (go_at_call 39; refine HW.out.mono ?_; rintro e w' ⟨rfl, rfl⟩))
    go_loopw [7] (fun i wr => ∃ (j : Nat) (cur : St), j ≤ m ∧ i = .int .i64 j ∧ Hid (RefV wr R cur) ∧ Hid (wrote st k zs = wrote cur (k + j) (zs.drop j)) ∧ Hid (cur.dead = false) ∧ Hid (cur.cells.length = n) ∧ GrowBut (ROwn R) w wr)
      (fun i _ => m - (intOf i).toNat)
    case atStart => exact ⟨0, st, Nat.zero_le _, rfl, HS.out, rfl, HD.out, HLN.out, GrowBut.refl _ _⟩
    case round =>
      obtain ⟨j, cur, hj, rfl, hst, HR, HDc, HNc, hg⟩ := hrel
      obtain ⟨cb, cu, ⟨hcb, hcu⟩, c0, c1, c2, c3, c4, c5, hf⟩ := hst.out.cellsP
      have hfu := hst.out.fuse
      have hf2 := hf 2
      have hf5 := hf 5
      rw [HDc.out] at c5
      rw [HNc.out] at c0 c1 hcb hcu
      have HNE : Hid (R.p ≠ R.b ∧ R.p ≠ R.u ∧ R.b ≠ R.u) := ⟨hst.out.ne1, hst.out.ne2, hst.out.ne3⟩
      clear hf
      by_cases hlt : j < m
      · have hb := HC.out wr hg j hlt
        have hbz := HB.out.at j
        obtain ⟨g0, g1, gf0, gf1⟩ := hst.out.cellsR (k + j) (by rw [HNc.out]; omega)
        have HDR : Hid (zs.drop j = zs.getD j 0 :: zs.drop (j + 1)) := drop_getD (by have := HLM.out; omega)
        obtain ⟨p, pb, pu⟩ := R
        dsimp only at *
        have ne1 := HNE.out.1
        have ne2 := HNE.out.2.1
        have ne3 := HNE.out.2.2
        obtain ⟨x, hxe⟩ : ∃ x, zs.getD j 0 = x := ⟨_, rfl⟩
        rw [hxe] at hb hbz HDR
        have HXE := Lib.hid hxe
        clear hxe
        by_cases hz : cur.fuse = 0
        · rw [hz] at c2 hfu
          have HRes : Hid (wrote st k zs = cur.tear (k + j)) := by
            show wrote st k zs = _
            rw [HR.out, HDR.out, wrote, if_pos hz]
          have HFin : Hid (∀ (w' : World) , (w' = ((wr.setCell ⟨pb, k + j, none⟩ (.int .u8 cur.tb)).setCell ⟨pu, k + j, none⟩ (.bool cur.tu)).setCell ⟨p, 5, none⟩ (.bool true)) → RefV w' ⟨p, pb, pu⟩ (wrote st k zs) ∧ GrowBut (ROwn ⟨p, pb, pu⟩) w w') := by
            rintro w' rfl
            refine ⟨?_, ((hg.setCell (Or.inr (Or.inl rfl)) _).setCell (Or.inr (Or.inr rfl)) _).setCell (Or.inl rfl) _⟩
            rw [HRes.out]
            exact RefV.putP (hst.out.putR (k + j) cur.tb cur.tu (by rw [HNc.out]; omega) hst.out.torn) 5 (.bool true) rfl (fun _ _ => rfl) hst.out.fuse hst.out.torn
          clear hst hg
          generalize cur.cells.getD (k + j) (0, false) = cc at *
          generalize cur.tb = tb at *
          generalize cur.tu = tu at *
          go_wp2_with fail
          go_region
          all_goals
            go_wp2_with fail
            go_region
            all_goals
              go_wp2_with fail
              go_ret
              have := HFin.out _ rfl
              first
                | exact ⟨by rw [wrRes, HRes.out]; rfl, this.1.drew.drew, this.2.drew.drew⟩
                | exact ⟨by rw [wrRes, HRes.out]; rfl, this.1.drewN 2, this.2.drewN 2⟩
        · have HFin : Hid (∀ (w1 : World) (f' : Int), (f' = if 0 < cur.fuse then cur.fuse - 1 else cur.fuse) → RefV w1 ⟨p, pb, pu⟩ { cur with fuse := f' } → GrowBut (ROwn ⟨p, pb, pu⟩) w w1 → ∃ cur' : St, Hid (RefV ((w1.setCell ⟨pb, k + j, none⟩ (.int .u8 x)).setCell ⟨pu, k + j, none⟩ (.bool false)).drew ⟨p, pb, pu⟩ cur') ∧ Hid (wrote st k zs = wrote cur' (k + (j + 1)) (zs.drop (j + 1))) ∧ Hid (cur'.dead = false) ∧ Hid (cur'.cells.length = n) ∧ GrowBut (ROwn ⟨p, pb, pu⟩) w ((w1.setCell ⟨pb, k + j, none⟩ (.int .u8 x)).setCell ⟨pu, k + j, none⟩ (.bool false)).drew) := by
            intro w1 f' hf' hs1 hg1
            refine ⟨cur.put1 (k + j) x, ?_, ?_, HDc.out, ?_, ((hg1.setCell (Or.inr (Or.inl rfl)) _).setCell (Or.inr (Or.inr rfl)) _).drew⟩
            · have := hs1.putR (k + j) x false (by rw [show ({ cur with fuse := f' } : St).cells = cur.cells from rfl, HNc.out]; omega) hbz
              rw [hf'] at this
              exact this.drew
            · show wrote st k zs = _
              rw [HR.out, HDR.out, wrote, if_neg hz]; rfl
            · show (cur.cells.set _ _).length = n
              rw [List.length_set]; exact HNc.out
          by_cases hp : 0 < cur.fuse
          · have HP : Hid (RefV (wr.setCell ⟨p, 2, none⟩ (.int .i64 (cur.fuse - 1))) ⟨p, pb, pu⟩ { cur with fuse := cur.fuse - 1 }) :=
              RefV.putP hst.out 2 (.int .i64 (cur.fuse - 1)) rfl (fun _ _ => rfl) ⟨by show -1 ≤ cur.fuse - 1; omega, by show cur.fuse - 1 ≤ _; omega⟩ hst.out.torn
            have HX := Lib.hid (HFin.out _ _ (by rw [if_pos hp]) HP.out (hg.setCell (Or.inl rfl) _))
            have hb2 := HC.out _ (hg.setCell (a := ⟨p, 2, none⟩) (Or.inl rfl) (.int .i64 (cur.fuse - 1))) j hlt
            rw [HXE.out] at hb2
            clear hst hg HFin HP HR HDR
            generalize cur.fuse = fu at *
            generalize cur.cells.getD (k + j) (0, false) = cc at *
            go_wp2_with fail
            go_region
            all_goals
              go_wp2_with fail
              obtain ⟨cur', q1, q2, q3, q4, q5⟩ := HX.out
              exact ⟨⟨j + 1, cur', by omega, by go_num, q1, q2, q3, q4, q5⟩, by simp [intOf]; omega⟩
          · have HP : Hid (RefV wr ⟨p, pb, pu⟩ { cur with fuse := cur.fuse }) := hst.out
            have HX := Lib.hid (HFin.out _ _ (by rw [if_neg hp]) HP.out hg)
            clear hst hg HFin HP HR HDR
            have hm1 : cur.fuse = -1 := by omega
            rw [hm1] at c2
            clear hm1 hp hz hfu
            generalize cur.cells.getD (k + j) (0, false) = cc at *
            go_wp2_with fail
            go_region
            all_goals
              go_wp2_with fail
              obtain ⟨cur', q1, q2, q3, q4, q5⟩ := HX.out
              exact ⟨⟨j + 1, cur', by omega, by go_num, q1, q2, q3, q4, q5⟩, by simp [intOf]; omega⟩
      · have hjm : j = m := by omega
        subst hjm
        have HRes : Hid (wrote st k zs = cur) := by
          show wrote st k zs = _
          rw [HR.out, List.drop_eq_nil_iff.2 (by rw [HLM.out]; exact Nat.le_refl _)]; rfl
        have HG := Lib.hid hg
        clear hg
        go_wp2_with fail
        go_ret
        exact ⟨by rw [wrRes, HRes.out, HDc.out]; rfl, by rw [HRes.out]; exact hst.out, HG.out⟩

end Go.Proofs.Ytajmfgadbphjbaa
