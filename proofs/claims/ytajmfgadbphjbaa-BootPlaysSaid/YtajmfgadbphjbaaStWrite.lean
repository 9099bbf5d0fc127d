/- The contract of Write. -/
import Derived.Test.YtajmfgadbphjbaaStRead
import Derived.RegionTactic
import Derived.ChangeAlike
import Derived.BigRegion
import Derived.WalkMore
set_option linter.unusedVariables false
namespace Go.Proofs.Ytajmfgadbphjbaa
open Go.RowKit

/-- One byte is written while there is power. -/
def St.put1 (st : St) (k : Nat) (b : Int) : St := { st with cells := st.cells.set k (b, false), fuse := if 0 < st.fuse then st.fuse - 1 else st.fuse }
/-- The power goes: one byte is torn. -/
def St.tear (st : St) (k : Nat) : St := { st with cells := st.cells.set k (st.tb, st.tu), dead := true }

/-- What a store is behind a Write that may be. -/
def wrote (st : St) (k : Nat) : List Int → St
  | [] => st
  | b :: r => if st.fuse = 0 then st.tear k else wrote (st.put1 k b) (k + 1) r

/-- What Write answers where it may write. -/
def wrRes (st : St) (k : Nat) (zs : List Int) : Int := if (wrote st k zs).dead then 7 else 0

def SomeWrite (P g : Nat) (st : St) (k : Nat) (zs : List Int) (w : World) (e : Ending) (w' : World) : Prop :=
  e = .returned (.int .i64 (wrRes st k zs)) ∧ StoreV w' P g (wrote st k zs) ∧ GrowBut (Own P g) w w'

/-- Bytes that stay whatever the store does. -/
def Held (P g : Nat) (w : World) (v : Value) (zs : List Int) : Prop := ∀ w', GrowBut (Own P g) w w' → BytesV w' v zs

theorem Held.mono {P g : Nat} {w w' : World} {v : Value} {zs : List Int} (h : Held P g w v zs) (hg : GrowBut (Own P g) w w') : Held P g w' v zs := fun w2 h2 => h w2 (hg.trans h2)
theorem Held.now {P g : Nat} {w : World} {v : Value} {zs : List Int} (h : Held P g w v zs) : BytesV w v zs := h w (GrowBut.refl _ _)

/-- Bytes of elder memory stay. -/
theorem held_of {P g : Nat} {w w0 : World} {v : Value} {zs : List Int} (h : BytesV w0 v zs) (hb : Below w0.heap.size w0 w) (hP : w0.heap.size ≤ P) (hg : w0.heap.size ≤ g) : Held P g w v zs := by
  intro w' hw
  refine h.mono ⟨hw.os.trans hb.os, hw.tape.trans hb.tape, hw.output.trans hb.output, Nat.le_trans hb.size hw.size, fun k hk => ?_⟩
  exact (hw.block k (Nat.lt_of_lt_of_le hk hb.size) (by simp only [Own]; omega)).trans (hb.block k hk)

theorem IntsV.cells {k : IntKind} {w : World} {b off n cap : Nat} {zs : List Int} (h : IntsV k w (.slice (some ⟨b, off, none⟩) n cap) zs) : ∀ i, i < zs.length → w.cell? ⟨b, off + i, none⟩ = some (.int k (zs.getD i 0)) := by
  rcases h with ⟨rfl, _⟩ | ⟨b', off', c, e, _, _, hc⟩
  · intro i hi; simp at hi
  · injection e with e1 e2 e3
    injection e1 with e1
    injection e1 with e4 e5
    subst e4; subst e5
    exact hc

theorem IntsV.solid {k : IntKind} {w : World} {v : Value} {zs : List Int} (h : IntsV k w v zs) (hz : zs ≠ []) : ∃ b off cap, v = .slice (some ⟨b, off, none⟩) zs.length cap ∧ zs.length ≤ cap ∧ cap ≤ maxLen := by
  rcases h with ⟨rfl, _⟩ | ⟨b, off, cap, rfl, h1, h2, _⟩
  · exact absurd rfl hz
  · exact ⟨b, off, cap, rfl, h1, h2⟩

theorem Bytes.at {zs : List Int} (h : Bytes zs) (i : Nat) : 0 ≤ zs.getD i 0 ∧ zs.getD i 0 < 256 := by
  by_cases hi : i < zs.length
  · have e : zs.getD i 0 = zs[i] := by simp [hi]
    rw [e]; exact h _ (List.getElem_mem hi)
  · have e : zs.getD i 0 = 0 := by simp [Nat.le_of_not_lt hi]
    rw [e]; decide

theorem drop_getD {zs : List Int} {i : Nat} (h : i < zs.length) : zs.drop i = zs.getD i 0 :: zs.drop (i + 1) := by
  rw [List.drop_eq_getElem_cons h]; simp [h]

theorem StoreV.drew {w : World} {P g : Nat} {st : St} (h : StoreV w P g st) : StoreV w.drew P g st := ⟨h.head, h.body, h.ne, h.pos, h.le, h.fuse, h.byte, h.torn⟩

theorem write_bad {w : World} {P g : Nat} {st : St} (h : StoreV w P g st) (v : Value) (zs : List Int) (hv : BytesV w v zs) (a : Int) (ha : -9223372036854775808 ≤ a ∧ a ≤ 9223372036854775807) (hw : wrongOf st a zs.length ≠ 0) :
    Calls Try.prog 13 #[.pointer (some ⟨P, 0, none⟩), .int .i64 a, v] w fun e w' => e = .returned (.int .i64 (wrongOf st a zs.length)) ∧ w = w' := by
  obtain ⟨ao, cap, rfl, hlc, hcm⟩ := hv.shape
  have hml : (maxLen : Nat) = 9223372036854775807 := rfl
  have HW := Lib.hid (wrong_any h a zs.length ha (by omega))
  have hb : (wrongOf st a zs.length != 0) = true := by simpa using hw
  have hlb : (zs.length : Int) ≤ 9223372036854775807 := by omega
  clear h ha hw hlc hcm hml hv
  generalize wrongOf st a zs.length = q at *
  generalize zs.length = m at *
  go_enter Try.func13, Try.ntmps13
  go_wp2_with (first | go_step3 | (go_at_call 31; refine HW.out.mono ?_; rintro e w' ⟨rfl, rfl⟩))
  try rw [Exit.noGoto_ret]
  go_ret
  exact ⟨rfl, rfl⟩

set_option maxHeartbeats 400000 in
theorem write_any {w : World} {P g : Nat} {st : St} (h : StoreV w P g st) (k : Nat) (v : Value) (zs : List Int) (hv : Held P g w v zs) (hk : k + zs.length ≤ st.cells.length) (hd : st.dead = false) :
    Calls Try.prog 13 #[.pointer (some ⟨P, 0, none⟩), .int .i64 k, v] w (SomeWrite P g st k zs w) := by
  have hl := h.le
  have hq : wrongOf st k zs.length = 0 := by unfold wrongOf; rw [if_neg (by omega), hd]; rfl
  have hwr := wrong_any h k zs.length (by omega) (by omega)
  rw [hq] at hwr
  have HW := Lib.hid hwr
  have HS := Lib.hid h
  have HV := Lib.hid hv
  have HD := Lib.hid hd
  have hne := h.ne
  clear hwr hq hd
  by_cases hz : zs = []
  · subst hz
    obtain ⟨ao, cap, rfl, _, _⟩ := hv.now.shape
    obtain ⟨hc, ⟨hc1, hc2⟩, c0, c1, c2, c3, c4, hf⟩ := h.cellsP
    rw [HD.out] at c4
    clear hf c0 c1 c2 c3 h hv
    go_enter Try.func13, Try.ntmps13
    go_wp2_with (first | go_step3 | (go_at_call 31; refine HW.out.mono ?_; rintro e w' ⟨rfl, rfl⟩))
    all_goals
      refine wp_loop_rounds 1 ?_
      rw [rounds_succ]
      go_wp2_with go_step3
      try rw [Exit.noGoto_ret]
      go_ret
      exact ⟨by rw [wrRes, wrote, HD.out]; rfl, HS.out, GrowBut.refl _ _⟩
  · obtain ⟨b, off, cap, rfl, hlc, hcm⟩ := hv.now.2.solid hz
    have hm0 : (0 : Int) < (zs.length : Int) := by have := List.length_pos_iff.2 hz; omega
    have HC : Hid (∀ w', GrowBut (Own P g) w w' → ∀ i, i < zs.length → w'.cell? ⟨b, off + i, none⟩ = some (.int .u8 (zs.getD i 0))) := fun w' hw i hi => (hv w' hw).2.cells i hi
    have HB := Lib.hid hv.now.1
    clear hv h hz
    have HN : Hid (st.cells.length = st.cells.length) := rfl
    generalize hnn : st.cells.length = n at hk hl HN HW
    have HLN := Lib.hid hnn
    clear hnn HN
    generalize hmm : zs.length = m at *
    have HLM := Lib.hid hmm
    clear hmm
    go_enter Try.func13, Try.ntmps13
    go_wp2_with (first | go_step3 | (go_at_call 31; refine HW.out.mono ?_; rintro e w' ⟨rfl, rfl⟩))
    go_loopw [20] (fun i wr => ∃ (j : Nat) (cur : St), j ≤ m ∧ i = .int .i64 j ∧ Hid (StoreV wr P g cur) ∧ Hid (wrote st k zs = wrote cur (k + j) (zs.drop j)) ∧ Hid (cur.dead = false) ∧ Hid (cur.cells.length = n) ∧ GrowBut (Own P g) w wr)
      (fun i _ => m - (intOf i).toNat)
    case atStart => exact ⟨0, st, Nat.zero_le _, rfl, HS.out, rfl, HD.out, HLN.out, GrowBut.refl _ _⟩
    case round =>
      obtain ⟨j, cur, hj, rfl, hst, HR, HDc, HNc, hg⟩ := hrel
      obtain ⟨hc, ⟨hc1, hc2⟩, c0, c1, c2, c3, c4, hf⟩ := hst.out.cellsP
      have hfu := hst.out.fuse
      have hf1 := hf 1
      have hf4 := hf 4
      rw [HDc.out] at c4
      rw [HNc.out] at c0
      clear hf
      by_cases hlt : j < m
      · have hb := HC.out wr hg j hlt
        have hbz := HB.out.at j
        obtain ⟨g0, g1, gf0, gf1⟩ := hst.out.cellsG (k + j) (by rw [HNc.out]; omega)
        have HDR : Hid (zs.drop j = zs.getD j 0 :: zs.drop (j + 1)) := drop_getD (by have := HLM.out; omega)
        generalize zs.getD j 0 = x at *
        by_cases hz : cur.fuse = 0
        · rw [hz] at c1 hfu
          have HRes : Hid (wrote st k zs = cur.tear (k + j)) := by
            show wrote st k zs = _
            rw [HR.out, HDR.out, wrote, if_pos hz]
          have HFin : Hid (∀ (w' : World) , (w' = ((wr.setCell ⟨g, (k + j) * 2, none⟩ (.int .u8 cur.tb)).setCell ⟨g, (k + j) * 2 + 1, none⟩ (.bool cur.tu)).setCell ⟨P, 4, none⟩ (.bool true)) → StoreV w' P g (wrote st k zs) ∧ GrowBut (Own P g) w w') := by
            rintro w' rfl
            refine ⟨?_, ((hg.setCell (Or.inr rfl) _).setCell (Or.inr rfl) _).setCell (Or.inl rfl) _⟩
            rw [HRes.out]
            exact StoreV.putP (hst.out.putG (k + j) cur.tb cur.tu (by rw [HNc.out]; omega) hst.out.torn) 4 (.bool true) rfl (fun _ => rfl) hst.out.fuse hst.out.torn
          have hgx := g1
          clear hst hg
          generalize cur.cells.getD (k + j) (0, false) = cc at *
          generalize cur.tb = tb at *
          generalize cur.tu = tu at *
          go_wp2_with go_step3
          go_region
          all_goals
            go_wp2_with go_step3
            try rw [Exit.noGoto_ret]
            go_ret
            have := HFin.out _ rfl
            exact ⟨by rw [wrRes, HRes.out]; rfl, this.1.drew, this.2.drew⟩
        · have HFin : Hid (∀ (w1 : World) (f' : Int), (f' = if 0 < cur.fuse then cur.fuse - 1 else cur.fuse) → StoreV w1 P g { cur with fuse := f' } → GrowBut (Own P g) w w1 → ∃ cur' : St, Hid (StoreV ((w1.setCell ⟨g, (k + j) * 2, none⟩ (.int .u8 x)).setCell ⟨g, (k + j) * 2 + 1, none⟩ (.bool false)) P g cur') ∧ Hid (wrote st k zs = wrote cur' (k + (j + 1)) (zs.drop (j + 1))) ∧ Hid (cur'.dead = false) ∧ Hid (cur'.cells.length = n) ∧ GrowBut (Own P g) w ((w1.setCell ⟨g, (k + j) * 2, none⟩ (.int .u8 x)).setCell ⟨g, (k + j) * 2 + 1, none⟩ (.bool false))) := by
            intro w1 f' hf' hs1 hg1
            refine ⟨cur.put1 (k + j) x, ?_, ?_, HDc.out, ?_, (hg1.setCell (Or.inr rfl) _).setCell (Or.inr rfl) _⟩
            · have := hs1.putG (k + j) x false (by rw [show ({ cur with fuse := f' } : St).cells = cur.cells from rfl, HNc.out]; omega) hbz
              rw [hf'] at this
              exact this
            · show wrote st k zs = _
              rw [HR.out, HDR.out, wrote, if_neg hz]; rfl
            · show (cur.cells.set _ _).length = n
              rw [List.length_set]; exact HNc.out
          by_cases hp : 0 < cur.fuse
          · have HP : Hid (StoreV (wr.setCell ⟨P, 1, none⟩ (.int .i64 (cur.fuse - 1))) P g { cur with fuse := cur.fuse - 1 }) :=
              StoreV.putP hst.out 1 (.int .i64 (cur.fuse - 1)) rfl (fun _ => rfl) ⟨by show -1 ≤ cur.fuse - 1; omega, by show cur.fuse - 1 ≤ _; omega⟩ hst.out.torn
            have HX := Lib.hid (HFin.out _ _ (by rw [if_pos hp]) HP.out (hg.setCell (Or.inl rfl) _))
            clear hst hg HFin HP HR HDR
            generalize cur.fuse = fu at *
            generalize cur.cells.getD (k + j) (0, false) = cc at *
            go_wp2_with go_step3
            obtain ⟨cur', q1, q2, q3, q4, q5⟩ := HX.out
            exact ⟨⟨j + 1, cur', by omega, by go_num, q1, q2, q3, q4, q5⟩, by simp [intOf]; omega⟩
          · have HP : Hid (StoreV wr P g { cur with fuse := cur.fuse }) := hst.out
            have HX := Lib.hid (HFin.out _ _ (by rw [if_neg hp]) HP.out hg)
            clear hst hg HFin HP HR HDR
            have hm1 : cur.fuse = -1 := by omega
            rw [hm1] at c1 
            generalize cur.cells.getD (k + j) (0, false) = cc at *
            go_wp2_with go_step3
            obtain ⟨cur', q1, q2, q3, q4, q5⟩ := HX.out
            exact ⟨⟨j + 1, cur', by omega, by go_num, q1, q2, q3, q4, q5⟩, by simp [intOf]; omega⟩
      · have hjm : j = m := by omega
        subst hjm
        have HRes : Hid (wrote st k zs = cur) := by
          show wrote st k zs = _
          rw [HR.out, List.drop_eq_nil_iff.2 (by rw [HLM.out]; exact Nat.le_refl _)]; rfl
        have HG := Lib.hid hg
        clear hg
        go_wp2_with go_step3
        try rw [Exit.noGoto_ret]
        go_ret
        exact ⟨by rw [wrRes, HRes.out, HDc.out]; rfl, by rw [HRes.out]; exact hst.out, HG.out⟩
end Go.Proofs.Ytajmfgadbphjbaa
