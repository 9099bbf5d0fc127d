/- At most one byte is torn. -/
import Derived.Test.YteakedikmaobfaaRows
import Derived.Test.YteakedikmaobfaaStSplice
import Derived.Test.YteakedikmaobfaaOpenInts
import Derived.WalkKit
import Derived.ProofKit
import Derived.OpenShut
import Derived.ShutString
import Derived.ChangeOld
import Derived.Below
import Derived.Laws.CopyOwn
set_option linter.unusedVariables false
namespace Go.Proofs.Yteakedikmaobfaa.storeTears
open Go.ChangeShapes Go.WideShapes Go.ChangeAt Go.RowKit
open Go.ChangeMaps (open_string shut_string)

theorem own : ownKnob Try.prog.godebug = none := by kernel_rfl
theorem laidOut : laidOutB Try.prog = true := by kernel_rfl


theorem wrote_spec (ns : List Int) : ∀ (st : St) (k : Nat), 0 ≤ st.fuse → st.dead = false → k + ns.length ≤ st.cells.length →
    (wrote st k ns).dead = decide (st.fuse < ns.length) ∧ (wrote st k ns).cells.length = st.cells.length ∧
    ∀ i : Nat, (wrote st k ns).cells.getD i (0, false) = if st.fuse < ns.length ∧ (i : Int) = k + st.fuse then (st.tb, st.tu) else if k ≤ i ∧ i < k + ns.length ∧ (i : Int) < k + st.fuse then (ns.getD (i - k) 0, false) else st.cells.getD i (0, false) := by
  induction ns with
  | nil =>
    intro st k h0 hd hk
    refine ⟨?_, rfl, fun i => ?_⟩
    · rw [wrote, hd]; simp; omega
    · rw [wrote, if_neg (by simp; omega), if_neg (by simp; omega)]
  | cons b r ih =>
    intro st k h0 hd hk
    have hk' : k + (r.length + 1) ≤ st.cells.length := by simpa using hk
    by_cases hz : st.fuse = 0
    · rw [wrote, if_pos hz]
      refine ⟨?_, by simp [St.tear], fun i => ?_⟩
      · simp [St.tear, hz]
      · rw [hz]
        by_cases hi : i = k
        · subst hi
          rw [if_pos ⟨by simp, by omega⟩]
          simp [St.tear, List.getD_eq_getElem?_getD, show i < st.cells.length by omega]
        · rw [if_neg (by omega), if_neg (by omega)]
          simp [St.tear, List.getD_eq_getElem?_getD, List.getElem?_set_ne (Ne.symm hi)]
    · rw [wrote, if_neg hz]
      have hf : (st.put1 k b).fuse = st.fuse - 1 := by simp only [St.put1]; rw [if_pos (by omega)]
      obtain ⟨i1, i2, i3⟩ := ih (st.put1 k b) (k + 1) (by rw [hf]; omega) hd (by simp [St.put1]; omega)
      rw [hf] at i1 i3
      refine ⟨?_, by rw [i2]; simp [St.put1], fun i => ?_⟩
      · rw [i1, List.length_cons]; congr 1; apply propext; constructor <;> intro h <;> omega
      · rw [i3, List.length_cons]
        by_cases h1 : st.fuse < (r.length + 1 : Nat) ∧ (i : Int) = k + st.fuse
        · rw [if_pos (by omega), if_pos h1]; rfl
        · rw [if_neg (by omega), if_neg h1]
          by_cases hi : i = k
          · subst hi
            rw [if_neg (by omega), if_pos (by omega)]
            simp [St.put1, List.getD_eq_getElem?_getD, show i < st.cells.length by omega]
          · by_cases h2 : k + 1 ≤ i ∧ i < k + 1 + r.length ∧ (i : Int) < (k + 1 : Nat) + (st.fuse - 1)
            · rw [if_pos h2, if_pos (by omega)]
              rw [show i - k = (i - (k + 1)) + 1 by omega]
              simp
            · rw [if_neg h2, if_neg (by omega)]
              simp [St.put1, List.getD_eq_getElem?_getD, List.getElem?_set_ne (Ne.symm hi)]

/-- A byte is what the law wants of it. -/
def want (zs ns : List Int) (f b : Int) (u : Bool) (i : Nat) : Int × Bool :=
  if f < ns.length ∧ (i : Int) = f then (b, u) else if i < ns.length ∧ (i : Int) < f then (ns.getD i 0, false) else (zs.getD i 0, false)

theorem wrote_want (zs ns : List Int) (f b : Int) (u : Bool) (h0 : 0 ≤ f) (hl : ns.length ≤ zs.length) :
    (wrote ⟨zs.map (fun z => (z, false)), f, b, u, false⟩ 0 ns).dead = decide (f < ns.length) ∧ (wrote ⟨zs.map (fun z => (z, false)), f, b, u, false⟩ 0 ns).cells.length = zs.length ∧
    ∀ i : Nat, i < zs.length → (wrote ⟨zs.map (fun z => (z, false)), f, b, u, false⟩ 0 ns).cells.getD i (0, false) = want zs ns f b u i := by
  obtain ⟨h1, h2, h3⟩ := wrote_spec ns ⟨zs.map (fun z => (z, false)), f, b, u, false⟩ 0 h0 rfl (by simpa using hl)
  refine ⟨h1, by rw [h2]; simp, fun i hi => ?_⟩
  rw [h3]
  unfold want
  have e : (zs.map (fun z => (z, false))).getD i ((0 : Int), false) = (zs.getD i 0, false) := by simp [hi]
  by_cases c1 : f < ns.length ∧ (i : Int) = f
  · rw [if_pos ⟨c1.1, by simpa using c1.2⟩, if_pos c1]
  · rw [if_neg (by simpa using c1), if_neg c1]
    by_cases c2 : i < ns.length ∧ (i : Int) < f
    · rw [if_pos ⟨Nat.zero_le _, by omega, by simpa using c2.2⟩, if_pos c2]; rfl
    · rw [if_neg (by simpa using c2), if_neg c2, e]

def OkByte (w0 : World) (P g : Nat) (st : St) (x : Int) (e : Ending) (w' : World) : Prop :=
  ∃ bb oo cp : Nat, e = .returned (.tuple #[.slice (some ⟨bb, oo, none⟩) 1 cp, .int .i64 0]) ∧ w'.cell? ⟨bb, oo, none⟩ = some (.int .u8 x) ∧ Mine w0 w' P g st

theorem part_one {st : St} {k : Nat} (hk : k < st.cells.length) : part st k 1 = [st.cells.getD k (0, false)] := by
  unfold part
  rw [List.drop_eq_getElem_cons hk, List.take_succ_cons, List.take_zero]; simp [hk]

theorem read_ok {w0 w : World} {P g : Nat} {st : St} (h : Mine w0 w P g st) (k : Nat) (hk : k < st.cells.length) (hd : st.dead = false) (x : Int) (hx : st.cells.getD k (0, false) = (x, false)) :
    Calls Try.prog 11 #[.pointer (some ⟨P, 0, none⟩), .int .i64 k, .int .i64 1] w (OkByte w0 P g st x) := by
  refine (mine_read h k 1 (by omega) hd [x] (by rw [part_one hk, hx]; rfl)).mono ?_
  rintro e w' ⟨v, rfl, hb, hm, _⟩
  obtain ⟨bb, oo, cp, rfl, _, _, hc⟩ := hb.2.solidC (by simp)
  exact ⟨bb, oo, cp, rfl, by simpa using hc 0 (by simp), hm⟩

theorem read_torn {w0 w : World} {P g : Nat} {st : St} (h : Mine w0 w P g st) (k : Nat) (hk : k < st.cells.length) (hd : st.dead = false) (x : Int) (hx : st.cells.getD k (0, false) = (x, true)) :
    Calls Try.prog 11 #[.pointer (some ⟨P, 0, none⟩), .int .i64 k, .int .i64 1] w fun e w' => e = .returned (.tuple #[.slice none 0 0, .int .i64 8]) ∧ Mine w0 w' P g st := by
  refine (read_any h.store k 1 (by omega) hd).mono ?_
  rintro e w' ⟨v, err, rfl, hr, hg⟩
  unfold readRes at hr
  rw [if_pos (by rw [part_one hk, hx]; rfl)] at hr
  obtain ⟨rfl, rfl⟩ := hr
  exact ⟨rfl, h.grow hg⟩

set_option maxRecDepth 20000 in
set_option maxHeartbeats 8000000 in
theorem walk0 (v : Value) (zs : List Int) (v2 : Value) (ns : List Int) (f b : Int) (u : Bool) (w : World) (hv : BytesV w v zs) (hv2 : BytesV w v2 ns) (hf : (Lit.int .i64 f).wf = true) (hb : (Lit.int .u8 b).wf = true) (hc : zs.length < 1 ∨ 100 < zs.length ∨ zs.length < ns.length ∨ f < 0) :
    Calls Try.prog 4 #[v, v2, .int .i64 f, .int .u8 b, .bool u] w fun e w' => e = .returned (.bool true) ∧ Below w.heap.size w w' := by
  obtain ⟨ao, cap, rfl, h1, h2⟩ := hv.shape
  obtain ⟨ao2, cap2, rfl, h3, h4⟩ := hv2.shape
  have hf' := wf_i64 hf
  have hb' := wf_u8 hb
  have HV := Lib.hid hv
  have HV2 := Lib.hid hv2
  clear hv hv2 hf hb
  unfold maxLen at h2 h4
  have hK : Hid (∀ x : World, Calls Try.prog 8 #[] x fun e w' => e = .returned (.bool true) ∧ Grow x w') := fun x => known_any x
  by_cases c1 : zs.length < 1
  · clear hc
    go_enter Try.func4, Try.ntmps4
    go_wp2_with (go_at_call 8; refine (hK.out _).mono ?_; rintro e w' ⟨rfl, hg⟩; have HG := Lib.hid hg; clear hg)
    go_ret
    exact ⟨rfl, HG.out⟩
  by_cases c2 : 100 < zs.length
  · clear hc
    go_enter Try.func4, Try.ntmps4
    go_wp2_with (go_at_call 8; refine (hK.out _).mono ?_; rintro e w' ⟨rfl, hg⟩; have HG := Lib.hid hg; clear hg)
    go_ret
    exact ⟨rfl, HG.out⟩
  by_cases c3 : zs.length < ns.length
  · clear hc
    go_enter Try.func4, Try.ntmps4
    go_wp2_with (go_at_call 8; refine (hK.out _).mono ?_; rintro e w' ⟨rfl, hg⟩; have HG := Lib.hid hg; clear hg)
    go_ret
    exact ⟨rfl, HG.out⟩
  have c4 : f < 0 := by omega
  clear hc
  go_enter Try.func4, Try.ntmps4
  go_wp2_with (go_at_call 8; refine (hK.out _).mono ?_; rintro e w' ⟨rfl, hg⟩; have HG := Lib.hid hg; clear hg)
  go_ret
  exact ⟨rfl, HG.out⟩

set_option maxRecDepth 20000 in
set_option maxHeartbeats 8000000 in
theorem walkD (v : Value) (zs : List Int) (v2 : Value) (ns : List Int) (f b : Int) (u : Bool) (w : World) (hv : BytesV w v zs) (hv2 : BytesV w v2 ns) (hf : (Lit.int .i64 f).wf = true) (hb : (Lit.int .u8 b).wf = true) (c1 : ¬ zs.length < 1) (c2 : ¬ 100 < zs.length) (c3 : ¬ zs.length < ns.length) (c4 : ¬ f < 0) (hdd : f < ns.length) :
    Calls Try.prog 4 #[v, v2, .int .i64 f, .int .u8 b, .bool u] w fun e w' => e = .returned (.bool true) ∧ Below w.heap.size w w' := by
  obtain ⟨ao, cap, rfl, h1, h2⟩ := hv.shape
  obtain ⟨ao2, cap2, rfl, h3, h4⟩ := hv2.shape
  have hf' := wf_i64 hf
  have hb' := wf_u8 hb
  have HV := Lib.hid hv
  have HV2 := Lib.hid hv2
  clear hv hv2 hf hb
  unfold maxLen at h2 h4
  have hK : Hid (∀ x : World, Calls Try.prog 8 #[] x fun e w' => e = .returned (.bool true) ∧ Grow x w') := fun x => known_any x
  obtain ⟨n, hn⟩ : ∃ n, zs.length = n := ⟨_, rfl⟩
  have HN := Lib.hid (new_any n w (by omega) (by omega))
  have hn1 : 1 ≤ n := by omega
  have hn2 : n ≤ 100 := by omega
  have hns : ns.length ≤ n := by omega
  have hf0 : 0 ≤ f := by omega
  rw [hn] at h1 c1 c2 c3
  have HZL := Lib.hid hn
  have HSP : Hid (wrote (St.fresh n) 0 zs = ⟨zs.map (fun z => (z, false)), -1, 0, false, false⟩) := by
    have := wrote_splice zs (List.replicate n 0) 0 (by simp; omega)
    have e : splice (List.replicate n 0) 0 zs = zs := by simp [splice, hn]
    rw [e] at this
    rw [← this]
    show wrote _ _ _ = wrote _ _ _
    simp [St.fresh]
  obtain ⟨q1, q2, q3⟩ := wrote_want zs ns f b u hf0 (by omega)
  obtain ⟨F, hF⟩ : ∃ F, wrote ⟨zs.map (fun z => (z, false)), f, b, u, false⟩ 0 ns = F := ⟨_, rfl⟩
  rw [hF] at q1 q2 q3
  have HF := Lib.hid hF
  have HD := Lib.hid q1
  have HFL : Hid (F.cells.length = n) := q2.trans hn
  have HFC : Hid (∀ i : Nat, i < n → F.cells.getD i (0, false) = want zs ns f b u i) := fun i hi => q3 i (by omega)
  clear hF q1 q2 q3 hn
  go_enter Try.func4, Try.ntmps4
  rw [HZL.out]
  go_wp2_with fail
  refine HN.out.mono ?_
  rintro e w1 ⟨P, g, rfl, hs, hgr, hP, hg⟩
  have HM := Lib.hid (Mine.of_new hs hgr hP hg); clear hs hgr hP hg
  have HW1 := Lib.hid (mine_write HM.out 0 _ zs (held_of HV.out HM.out.below HM.out.hP HM.out.hg) (by simp [St.fresh]; have := HZL.out; omega) rfl _ 0 HSP.out rfl)
  rw [HZL.out] at HW1
  go_wp2_with fail
  refine HW1.out.mono ?_
  rintro e w2 ⟨rfl, hm2, _⟩
  have HM2 := Lib.hid hm2
  clear hm2 HM HW1
  go_wp2_with fail
  refine (mine_fuse HM2.out f b u hf' hb').mono ?_
  rintro e w3 ⟨rfl, hm3, _⟩
  have HM3 : Hid (Mine w w3 P g ⟨zs.map (fun z => (z, false)), f, b, u, false⟩) := by
    have := hm3
    simp only [show max f (-1) = f by omega] at this
    exact this
  clear hm3 HM2
  have HW2 := Lib.hid (mine_write HM3.out 0 _ ns (held_of HV2.out HM3.out.below HM3.out.hP HM3.out.hg) (by simp only [List.length_map]; have := HZL.out; omega) rfl F _ HF.out rfl)
  obtain ⟨b1, o1, c5, e1, _, _, hcell1⟩ := HV.out.2.solidC (fun h => by have := HZL.out; rw [h] at this; simp at this; omega)
  injection e1 with e1 _ e1'
  subst e1; subst e1'
  have HC1 := Lib.hid hcell1
  clear hcell1
  have HC2 : Hid (0 < ns.length → ∃ b2 o2 : Nat, ao2 = some ⟨b2, o2, none⟩ ∧ ∀ i, i < ns.length → w.cell? ⟨b2, o2 + i, none⟩ = some (.int .u8 (ns.getD i 0))) := by
    intro h0
    obtain ⟨b2, o2, _, e2, _, _, hc⟩ := HV2.out.2.solidC (fun h => by rw [h] at h0; simp at h0)
    injection e2 with e2 _ _
    exact ⟨b2, o2, e2, hc⟩
  clear HV HV2
  have hfd : F.dead = true := by rw [HD.out]; simpa using hdd
  rw [hfd] at HW2
  go_wp2_with fail
  refine HW2.out.mono ?_
  rintro e w4 ⟨rfl, hm4, _⟩
  have HM4 := Lib.hid hm4
  have HDE := Lib.hid (dead_any hm4.store)
  rw [hfd] at HDE
  clear hm4 HM3 hfd
  go_wp2_with (go_at_call 13; refine HDE.out.mono ?_; rintro e w5 ⟨rfl, rfl⟩)
  refine (mine_raise HM4.out).mono ?_
  rintro e w6 ⟨rfl, hm6, _⟩
  obtain ⟨ST, hST⟩ : ∃ ST, ({ F with dead := false, fuse := -1 } : St) = ST := ⟨_, rfl⟩
  rw [hST] at hm6
  have HSL : Hid (ST.cells.length = n) := by subst hST; exact HFL.out
  have HSD : Hid (ST.dead = false) := by subst hST; rfl
  have HSC : Hid (∀ i, ST.cells.getD i (0, false) = F.cells.getD i (0, false)) := by subst hST; exact fun _ => rfl
  have HM6 := Lib.hid hm6
  clear hm6 HM4 hST HW2 HDE HN HSP
  go_wp2_with fail
  go_loopw [15] (fun i wr => ∃ j : Nat, j ≤ n ∧ i = .int .i64 j ∧ Hid (Mine w wr P g ST)) (fun i _ => n - (intOf i).toNat)
  case atStart => exact ⟨0, Nat.zero_le _, rfl, HM6.out⟩
  case round =>
    obtain ⟨j, hj, rfl, HI⟩ := hrel
    by_cases hlt : j < n
    case neg =>
      have hjn : j = n := by omega
      subst hjn
      go_wp2_with (go_at_call 8; refine (hK.out _).mono ?_; rintro e w' ⟨rfl, hg⟩; have HG := Lib.hid hg; clear hg)
      go_ret
      exact ⟨rfl, HI.out.below.trans (Below.mono HG.out HI.out.below.size)⟩
    case pos =>
    · have hwant := HFC.out j hlt
      unfold want at hwant
      by_cases hjf : (j : Int) = f
      · rw [if_pos ⟨hdd, hjf⟩] at hwant
        have hx1 := HC1.out j (by have := HZL.out; omega)
        have hx1' := (HI.out.below.cell (block_lt hx1)).trans hx1
        have hjn : (j : Int) < ns.length := by omega
        have hnf : ¬ (j : Int) < f := by omega
        have hl1 := block_lt hx1
        have HY1 := Lib.hid hx1
        clear hx1
        have ejf : ((j : Int) == f) = true := by simpa using hjf
        clear hjf
        generalize zs.getD j 0 = z at *
        cases u
        · have HRD := Lib.hid (read_ok HI.out j (by rw [HSL.out]; exact hlt) HSD.out b (by rw [HSC.out]; exact hwant))
          clear hwant
          go_wp2_with (go_at_call 11; refine HRD.out.mono ?_; rintro e w7 ⟨bb, oo, cp, rfl, hx, hm⟩; have HM7 := Lib.hid hm; have hx1'' : w7.cell? ⟨b1, o1 + j, none⟩ = some (.int .u8 z) := (hm.below.cell hl1).trans HY1.out; clear hm)
          all_goals exact ⟨⟨j + 1, by omega, by go_num, HM7.out⟩, by simp [intOf]; omega⟩
        · have HRD := Lib.hid (read_torn HI.out j (by rw [HSL.out]; exact hlt) HSD.out b (by rw [HSC.out]; exact hwant))
          clear hwant
          go_wp2_with (go_at_call 11; refine HRD.out.mono ?_; rintro e w7 ⟨rfl, hm⟩; have HM7 := Lib.hid hm; have hx1'' : w7.cell? ⟨b1, o1 + j, none⟩ = some (.int .u8 z) := (hm.below.cell hl1).trans HY1.out; clear hm)
          all_goals exact ⟨⟨j + 1, by omega, by go_num, HM7.out⟩, by simp [intOf]; omega⟩
      · rw [if_neg (fun h => hjf h.2)] at hwant
        by_cases hjl : (j : Int) < f
        · have hjn : j < ns.length := by omega
          rw [if_pos ⟨hjn, hjl⟩] at hwant
          obtain ⟨b2, o2, e2, hc2⟩ := HC2.out (by omega)
          subst e2
          have hx1 := HC1.out j (by have := HZL.out; omega)
          have hx2 := hc2 j hjn
          have hl1 := block_lt hx1
          have hl2 := block_lt hx2
          have hx1' := (HI.out.below.cell hl1).trans hx1
          have hx2' := (HI.out.below.cell hl2).trans hx2
          have HY1 := Lib.hid hx1
          have HY2 := Lib.hid hx2
          clear hx1 hx2 hc2
          generalize zs.getD j 0 = z at *
          generalize ns.getD j 0 = y at *
          have HRD := Lib.hid (read_ok HI.out j (by rw [HSL.out]; exact hlt) HSD.out y (by rw [HSC.out]; exact hwant))
          clear hwant
          go_wp2_with (go_at_call 11; refine HRD.out.mono ?_; rintro e w7 ⟨bb, oo, cp, rfl, hx, hm⟩; have HM7 := Lib.hid hm; have hx1'' : w7.cell? ⟨b1, o1 + j, none⟩ = some (.int .u8 z) := (hm.below.cell hl1).trans HY1.out; have hx2'' : w7.cell? ⟨b2, o2 + j, none⟩ = some (.int .u8 y) := (hm.below.cell hl2).trans HY2.out; clear hm)
          all_goals exact ⟨⟨j + 1, by omega, by go_num, HM7.out⟩, by simp [intOf]; omega⟩
        · rw [if_neg (fun h => hjl h.2)] at hwant
          have hx1 := HC1.out j (by have := HZL.out; omega)
          have hl1 := block_lt hx1
          have hx1' := (HI.out.below.cell hl1).trans hx1
          have HY1 := Lib.hid hx1
          clear hx1
          generalize zs.getD j 0 = z at *
          have HRD := Lib.hid (read_ok HI.out j (by rw [HSL.out]; exact hlt) HSD.out z (by rw [HSC.out]; exact hwant))
          clear hwant
          go_wp2_with (go_at_call 11; refine HRD.out.mono ?_; rintro e w7 ⟨bb, oo, cp, rfl, hx, hm⟩; have HM7 := Lib.hid hm; have hx1'' : w7.cell? ⟨b1, o1 + j, none⟩ = some (.int .u8 z) := (hm.below.cell hl1).trans HY1.out; clear hm)
          all_goals exact ⟨⟨j + 1, by omega, by go_num, HM7.out⟩, by simp [intOf]; omega⟩

set_option maxRecDepth 20000 in
set_option maxHeartbeats 8000000 in
theorem walkL (v : Value) (zs : List Int) (v2 : Value) (ns : List Int) (f b : Int) (u : Bool) (w : World) (hv : BytesV w v zs) (hv2 : BytesV w v2 ns) (hf : (Lit.int .i64 f).wf = true) (hb : (Lit.int .u8 b).wf = true) (c1 : ¬ zs.length < 1) (c2 : ¬ 100 < zs.length) (c3 : ¬ zs.length < ns.length) (c4 : ¬ f < 0) (hdd : ¬ f < ns.length) :
    Calls Try.prog 4 #[v, v2, .int .i64 f, .int .u8 b, .bool u] w fun e w' => e = .returned (.bool true) ∧ Below w.heap.size w w' := by
  obtain ⟨ao, cap, rfl, h1, h2⟩ := hv.shape
  obtain ⟨ao2, cap2, rfl, h3, h4⟩ := hv2.shape
  have hf' := wf_i64 hf
  have hb' := wf_u8 hb
  have HV := Lib.hid hv
  have HV2 := Lib.hid hv2
  clear hv hv2 hf hb
  unfold maxLen at h2 h4
  have hK : Hid (∀ x : World, Calls Try.prog 8 #[] x fun e w' => e = .returned (.bool true) ∧ Grow x w') := fun x => known_any x
  obtain ⟨n, hn⟩ : ∃ n, zs.length = n := ⟨_, rfl⟩
  have HN := Lib.hid (new_any n w (by omega) (by omega))
  have hn1 : 1 ≤ n := by omega
  have hn2 : n ≤ 100 := by omega
  have hns : ns.length ≤ n := by omega
  have hf0 : 0 ≤ f := by omega
  rw [hn] at h1 c1 c2 c3
  have HZL := Lib.hid hn
  have HSP : Hid (wrote (St.fresh n) 0 zs = ⟨zs.map (fun z => (z, false)), -1, 0, false, false⟩) := by
    have := wrote_splice zs (List.replicate n 0) 0 (by simp; omega)
    have e : splice (List.replicate n 0) 0 zs = zs := by simp [splice, hn]
    rw [e] at this
    rw [← this]
    show wrote _ _ _ = wrote _ _ _
    simp [St.fresh]
  obtain ⟨q1, q2, q3⟩ := wrote_want zs ns f b u hf0 (by omega)
  obtain ⟨F, hF⟩ : ∃ F, wrote ⟨zs.map (fun z => (z, false)), f, b, u, false⟩ 0 ns = F := ⟨_, rfl⟩
  rw [hF] at q1 q2 q3
  have HF := Lib.hid hF
  have HD := Lib.hid q1
  have HFL : Hid (F.cells.length = n) := q2.trans hn
  have HFC : Hid (∀ i : Nat, i < n → F.cells.getD i (0, false) = want zs ns f b u i) := fun i hi => q3 i (by omega)
  clear hF q1 q2 q3 hn
  have hdb : decide (f < (ns.length : Int)) = false := by simp; omega
  go_enter Try.func4, Try.ntmps4
  rw [HZL.out]
  go_wp2_with fail
  refine HN.out.mono ?_
  rintro e w1 ⟨P, g, rfl, hs, hgr, hP, hg⟩
  have HM := Lib.hid (Mine.of_new hs hgr hP hg); clear hs hgr hP hg
  have HW1 := Lib.hid (mine_write HM.out 0 _ zs (held_of HV.out HM.out.below HM.out.hP HM.out.hg) (by simp [St.fresh]; have := HZL.out; omega) rfl _ 0 HSP.out rfl)
  rw [HZL.out] at HW1
  go_wp2_with fail
  refine HW1.out.mono ?_
  rintro e w2 ⟨rfl, hm2, _⟩
  have HM2 := Lib.hid hm2
  clear hm2 HM HW1
  go_wp2_with fail
  refine (mine_fuse HM2.out f b u hf' hb').mono ?_
  rintro e w3 ⟨rfl, hm3, _⟩
  have HM3 : Hid (Mine w w3 P g ⟨zs.map (fun z => (z, false)), f, b, u, false⟩) := by
    have := hm3
    simp only [show max f (-1) = f by omega] at this
    exact this
  clear hm3 HM2
  have HW2 := Lib.hid (mine_write HM3.out 0 _ ns (held_of HV2.out HM3.out.below HM3.out.hP HM3.out.hg) (by simp only [List.length_map]; have := HZL.out; omega) rfl F _ HF.out rfl)
  obtain ⟨b1, o1, c5, e1, _, _, hcell1⟩ := HV.out.2.solidC (fun h => by have := HZL.out; rw [h] at this; simp at this; omega)
  injection e1 with e1 _ e1'
  subst e1; subst e1'
  have HC1 := Lib.hid hcell1
  clear hcell1
  have HC2 : Hid (0 < ns.length → ∃ b2 o2 : Nat, ao2 = some ⟨b2, o2, none⟩ ∧ ∀ i, i < ns.length → w.cell? ⟨b2, o2 + i, none⟩ = some (.int .u8 (ns.getD i 0))) := by
    intro h0
    obtain ⟨b2, o2, _, e2, _, _, hc⟩ := HV2.out.2.solidC (fun h => by rw [h] at h0; simp at h0)
    injection e2 with e2 _ _
    exact ⟨b2, o2, e2, hc⟩
  clear HV HV2
  have hfd : F.dead = false := by rw [HD.out]; simpa using hdd
  rw [hfd] at HW2
  go_wp2_with fail
  refine HW2.out.mono ?_
  rintro e w4 ⟨rfl, hm4, _⟩
  have HM4 := Lib.hid hm4
  have HDE := Lib.hid (dead_any hm4.store)
  rw [hfd] at HDE
  clear hm4 HM3 hfd
  go_wp2_with (go_at_call 13; refine HDE.out.mono ?_; rintro e w5 ⟨rfl, rfl⟩)
  refine (mine_raise HM4.out).mono ?_
  rintro e w6 ⟨rfl, hm6, _⟩
  obtain ⟨ST, hST⟩ : ∃ ST, ({ F with dead := false, fuse := -1 } : St) = ST := ⟨_, rfl⟩
  rw [hST] at hm6
  have HSL : Hid (ST.cells.length = n) := by subst hST; exact HFL.out
  have HSD : Hid (ST.dead = false) := by subst hST; rfl
  have HSC : Hid (∀ i, ST.cells.getD i (0, false) = F.cells.getD i (0, false)) := by subst hST; exact fun _ => rfl
  have HM6 := Lib.hid hm6
  clear hm6 HM4 hST HW2 HDE HN HSP
  go_wp2_with fail
  go_loopw [15] (fun i wr => ∃ j : Nat, j ≤ n ∧ i = .int .i64 j ∧ Hid (Mine w wr P g ST)) (fun i _ => n - (intOf i).toNat)
  case atStart => exact ⟨0, Nat.zero_le _, rfl, HM6.out⟩
  case round =>
    obtain ⟨j, hj, rfl, HI⟩ := hrel
    by_cases hlt : j < n
    case neg =>
      have hjn : j = n := by omega
      subst hjn
      go_wp2_with (go_at_call 8; refine (hK.out _).mono ?_; rintro e w' ⟨rfl, hg⟩; have HG := Lib.hid hg; clear hg)
      go_ret
      exact ⟨rfl, HI.out.below.trans (Below.mono HG.out HI.out.below.size)⟩
    case pos =>
    · have hwant := HFC.out j hlt
      unfold want at hwant
      rw [if_neg (fun h => by have h1 := h.1; omega)] at hwant
      by_cases hjn : j < ns.length
      · have hjl : (j : Int) < f := by omega
        rw [if_pos ⟨hjn, hjl⟩] at hwant
        obtain ⟨b2, o2, e2, hc2⟩ := HC2.out (by omega)
        subst e2
        have hx1 := HC1.out j (by have := HZL.out; omega)
        have hx2 := hc2 j hjn
        have hl1 := block_lt hx1
        have hl2 := block_lt hx2
        have hx1' := (HI.out.below.cell hl1).trans hx1
        have hx2' := (HI.out.below.cell hl2).trans hx2
        have HY1 := Lib.hid hx1
        have HY2 := Lib.hid hx2
        clear hx1 hx2 hc2
        generalize zs.getD j 0 = z at *
        generalize ns.getD j 0 = y at *
        have HRD := Lib.hid (read_ok HI.out j (by rw [HSL.out]; exact hlt) HSD.out y (by rw [HSC.out]; exact hwant))
        clear hwant
        go_wp2_with (go_at_call 11; refine HRD.out.mono ?_; rintro e w7 ⟨bb, oo, cp, rfl, hx, hm⟩; have HM7 := Lib.hid hm; have hx1'' : w7.cell? ⟨b1, o1 + j, none⟩ = some (.int .u8 z) := (hm.below.cell hl1).trans HY1.out; have hx2'' : w7.cell? ⟨b2, o2 + j, none⟩ = some (.int .u8 y) := (hm.below.cell hl2).trans HY2.out; clear hm)
        all_goals exact ⟨⟨j + 1, by omega, by go_num, HM7.out⟩, by simp [intOf]; omega⟩
      · rw [if_neg (fun h => hjn h.1)] at hwant
        have hx1 := HC1.out j (by have := HZL.out; omega)
        have hl1 := block_lt hx1
        have hx1' := (HI.out.below.cell hl1).trans hx1
        have HY1 := Lib.hid hx1
        clear hx1
        generalize zs.getD j 0 = z at *
        have HRD := Lib.hid (read_ok HI.out j (by rw [HSL.out]; exact hlt) HSD.out z (by rw [HSC.out]; exact hwant))
        clear hwant
        go_wp2_with (go_at_call 11; refine HRD.out.mono ?_; rintro e w7 ⟨bb, oo, cp, rfl, hx, hm⟩; have HM7 := Lib.hid hm; have hx1'' : w7.cell? ⟨b1, o1 + j, none⟩ = some (.int .u8 z) := (hm.below.cell hl1).trans HY1.out; clear hm)
        all_goals exact ⟨⟨j + 1, by omega, by go_num, HM7.out⟩, by simp [intOf]; omega⟩

theorem walk (v : Value) (zs : List Int) (v2 : Value) (ns : List Int) (f b : Int) (u : Bool) (w : World) (hv : BytesV w v zs) (hv2 : BytesV w v2 ns) (hf : (Lit.int .i64 f).wf = true) (hb : (Lit.int .u8 b).wf = true) :
    Calls Try.prog 4 #[v, v2, .int .i64 f, .int .u8 b, .bool u] w fun e w' => e = .returned (.bool true) ∧ Below w.heap.size w w' := by
  by_cases c1 : zs.length < 1
  · exact walk0 v zs v2 ns f b u w hv hv2 hf hb (Or.inl c1)
  by_cases c2 : 100 < zs.length
  · exact walk0 v zs v2 ns f b u w hv hv2 hf hb (Or.inr (Or.inl c2))
  by_cases c3 : zs.length < ns.length
  · exact walk0 v zs v2 ns f b u w hv hv2 hf hb (Or.inr (Or.inr (Or.inl c3)))
  by_cases c4 : f < 0
  · exact walk0 v zs v2 ns f b u w hv hv2 hf hb (Or.inr (Or.inr (Or.inr c4)))
  by_cases hdd : f < ns.length
  · exact walkD v zs v2 ns f b u w hv hv2 hf hb c1 c2 c3 c4 hdd
  · exact walkL v zs v2 ns f b u w hv hv2 hf hb c1 c2 c3 c4 hdd


set_option maxRecDepth 100000 in
theorem lifted (os : Os) (started : os.Started) (H : Type) (enc : TypeId × Value → H) :
    ReturnsInHanded {} Try.checked os 4 .any (Rows.storeTearsSpec.pre6 enc Try.prog Try.f4 Rows.storeTearsRow.domain false) (Rows.storeTearsSpec.post enc Try.prog Try.f4 false true false false) := by
  refine returnsInHanded_of_change (C := Try.checked) own started (by kernel_rfl) Try.func4
    (ChangeSpec.witness6 (enc := enc) (C := Try.checked) false ⟨#[], #[.slice none 0 0, .slice none 0 0, .int .i64 0, .int .u8 0, .bool false], []⟩ 8 (by kernel_rfl) (by kernel_rfl) (by kernel_rfl) (by kernel_rfl)) ?_
  intro W base args ds gs before hval0 hW hcnd _
  have hval : ∀ (j : Nat) t v, Try.f4.params[j]? = some t → args[j]? = some v → Value.okWide Try.prog W .any base t v := hval0
  have hW' := hW
  obtain ⟨p, q, hA0, hV, rfl, hfz, hnd⟩ := hW
  have hA : DataW.TrodAll enc Try.prog W 0 (fun _ => true) true Try.f4.params.toList args.toList ds p := hA0
  rw [Try.params4] at hA hval
  obtain ⟨v0, vs0, d0, ds0, p0, q0, hargs, rfl, rfl, h0, r0⟩ := trodAll_cons hA
  obtain ⟨v1, vs1, d1, ds1, p1, q1, rfl, rfl, rfl, h1, r1⟩ := trodAll_cons r0
  obtain ⟨v2, vs2, d2, ds2, p2, q2, rfl, rfl, rfl, h2, r2⟩ := trodAll_cons r1
  obtain ⟨v3, vs3, d3, ds3, p3, q3, rfl, rfl, rfl, h3, r3⟩ := trodAll_cons r2
  obtain ⟨v4, vs4, d4, ds4, p4, q4, rfl, rfl, rfl, h4, r4⟩ := trodAll_cons r3
  obtain ⟨rfl, rfl, rfl⟩ := trodAll_nil r4
  obtain rfl : args = #[v0, v1, v2, v3, v4] := by cases args; simp_all
  obtain ⟨rfl, rfl⟩ := trodVars_none hV
  have k0 := h0
  have lt0 : ∀ x ∈ p0, x.block < W.heap.size := by obtain ⟨m, hm⟩ := k0; exact DataW.trod_lt m _ _ _ hm
  have k1 := h1
  have lt1 : ∀ x ∈ p1, x.block < W.heap.size := by obtain ⟨m, hm⟩ := k1; exact DataW.trod_lt m _ _ _ hm
  have k2 := h2
  have lt2 : ∀ x ∈ p2, x.block < W.heap.size := by obtain ⟨m, hm⟩ := k2; exact DataW.trod_lt m _ _ _ hm
  have k3 := h3
  have lt3 : ∀ x ∈ p3, x.block < W.heap.size := by obtain ⟨m, hm⟩ := k3; exact DataW.trod_lt m _ _ _ hm
  have k4 := h4
  have lt4 : ∀ x ∈ p4, x.block < W.heap.size := by obtain ⟨m, hm⟩ := k4; exact DataW.trod_lt m _ _ _ hm
  obtain ⟨z0, w0⟩ : ∃ zs, BytesV W v0 zs := open_bytes Try.underlying29 Try.underlying5 (by kernel_rfl) (hval 0 29 v0 rfl rfl) h0
  obtain ⟨z1, w1⟩ : ∃ zs, BytesV W v1 zs := open_bytes Try.underlying29 Try.underlying5 (by kernel_rfl) (hval 1 29 v1 rfl rfl) h1
  obtain ⟨a2, rfl, e2, f2, w2⟩ := open_int Try.underlying3 (hval 2 3 v2 rfl rfl) h2
  obtain ⟨a3, rfl, e3, f3, w3⟩ := open_int Try.underlying5 (hval 3 5 v3 rfl rfl) h3
  obtain ⟨a4, rfl, e4, f4⟩ := open_bool Try.underlying4 (hval 4 4 v4 rfl rfl) h4
  clear hA0 hval0
  refine (walk v0 z0 v1 z1 a2 a3 a4 W w0 w1 w2 w3).mono fun e W' ⟨he, bel⟩ => ?_
  subst he
  exact ⟨_, rfl, _, _, _, [], _, [], hW', trodAll_mk1 (shut_bool Try.underlying4 _), (trodAll_cons_mk (Below.trod laidOut (by kernel_rfl) (of_decide_eq_true (by kernel_rfl)) k0 bel lt0) (trodAll_cons_mk (Below.trod laidOut (by kernel_rfl) (of_decide_eq_true (by kernel_rfl)) k1 bel lt1) (trodAll_cons_mk (Below.trod laidOut (by kernel_rfl) (of_decide_eq_true (by kernel_rfl)) k2 bel lt2) (trodAll_cons_mk (Below.trod laidOut (by kernel_rfl) (of_decide_eq_true (by kernel_rfl)) k3 bel lt3) (trodAll_cons_mk (Below.trod laidOut (by kernel_rfl) (of_decide_eq_true (by kernel_rfl)) k4 bel lt4) trodAll_mk0))))), rfl, bel.frame _, fun h => by cases h⟩

theorem over : Rows.storeTearsRow.holds Try.pinned (OpenSpec.ofChange Rows.storeTearsSpec) :=
  OpenClaim.holds_of_wide 4 Try.f4 rfl rfl rfl rfl rfl rfl rfl ⟨rfl, rfl, rfl, rfl, rfl⟩ rfl rfl rfl rfl rfl (by kernel_rfl) Try.func4 (by kernel_rfl)
    (of_decide_eq_true (by kernel_rfl)) (by unfold Func.isWrapper; first | (rw [if_pos (by decide +kernel)]; kernel_rfl) | (rw [if_neg (by decide +kernel)]; exact ⟨rfl, rfl⟩))
    (fun os started H enc _ => lifted os started H enc)

/-- The statement. -/
theorem proved : Rows.StoreTearsSaid := over
end Go.Proofs.Yteakedikmaobfaa.storeTears
