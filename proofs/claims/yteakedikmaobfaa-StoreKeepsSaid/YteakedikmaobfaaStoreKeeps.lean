/- What was written is read. -/
import Derived.Test.YteakedikmaobfaaRows
import Derived.Test.YteakedikmaobfaaStKnown
import Derived.Test.YteakedikmaobfaaOpenInts
import Derived.WalkKit
import Derived.ProofKit
import Derived.OpenShut
import Derived.ShutString
import Derived.ChangeOld
import Derived.Below
import Derived.Laws.CopyOwn
set_option linter.unusedVariables false
namespace Go.Proofs.Yteakedikmaobfaa.storeKeeps
open Go.ChangeShapes Go.WideShapes Go.ChangeAt Go.RowKit
open Go.ChangeMaps (open_string shut_string)

theorem own : ownKnob Try.prog.godebug = none := by kernel_rfl
theorem laidOut : laidOutB Try.prog = true := by kernel_rfl


theorem wrote_splice (bs : List Int) : ∀ (zs : List Int) (k : Nat), k + bs.length ≤ zs.length → wrote ⟨zs.map (fun z => (z, false)), -1, 0, false, false⟩ k bs = ⟨(splice zs k bs).map (fun z => (z, false)), -1, 0, false, false⟩ := by
  induction bs with
  | nil => intro zs k h; simp [wrote, splice]
  | cons b r ih =>
    intro zs k h
    have h' : k + (r.length + 1) ≤ zs.length := by simpa using h
    have e : wrote ⟨zs.map (fun z => (z, false)), -1, 0, false, false⟩ k (b :: r) = wrote ⟨(zs.set k b).map (fun z => (z, false)), -1, 0, false, false⟩ (k + 1) r := by
      rw [wrote, if_neg (by show ¬ (-1 : Int) = 0; omega)]
      congr 1
      simp [St.put1, List.map_set]
    rw [e, ih (zs.set k b) (k + 1) (by simp; omega)]
    have hk : k < zs.length := by omega
    have e1 : (zs.set k b).take (k + 1) = zs.take k ++ [b] := by
      rw [List.take_succ_eq_append_getElem (by simpa using hk)]
      simp [List.take_set_of_le (Nat.le_refl k)]
    have e2 : (zs.set k b).drop (k + 1 + r.length) = zs.drop (k + (r.length + 1)) := by
      rw [List.drop_set_of_lt (by omega)]; congr 1; omega
    have e3 : splice (zs.set k b) (k + 1) r = splice zs k (b :: r) := by
      unfold splice
      rw [e1, e2, List.length_cons]
      simp
    rw [e3]

theorem made_bytes (n : Nat) : (madeCells #[Value.int .u8 0] n).toList = (List.replicate n (0 : Int)).map (Value.int .u8) := by
  refine List.ext_getElem? fun i => ?_
  by_cases hi : i < n
  · simp [madeCells, hi, Nat.mod_one]
  · rw [List.getElem?_eq_none (by simp [madeCells]; omega), List.getElem?_eq_none (by simp; omega)]

theorem row_of_made {w2 : World} {base B m : Nat} (ho : w2.ownsRow base 5 1 (.slice (some ⟨B, 0, none⟩) m m) m (madeCells #[Value.int .u8 0] m).toList) :
    w2.heap[B]? = some (.cells ((List.replicate m (0 : Int)).map (Value.int .u8)).toArray 5 (0, 0)) := by
  rcases ho.2 with ⟨h', _⟩ | ⟨g', cap', cur, h', _, hg, _, _, hcs, htake⟩
  · simp at h'
  · simp only [Value.slice.injEq, Option.some.injEq, Addr.mk.injEq, and_true, true_and] at h'
    obtain ⟨rfl, rfl⟩ := h'
    rw [hg]
    have : cur = ((List.replicate m (0 : Int)).map (Value.int .u8)).toArray := by
      apply Array.ext'
      rw [← made_bytes, ← htake, List.take_of_length_le (by rw [Array.length_toList]; omega)]
    rw [this]

/-- What stands at the loop's head. -/
def KI (w0 wr : World) (n P g B : Nat) : Prop :=
  ∃ zs : List Int, zs.length = n ∧ Bytes zs ∧ Mine w0 wr P g ⟨zs.map (fun z => (z, false)), -1, 0, false, false⟩ ∧ wr.heap[B]? = some (.cells (zs.map (Value.int .u8)).toArray 5 (0, 0))

set_option maxRecDepth 20000 in
set_option maxHeartbeats 1000000 in
theorem walk (n : Int) (l : Value) (al : List Int) (l2 : Value) (rows : List (List Int)) (w : World) (hn : (Lit.int .i64 n).wf = true) (ha : (∀ a ∈ al, (Lit.int .i64 a).wf = true) ∧ IntsV .i64 w l al) (hr : RowsV w l2 rows) :
    Calls Try.prog 3 #[.int .i64 n, l, l2] w fun e w' => e = .returned (.bool true) ∧ Below w.heap.size w w' := by
  obtain ⟨ao, cap, rfl, h1, h2⟩ := ha.2.shape
  obtain ⟨ao2, cap2, rfl, h3, h4⟩ := hr.shape
  have hn' := wf_i64 hn
  have HA := Lib.hid ha
  have HR := Lib.hid hr
  clear ha hr hn
  unfold maxLen at h2 h4
  by_cases hc : n < 1 ∨ 60 < n ∨ 60 < al.length ∨ 60 < rows.length
  · have hK : Hid (∀ x : World, Calls Try.prog 8 #[] x fun e w' => e = .returned (.bool true) ∧ Grow x w') := fun x => known_any x
    by_cases c1 : n < 1
    · clear hc
      go_enter Try.func3, Try.ntmps3
      go_wp2_with (go_at_call 8; refine (hK.out _).mono ?_; rintro e w' ⟨rfl, hg⟩; have HG := Lib.hid hg; clear hg)
      go_ret
      exact ⟨rfl, HG.out⟩
    by_cases c2 : 60 < n
    · clear hc
      go_enter Try.func3, Try.ntmps3
      go_wp2_with (go_at_call 8; refine (hK.out _).mono ?_; rintro e w' ⟨rfl, hg⟩; have HG := Lib.hid hg; clear hg)
      go_ret
      exact ⟨rfl, HG.out⟩
    by_cases c3 : 60 < al.length
    · clear hc
      go_enter Try.func3, Try.ntmps3
      go_wp2_with (go_at_call 8; refine (hK.out _).mono ?_; rintro e w' ⟨rfl, hg⟩; have HG := Lib.hid hg; clear hg)
      go_ret
      exact ⟨rfl, HG.out⟩
    have c4 : 60 < rows.length := by omega
    clear hc
    go_enter Try.func3, Try.ntmps3
    go_wp2_with (go_at_call 8; refine (hK.out _).mono ?_; rintro e w' ⟨rfl, hg⟩; have HG := Lib.hid hg; clear hg)
    go_ret
    exact ⟨rfl, HG.out⟩
  · obtain ⟨m, rfl⟩ : ∃ m : Nat, n = m := ⟨n.toNat, by omega⟩
    have hm1 : 1 ≤ m := by omega
    have hm2 : m ≤ 60 := by omega
    have ha60 : al.length ≤ 60 := by omega
    have hr60 : rows.length ≤ 60 := by omega
    clear hc
    have HN := Lib.hid (new_any m w hm1 (by omega))
    obtain ⟨i0, hi, hz0, hz1, hz2⟩ := info_parts infoByte
    by_cases hE : al = [] ∨ rows = []
    · have hEl : al.length = 0 ∨ rows.length = 0 := by rcases hE with h | h <;> simp [h]
      clear hE
      go_enter Try.func3, Try.ntmps3
      go_wp2_with fail
      refine HN.out.mono ?_
      rintro e w1 ⟨P, g, rfl, hs, hgr, hP, hg⟩
      have HM := Lib.hid (Mine.of_new hs hgr hP hg); clear hs hgr hP hg
      go_wp2_with (at_make; refine wpList_make_full _ rfl _ _ 29 rfl w.heap.size 5 i0 (.int .u8 0) 1 Try.underlying29 hi hz0 hz1 _ _ _ _ m rfl rfl rfl rfl (by rw [hz2]; omega) (by unfold maxLen; omega) HM.out.below.size ?_)
      intro w2 ho hgr
      have hgw : Grow w1 w2 := ⟨hgr.os, hgr.tape, hgr.output, hgr.size, fun q hq => hgr.block q hq (by simp)⟩
      have HM2 := Lib.hid (HM.out.grow hgw)
      clear ho hgr hgw HM
      rcases hEl with hEl | hEl
      all_goals
        rw [hEl]
        go_wp2_with fail
        refine wp_loop_rounds 1 ?_
        rw [rounds_succ]
        go_wp2_with (go_at_call 8; refine (known_any _).mono ?_; rintro e w3 ⟨rfl, hg3⟩; have HG3 := Lib.hid hg3; clear hg3)
        all_goals
          go_ret
          exact ⟨rfl, HM2.out.below.trans (Below.mono HG3.out HM2.out.below.size)⟩
    · obtain ⟨b1, o1, c1, e1, _, hc1, hcell1⟩ := HA.out.2.solidC (fun h => hE (Or.inl h))
      obtain ⟨b2, o2, c2, e2, _, hc2, hcell2⟩ := HR.out.solid (fun h => hE (Or.inr h))
      injection e1 with e1 _ e1'
      injection e2 with e2 _ e2'
      subst e1; subst e2; subst e1'; subst e2'
      have HC1 := Lib.hid hcell1
      have HC2 := Lib.hid hcell2
      clear hcell1 hcell2 hE
      go_enter Try.func3, Try.ntmps3
      go_wp2_with fail
      refine HN.out.mono ?_
      rintro e w1 ⟨P, g, rfl, hs, hgr, hP, hg⟩
      have HM := Lib.hid (Mine.of_new hs hgr hP hg); clear hs hgr hP hg
      go_wp2_with (at_make; refine wpList_make_full _ rfl _ _ 29 rfl w.heap.size 5 i0 (.int .u8 0) 1 Try.underlying29 hi hz0 hz1 _ _ _ _ m rfl rfl rfl rfl (by rw [hz2]; omega) (by unfold maxLen; omega) HM.out.below.size ?_)
      intro w2 ho hgr
      have hgw : Grow w1 w2 := ⟨hgr.os, hgr.tape, hgr.output, hgr.size, fun q hq => hgr.block q hq (by simp)⟩
      have HM2 := Lib.hid (HM.out.grow hgw)
      have hPB : P < w1.heap.size := HM.out.store.ltP
      have hgB : g < w1.heap.size := HM.out.store.ltG
      have hwB : w.heap.size ≤ w1.heap.size := HM.out.below.size
      have HKI : Hid (KI w w2 m P g w1.heap.size) := by
        refine ⟨List.replicate m 0, by simp, ?_, ?_, ?_⟩
        · intro z hz; simp at hz; rw [hz.2]; decide
        · have := HM2.out; simpa [St.fresh] using this
        · exact row_of_made ho
      clear ho hgr hgw HM HM2
      generalize w1.heap.size = B at *
      go_wp2_with fail
      go_loopw [10] (fun i wr => ∃ j : Nat, j ≤ al.length ∧ j ≤ rows.length ∧ i = .int .i64 j ∧ Hid (KI w wr m P g B))
        (fun i _ => al.length - (intOf i).toNat)
      case atStart => exact ⟨0, Nat.zero_le _, Nat.zero_le _, rfl, HKI.out⟩
      case round =>
        obtain ⟨j, hj1, hj2, rfl, HI⟩ := hrel
        by_cases hlt : j < al.length ∧ j < rows.length
        · obtain ⟨hl1, hl2⟩ := hlt
          obtain ⟨zs, hzl, hzb, hmz, hrow⟩ := HI.out
          have HZL := Lib.hid hzl
          have HZB := Lib.hid hzb
          have HMZ := Lib.hid hmz
          have HROW := Lib.hid hrow
          have hbel : Below w.heap.size w wr := hmz.below
          have hx1 := HC1.out j hl1
          have hx1' := (hbel.cell (block_lt hx1)).trans hx1
          have hA : -9223372036854775808 ≤ al.getD j 0 ∧ al.getD j 0 ≤ 9223372036854775807 := by
            have e : al.getD j 0 = al[j] := by simp [hl1]
            rw [e]; exact wf_i64 (HA.out.1 _ (List.getElem_mem hl1))
          obtain ⟨x, hx2, hbx⟩ := HC2.out j hl2
          have hx2' := (hbel.cell (block_lt hx2)).trans hx2
          have HBX : Hid (Held P g wr x (rows.getD j [])) := held_of hbx hbel HMZ.out.hP HMZ.out.hg
          have HBX2 : Hid (BytesV w x (rows.getD j [])) := hbx
          clear hx1 hx2 hbel hzl hzb hmz hrow
          generalize al.getD j 0 = a at *
          generalize rows.getD j [] = bs at *
          obtain ⟨ao3, cap3, rfl, hb1, hb2⟩ := hbx.shape
          clear hbx
          have hr1 : -(m : Int) < a.tmod m ∧ a.tmod m < m := ⟨by have := Int.lt_tmod_of_pos a (b := (m : Int)) (by omega); omega, Int.tmod_lt_of_pos a (by omega)⟩
          have hw64 : wrap64 (a.tmod m + m) = a.tmod m + m := IntWalk.wrap64_in _ (by omega)
          obtain ⟨k, hk⟩ : ∃ k : Nat, (a.tmod m + m).tmod m = k := ⟨((a.tmod m + m).tmod m).toNat, by have := Int.tmod_nonneg (m : Int) (show 0 ≤ a.tmod m + m by omega); omega⟩
          have hkm : k < m := by have := Int.tmod_lt_of_pos (a.tmod m + m) (show (0 : Int) < m by omega); omega
          have hnk : ¬ m = k := by omega
          clear hA hr1
          by_cases hbad : (m : Int) - k < bs.length
          · have HW := Lib.hid (write_bad HMZ.out.store _ bs HBX.out.now k (by omega) (by simp only [wrongOf]; rw [if_pos (by simp only [List.length_map]; have := HZL.out; omega)]; decide))
            have hwr : wrongOf ⟨zs.map (fun z => (z, false)), -1, 0, false, false⟩ k bs.length = 2 := by
              simp only [wrongOf]; rw [if_pos (by simp only [List.length_map]; have := HZL.out; omega)]
            rw [hwr] at HW
            have hbad' : m < k + bs.length := by omega
            clear hwr hbad HBX HBX2 HZL HZB HROW
            generalize bs.length = bl at *
            clear HMZ
            go_wp2_with fail
            refine HW.out.mono ?_; rintro e w3 ⟨rfl, rfl⟩
            go_wp2_with fail
            go_roundw
            case rel => first | exact ⟨j + 1, by omega, by omega, by go_num, HI.out⟩ | ((repeat apply Exists.intro); exact ⟨⟨j + 1, by omega, by omega, by go_num, HI.out⟩, rfl⟩)
            case measure => simp [intOf]; omega
          · have hbl : k + bs.length ≤ m := by omega
            clear hbad
            have HB : Hid (k + bs.length ≤ zs.length) := by show k + bs.length ≤ zs.length; have := HZL.out; omega
            have HBB := Lib.hid HBX2.out.1
            have hsl : (splice zs k bs).length = m := by rw [length_splice _ _ _ HB.out]; exact HZL.out
            have hsb : Bytes (splice zs k bs) := by
              intro z hz
              unfold splice at hz
              rcases List.mem_append.1 hz with h | h
              · exact HZB.out z (List.mem_of_mem_take h)
              · rcases List.mem_append.1 h with h | h
                · exact HBB.out z h
                · exact HZB.out z (List.mem_of_mem_drop h)
            have HW := Lib.hid (mine_write HMZ.out k _ bs HBX.out (by simp only [List.length_map]; exact HB.out) rfl _ 0 (wrote_splice bs zs k HB.out) rfl)
            have HSRC : Hid (∀ w', GrowBut (Own P g) wr w' → 0 < bs.length → ∃ ad, ao3 = some ad ∧ ∀ (j : Nat) (v : Value), (bs.map (Value.int .u8))[j]? = some v → w'.cell? (ad.add j) = some v) := by
              intro w' hw' h0
              obtain ⟨b, off, c, e, _, _, hc⟩ := (HBX.out w' hw').2.solidC (fun h => by rw [h] at h0; simp at h0)
              injection e with e1 _ _
              refine ⟨_, e1, fun i v hv => ?_⟩
              have hi : i < bs.length := by
                rcases Nat.lt_or_ge i bs.length with h | h
                · exact h
                · rw [List.getElem?_eq_none (by simpa using h)] at hv; cases hv
              rw [Addr.add_lit, hc i hi]
              simpa [hi] using hv
            have HCL : Hid ((bs.map (Value.int .u8)).length = bs.length) := by show _ = _; simp
            have HZ2 : Hid ((zs.map (Value.int .u8)).length = m) := by show _ = _; simp; exact HZL.out
            have HSP : Hid (splice (zs.map (Value.int .u8)) k (bs.map (Value.int .u8)) = (splice zs k bs).map (Value.int .u8)) := by show _ = _; simp [splice]
            have HONE : Hid (∀ v ∈ bs.map (Value.int .u8), v.oneCell' = true) := by intro v hv; obtain ⟨z, _, rfl⟩ := List.mem_map.1 hv; rfl
            have HSL := Lib.hid hsl
            have HSB := Lib.hid hsb
            clear hsl hsb HI HBX HBX2 HZB HBB HB
            generalize bs.map (Value.int .u8) = bvs at *
            generalize zs.map (Value.int .u8) = zvs at *
            generalize bs.length = bl at *
            go_wp2_with fail
            refine HW.out.mono ?_
            rintro e w3 ⟨rfl, hm3, hg3⟩
            have HM3 := Lib.hid hm3
            have HG3 := Lib.hid hg3
            have HROW3 : Hid (w3.heap[B]? = some (.cells zvs.toArray 5 (0, 0))) := (hg3.block B (lt_of_block HROW.out) (by simp only [Own]; omega)).trans HROW.out
            clear hm3 hg3 HW HROW HMZ
            go_wp2_with (refine wpList_copy_splice rfl (.tmp 85) (.tmp 86) 29 29 rfl 5 Try.underlying29 (by rw [hi]; simp [hz1]) _ _ _ _ _ _ rfl rfl B k zvs 5 HROW3.out bvs ?c1 ?c2 ?c3 HONE.out B w3 (Below.refl _ _) (Nat.le_refl _) ?c4)
            case c1 => rw [HCL.out]; exact (Nat.min_eq_left (by omega)).symm
            case c2 => intro h0; rw [HCL.out] at h0; obtain ⟨ad, h1, h2⟩ := HSRC.out w3 HG3.out h0; first | exact ⟨ad, h1, h2⟩ | exact ⟨by simp, ad, h1, h2⟩
            case c3 => rw [HCL.out, HZ2.out]; omega
            case c4 =>
              rw [HSP.out, HCL.out]
              intro w4 hr4 hb4
              have hm4 : Mine w w4 P g ⟨(splice zs k bs).map (fun z => (z, false)), -1, 0, false, false⟩ := by
                refine ⟨?_, HM3.out.below.trans (Below.mono hb4 hwB), HM3.out.hP, HM3.out.hg⟩
                refine HM3.out.store.stay (M := fun q => ¬ q < B) ⟨hb4.os, hb4.tape, hb4.output, hb4.size, fun q _ hq => hb4.block q (by omega)⟩ (by omega) (by omega)
              have HM4 := Lib.hid hm4
              clear hb4 hm4 HM3 HG3 HSRC HROW3
              have HRD := Lib.hid (mine_read HM4.out 0 m (by simp only [List.length_map]; have := HSL.out; omega) rfl (splice zs k bs) (by unfold part; rw [List.drop_zero, List.take_of_length_le (by rw [List.length_map, HSL.out]; exact Nat.le_refl _)]))
              generalize splice zs k bs = zn at *
              go_wp2_with fail
              refine HRD.out.mono ?_
              rintro e w5 ⟨v, rfl, hbv, hm5, hg5⟩
              have hconv := str_of hbv
              have hrow5 : w5.heap[B]? = some (.cells (zn.map (Value.int .u8)).toArray 5 (0, 0)) := (hg5.block B (lt_of_block hr4.out)).trans hr4.out
              have hown : BytesV w5 (.slice (some ⟨B, 0, none⟩) m m) zn := by
                refine ⟨HSB.out, Or.inr ⟨B, 0, m, by rw [HSL.out], by rw [HSL.out]; exact Nat.le_refl _, by unfold maxLen; omega, fun q hq => ?_⟩⟩
                simp [World.cell?, hrow5, hq]
              have hconv2 := str_of hown
              have HKI5 : Hid (KI w w5 m P g B) := ⟨zn, HSL.out, HSB.out, hm5, hrow5⟩
              clear hr4 hown hrow5 hg5 hm5 hbv HRD
              generalize strOfNums zn = S at *
              go_wp2_with fail
              all_goals first | exact ⟨⟨j + 1, by omega, by omega, by go_num, HKI5.out⟩, by simp [intOf]; omega⟩ | skip
        · obtain ⟨zs, hzl, hzb, hmz, hrow⟩ := HI.out
          have hB := Lib.hid hmz.below
          clear hzl hzb hmz hrow HI
          by_cases hl1 : j < al.length
          · have hl2 : j = rows.length := by omega
            subst hl2
            clear hlt
            go_wp2_with (go_at_call 8; refine (known_any _).mono ?_; rintro e w3 ⟨rfl, hg3⟩; have HG3 := Lib.hid hg3; clear hg3)
            go_ret
            exact ⟨rfl, hB.out.trans (Below.mono HG3.out hB.out.size)⟩
          · have hl2 : j = al.length := by omega
            subst hl2
            clear hlt
            go_wp2_with (go_at_call 8; refine (known_any _).mono ?_; rintro e w3 ⟨rfl, hg3⟩; have HG3 := Lib.hid hg3; clear hg3)
            all_goals
              go_ret
              exact ⟨rfl, hB.out.trans (Below.mono HG3.out hB.out.size)⟩


set_option maxRecDepth 100000 in
theorem lifted (os : Os) (started : os.Started) (H : Type) (enc : TypeId × Value → H) :
    ReturnsInHanded {} Try.checked os 3 .any (Rows.storeKeepsSpec.pre6 enc Try.prog Try.f3 Rows.storeKeepsRow.domain false) (Rows.storeKeepsSpec.post enc Try.prog Try.f3 false true false false) := by
  refine returnsInHanded_of_change (C := Try.checked) own started (by kernel_rfl) Try.func3
    (ChangeSpec.witness6 (enc := enc) (C := Try.checked) false ⟨#[], #[.int .i64 0, .slice none 0 0, .slice none 0 0], []⟩ 8 (by kernel_rfl) (by kernel_rfl) (by kernel_rfl) (by kernel_rfl)) ?_
  intro W base args ds gs before hval0 hW hcnd _
  have hval : ∀ (j : Nat) t v, Try.f3.params[j]? = some t → args[j]? = some v → Value.okWide Try.prog W .any base t v := hval0
  have hW' := hW
  obtain ⟨p, q, hA0, hV, rfl, hfz, hnd⟩ := hW
  have hA : DataW.TrodAll enc Try.prog W 0 (fun _ => true) true Try.f3.params.toList args.toList ds p := hA0
  rw [Try.params3] at hA hval
  obtain ⟨v0, vs0, d0, ds0, p0, q0, hargs, rfl, rfl, h0, r0⟩ := trodAll_cons hA
  obtain ⟨v1, vs1, d1, ds1, p1, q1, rfl, rfl, rfl, h1, r1⟩ := trodAll_cons r0
  obtain ⟨v2, vs2, d2, ds2, p2, q2, rfl, rfl, rfl, h2, r2⟩ := trodAll_cons r1
  obtain ⟨rfl, rfl, rfl⟩ := trodAll_nil r2
  obtain rfl : args = #[v0, v1, v2] := by cases args; simp_all
  obtain ⟨rfl, rfl⟩ := trodVars_none hV
  have k0 := h0
  have lt0 : ∀ x ∈ p0, x.block < W.heap.size := by obtain ⟨m, hm⟩ := k0; exact DataW.trod_lt m _ _ _ hm
  have k1 := h1
  have lt1 : ∀ x ∈ p1, x.block < W.heap.size := by obtain ⟨m, hm⟩ := k1; exact DataW.trod_lt m _ _ _ hm
  have k2 := h2
  have lt2 : ∀ x ∈ p2, x.block < W.heap.size := by obtain ⟨m, hm⟩ := k2; exact DataW.trod_lt m _ _ _ hm
  obtain ⟨a0, rfl, e0, f0, w0⟩ := open_int Try.underlying3 (hval 0 3 v0 rfl rfl) h0
  obtain ⟨z1, w1⟩ := open_nums (k := .i64) (P := Try.prog) Try.underlying22 Try.underlying3 (by kernel_rfl) (hval 1 22 v1 rfl rfl) h1
  obtain ⟨z2, w2⟩ : ∃ rows, RowsV W v2 rows := open_rows Try.underlying23 Try.underlying29 Try.underlying5 (by kernel_rfl) (by kernel_rfl) (hval 2 23 v2 rfl rfl) h2
  clear hA0 hval0
  refine (walk a0 v1 z1 v2 z2 W w0 w1 w2).mono fun e W' ⟨he, bel⟩ => ?_
  subst he
  exact ⟨_, rfl, _, _, _, [], _, [], hW', trodAll_mk1 (shut_bool Try.underlying4 _), (trodAll_cons_mk (Below.trod laidOut (by kernel_rfl) (of_decide_eq_true (by kernel_rfl)) k0 bel lt0) (trodAll_cons_mk (Below.trod laidOut (by kernel_rfl) (of_decide_eq_true (by kernel_rfl)) k1 bel lt1) (trodAll_cons_mk (Below.trod laidOut (by kernel_rfl) (of_decide_eq_true (by kernel_rfl)) k2 bel lt2) trodAll_mk0))), rfl, bel.frame _, fun h => by cases h⟩

theorem over : Rows.storeKeepsRow.holds Try.pinned (OpenSpec.ofChange Rows.storeKeepsSpec) :=
  OpenClaim.holds_of_wide 3 Try.f3 rfl rfl rfl rfl rfl rfl rfl ⟨rfl, rfl, rfl, rfl, rfl⟩ rfl rfl rfl rfl rfl (by kernel_rfl) Try.func3 (by kernel_rfl)
    (of_decide_eq_true (by kernel_rfl)) (by unfold Func.isWrapper; first | (rw [if_pos (by decide +kernel)]; kernel_rfl) | (rw [if_neg (by decide +kernel)]; exact ⟨rfl, rfl⟩))
    (fun os started H enc _ => lifted os started H enc)

/-- The statement. -/
theorem proved : Rows.StoreKeepsSaid := over
end Go.Proofs.Yteakedikmaobfaa.storeKeeps
