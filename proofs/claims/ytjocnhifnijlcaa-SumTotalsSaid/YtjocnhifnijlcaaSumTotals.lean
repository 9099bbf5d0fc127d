/- The sum and the checksum of lists, one behind the other, are the chapter's, wherever they are parted; whether bytes are good; for any lists of at most 9000 bytes and parts, any at most 9000 bytes. -/
import Derived.Test.YtjocnhifnijlcaaRows
import Derived.Test.YtjocnhifnijlcaaSumOpen
import Derived.Test.YtjocnhifnijlcaaSumKnown
import Derived.Test.YtjocnhifnijlcaaSumRef
import Derived.Test.YtjocnhifnijlcaaSumJoin
import Derived.WalkKit
import Derived.ProofKit
import Derived.OpenShut
import Derived.ShutString
import Derived.ChangeOld
import Derived.Below
set_option linter.unusedVariables false
namespace Go.Proofs.Ytjocnhifnijlcaa.sumTotals
open Go.ChangeShapes Go.WideShapes Go.ChangeAt Go.RowKit
open Go.ChangeMaps (open_string shut_string)

theorem own : ownKnob Try.prog.godebug = none := by kernel_rfl
theorem laidOut : laidOutB Try.prog = true := by kernel_rfl

set_option maxHeartbeats 1000000 in
theorem walk (l : Value) (rows : List (List Int)) (v : Value) (zs : List Int) (w : World) (hl : RowsV w l rows) (hv : BytesV w v zs) :
    Calls Try.prog 3 #[l, v] w fun e w' => e = .returned (.bool true) ∧ Below w.heap.size w w' := by
  obtain ⟨ao, n, cap, rfl⟩ : ∃ ao n cap, l = .slice ao n cap := by
    rcases hl with ⟨_, ao, cap, rfl, _⟩ | ⟨b, off, cap, rfl, _⟩
    · exact ⟨_, _, _, rfl⟩
    · exact ⟨_, _, _, rfl⟩
  obtain ⟨ao2, cap2, rfl, hz1, hz2⟩ := hv.shape
  have HL := Lib.hid hl
  have HV := Lib.hid hv
  clear hl hv
  unfold maxLen at hz2
  go_enter Try.func3, Try.ntmps3
  go_wp2_with fail
  refine (much_any _ rows _ HL.out).mono ?_
  rintro e w' ⟨b, rfl, hb, rfl⟩
  have HB := Lib.hid hb
  clear hb
  cases b
  · by_cases h1 : 9000 < zs.length
    · go_wp2_with fail
      refine (known_any _).mono ?_; rintro e w' ⟨rfl, hg⟩
      have HG := Lib.hid hg
      clear hg
      go_wp2
      go_ret
      exact ⟨rfl, HG.out⟩
    · have hsz := HB.out rfl
      have hfz : rows.flatten.length ≤ 9000 := by omega
      have HF := Lib.hid hfz
      have HA : Hid (Bytes rows.flatten) := (HL.out.bytes).flat
      clear hsz hfz
      obtain ⟨fl, hfl⟩ : ∃ fl, rows.flatten = fl := ⟨_, rfl⟩
      have HFL := Lib.hid hfl
      clear hfl
      go_wp2_with fail
      refine (join_any _ rows _ HL.out HA.out HF.out).mono ?_
      rintro e w1 ⟨u, rfl, hu, hg1⟩
      have hF1 : fl.length ≤ 9000 := by rw [← HFL.out]; exact HF.out
      rw [HFL.out] at hu
      obtain ⟨ao3, cap3, rfl, _, _⟩ := hu.shape
      have HU := Lib.hid hu
      have HG1 := Lib.hid hg1
      clear hu hg1
      go_wp2_with fail
      refine (total_any _ rows _ (HL.out.mono HG1.out)).mono ?_
      rintro e w2 ⟨rfl, hg⟩
      rw [HFL.out]
      have HG2 : Hid (Grow w w2) := Grow.trans HG1.out hg
      have HU2 := Lib.hid (HU.out.mono hg)
      clear hg HU HG1
      go_wp2_with fail
      refine (refTotal_any _ fl _ HU2.out (by omega)).mono ?_
      rintro e w3 ⟨rfl, hg⟩
      have HG3 : Hid (Grow w w3) := Grow.trans HG2.out hg
      have HU3 := Lib.hid (HU2.out.mono hg)
      clear hg HU2 HG2
      go_wp2_with fail
      refine (check_any _ rows _ (HL.out.mono HG3.out)).mono ?_
      rintro e w4 ⟨rfl, hg⟩
      rw [HFL.out]
      have HG4 : Hid (Grow w w4) := Grow.trans HG3.out hg
      have HU4 := Lib.hid (HU3.out.mono hg)
      clear hg HU3 HG3
      go_wp2_with fail
      refine (refCheck_any _ fl _ HU4.out (by omega)).mono ?_
      rintro e w5 ⟨rfl, hg⟩
      have HG5 : Hid (Grow w w5) := Grow.trans HG4.out hg
      clear hg HU4 HG4
      have HR : Hid (RowsV (w5.alloc (.cells #[.slice ao2 zs.length cap2] 23)) (.slice (some ⟨w5.heap.size, 0, none⟩) 1 1) [zs]) :=
        rows_new (w := w5) [.slice ao2 zs.length cap2] [zs] 23 rfl (by simp [maxLen]) (fun i x hx => by
          match i, hx with
          | 0, hx => simp at hx; subst hx; exact HV.out.mono HG5.out)
      go_wp2_with fail
      refine (total_any _ _ _ HR.out).mono ?_
      rintro e w6 ⟨rfl, hg⟩
      have HG6 : Hid (Grow w w6) := Grow.trans (HG5.out.alloc _) hg
      clear hg HR HG5
      have e1 : [zs].flatten = zs := by simp
      rw [e1]
      clear e1
      go_wp2_with fail
      refine (refTotal_any _ zs _ (HV.out.mono HG6.out) (by omega)).mono ?_
      rintro e w7 ⟨rfl, hg⟩
      have HG7 : Hid (Grow w w7) := Grow.trans HG6.out hg
      clear hg HG6
      go_wp2_with fail
      refine (good_any _ zs _ (HV.out.mono HG7.out)).mono ?_
      rintro e w8 ⟨rfl, hg⟩
      have HG8 : Hid (Grow w w8) := Grow.trans HG7.out hg
      clear hg HG7
      go_wp2_with fail
      refine (refTotal_any _ zs _ (HV.out.mono HG8.out) (by omega)).mono ?_
      rintro e w9 ⟨rfl, hg⟩
      have HG9 : Hid (Grow w w9) := Grow.trans HG8.out hg
      clear hg HG8
      go_wp2_with fail
      refine (known_any _).mono ?_; rintro e w' ⟨rfl, hg⟩
      have HG : Hid (Grow w w') := Grow.trans HG9.out hg
      clear hg
      go_wp2
      go_ret
      exact ⟨rfl, HG.out⟩
  · go_wp2_with fail
    refine (known_any _).mono ?_; rintro e w' ⟨rfl, hg⟩
    have HG := Lib.hid hg
    clear hg
    go_wp2
    go_ret
    exact ⟨rfl, HG.out⟩


set_option maxRecDepth 100000 in
theorem lifted (os : Os) (started : os.Started) (H : Type) (enc : TypeId × Value → H) :
    ReturnsInHanded {} Try.checked os 3 .any (Rows.sumTotalsSpec.pre6 enc Try.prog Try.f3 Rows.sumTotalsRow.domain false) (Rows.sumTotalsSpec.post enc Try.prog Try.f3 false true false false) := by
  refine returnsInHanded_of_change (C := Try.checked) own started (by kernel_rfl) Try.func3
    (ChangeSpec.witness6 (enc := enc) (C := Try.checked) false ⟨#[], #[.slice none 0 0, .slice none 0 0], []⟩ 8 (by kernel_rfl) (by kernel_rfl) (by kernel_rfl) (by kernel_rfl)) ?_
  intro W base args ds gs before hval0 hW hcnd _
  have hval : ∀ (j : Nat) t v, Try.f3.params[j]? = some t → args[j]? = some v → Value.okWide Try.prog W .any base t v := hval0
  have hW' := hW
  obtain ⟨p, q, hA0, hV, rfl, hfz, hnd⟩ := hW
  have hA : DataW.TrodAll enc Try.prog W 0 (fun _ => true) true Try.f3.params.toList args.toList ds p := hA0
  rw [Try.params3] at hA hval
  obtain ⟨v0, vs0, d0, ds0, p0, q0, hargs, rfl, rfl, h0, r0⟩ := trodAll_cons hA
  obtain ⟨v1, vs1, d1, ds1, p1, q1, rfl, rfl, rfl, h1, r1⟩ := trodAll_cons r0
  obtain ⟨rfl, rfl, rfl⟩ := trodAll_nil r1
  obtain rfl : args = #[v0, v1] := by cases args; simp_all
  obtain ⟨rfl, rfl⟩ := trodVars_none hV
  have k0 := h0
  have lt0 : ∀ x ∈ p0, x.block < W.heap.size := by obtain ⟨m, hm⟩ := k0; exact DataW.trod_lt m _ _ _ hm
  have k1 := h1
  have lt1 : ∀ x ∈ p1, x.block < W.heap.size := by obtain ⟨m, hm⟩ := k1; exact DataW.trod_lt m _ _ _ hm
  obtain ⟨z0, w0⟩ : ∃ zs, RowsV W v0 zs := open_rows Try.underlying22 Try.underlying23 Try.underlying5 (by kernel_rfl) (by kernel_rfl) (hval 0 22 v0 rfl rfl) h0
  obtain ⟨z1, w1⟩ : ∃ zs, BytesV W v1 zs := open_bytes Try.underlying23 Try.underlying5 (by kernel_rfl) (hval 1 23 v1 rfl rfl) h1
  clear hA0 hval0
  refine (walk v0 z0 v1 z1 W w0 w1).mono fun e W' ⟨he, bel⟩ => ?_
  subst he
  exact ⟨_, rfl, _, _, _, [], _, [], hW', trodAll_mk1 (shut_bool Try.underlying4 _), (trodAll_cons_mk (Below.trod laidOut (by kernel_rfl) (of_decide_eq_true (by kernel_rfl)) k0 bel lt0) (trodAll_cons_mk (Below.trod laidOut (by kernel_rfl) (of_decide_eq_true (by kernel_rfl)) k1 bel lt1) trodAll_mk0)), rfl, bel.frame _, fun h => by cases h⟩

theorem over : Rows.sumTotalsRow.holds Try.pinned (OpenSpec.ofChange Rows.sumTotalsSpec) :=
  OpenClaim.holds_of_wide 3 Try.f3 rfl rfl rfl rfl rfl rfl rfl ⟨rfl, rfl, rfl, rfl, rfl⟩ rfl rfl rfl rfl rfl (by kernel_rfl) Try.func3 (by kernel_rfl)
    (of_decide_eq_true (by kernel_rfl)) (by unfold Func.isWrapper; first | (rw [if_pos (by decide +kernel)]; kernel_rfl) | (rw [if_neg (by decide +kernel)]; exact ⟨rfl, rfl⟩))
    (fun os started H enc _ => lifted os started H enc)

/-- The statement. -/
theorem proved : Rows.SumTotalsSaid := over
end Go.Proofs.Ytjocnhifnijlcaa.sumTotals
