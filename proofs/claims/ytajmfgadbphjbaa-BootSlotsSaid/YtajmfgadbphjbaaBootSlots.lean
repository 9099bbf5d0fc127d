/- Slots, and which bytes are good ones: what the program tells is what the document tells. -/
import Derived.Test.YtajmfgadbphjbaaRows
import Derived.Test.YtajmfgadbphjbaaSumOpen
import Derived.Test.YtajmfgadbphjbaaBoKnown
import Derived.WalkKit
import Derived.ProofKit
import Derived.OpenShut
import Derived.ShutString
import Derived.ChangeOld
import Derived.Below
set_option linter.unusedVariables false
namespace Go.Proofs.Ytajmfgadbphjbaa.bootSlots
open Go.ChangeShapes Go.WideShapes Go.ChangeAt Go.RowKit
open Go.ChangeMaps (open_string shut_string)

theorem own : ownKnob Try.prog.godebug = none := by kernel_rfl
theorem laidOut : laidOutB Try.prog = true := by kernel_rfl

theorem goodv {w : World} {v : Value} {zs : List Int} (h : BytesV w v zs) : Calls Try.prog 9 #[v] w fun e w' => e = .returned (.tuple #[.int .u64 (goodNum zs), .bool (decide (GoodB zs))]) ∧ Grow w w' := by
  by_cases hl : zs.length = 16
  · obtain ⟨b, off, c, rfl, h1, h2⟩ := h.2.solid (fun e => by rw [e] at hl; simp at hl)
    have hc := h.2.cells
    rw [hl] at h1 hc ⊢
    exact good_any h.1 hl hc h1 h2
  · obtain ⟨ao, c, rfl, h1, h2⟩ := h.shape
    have hn : ¬ GoodB zs := fun hg => hl hg.1
    refine (good_other ao _ c w hl h2 h1).mono ?_
    rintro e w' ⟨rfl, rfl⟩
    exact ⟨by rw [goodNum, if_neg hn, decide_eq_false hn], Grow.refl _⟩
theorem rgoodv {w : World} {v : Value} {zs : List Int} (h : BytesV w v zs) : Calls Try.prog 11 #[v] w fun e w' => e = .returned (.tuple #[.int .u64 (goodNum zs), .bool (decide (GoodB zs))]) ∧ Grow w w' := by
  by_cases hl : zs.length = 16
  · obtain ⟨b, off, c, rfl, h1, h2⟩ := h.2.solid (fun e => by rw [e] at hl; simp at hl)
    have hc := h.2.cells
    rw [hl] at h1 hc ⊢
    exact rgood_any h.1 hl hc h1 h2
  · obtain ⟨ao, c, rfl, h1, h2⟩ := h.shape
    have hn : ¬ GoodB zs := fun hg => hl hg.1
    refine (rgood_other ao _ c w hl h2 h1).mono ?_
    rintro e w' ⟨rfl, rfl⟩
    exact ⟨by rw [goodNum, if_neg hn, decide_eq_false hn], Grow.refl _⟩

set_option maxRecDepth 20000 in
set_option maxHeartbeats 2000000 in
theorem walk (n : Int) (v : Value) (zs : List Int) (w : World) (w0 : (Lit.int .u64 n).wf = true) (hv : BytesV w v zs) :
    Calls Try.prog 3 #[.int .u64 n, v] w fun e w' => e = .returned (.bool true) ∧ Below w.heap.size w w' := by
  have hn := wf_u64 w0
  have HSl : Hid (∀ x, Calls Try.prog 8 #[.int .u64 n] x fun e w' => ∃ v, e = .returned v ∧ NewBytes x (slotB n) v w') := fun x => slot_any n x hn
  have HRS : Hid (∀ x, Calls Try.prog 10 #[.int .u64 n] x fun e w' => ∃ v, e = .returned v ∧ NewBytes x (slotB n) v w') := fun x => refslot_any n x hn
  have HGv : Hid (∀ w1, Grow w w1 → Calls Try.prog 9 #[v] w1 fun e w' => e = .returned (.tuple #[.int .u64 (goodNum zs), .bool (decide (GoodB zs))]) ∧ Grow w1 w') := fun w1 h => goodv (hv.mono h)
  have HRGv : Hid (∀ w1, Grow w w1 → Calls Try.prog 11 #[v] w1 fun e w' => e = .returned (.tuple #[.int .u64 (goodNum zs), .bool (decide (GoodB zs))]) ∧ Grow w1 w') := fun w1 h => rgoodv (hv.mono h)
  have HG0 : Hid (goodNum (slotB n) = n ∧ decide (GoodB (slotB n)) = true) := by
    obtain ⟨h1, h2⟩ := slotB_good hn
    exact ⟨by rw [goodNum, if_pos h1, h2], decide_eq_true h1⟩
  have HB := Lib.hid (slotB_bytes n)
  obtain ⟨ao, cap, rfl, hlc, hcm⟩ := hv.shape
  unfold maxLen at hcm
  clear hn w0 hv
  generalize zs.length = m at *
  generalize goodNum zs = gn at *
  generalize decide (GoodB zs) = gb at *
  by_cases hm : 40 < m
  · go_enter Try.func3, Try.ntmps3
    go_wp2_with (go_at_call 7; refine (known_any _).mono ?_; rintro e w' ⟨rfl, hg⟩; have HG := Lib.hid hg; clear hg)
    go_ret
    exact ⟨rfl, HG.out⟩
  go_enter Try.func3, Try.ntmps3
  go_wp2_with fail
  refine (HSl.out _).mono ?_
  rintro e w1 ⟨v1, rfl, h1⟩
  have HW1 := Lib.hid h1.2
  have HB1 := Lib.hid (newb_bytes h1 HB.out)
  have hg9 := goodv HB1.out
  rw [HG0.out.1, HG0.out.2] at hg9
  have HG9 := Lib.hid hg9
  clear h1 hg9
  go_wp2_with fail
  refine HG9.out.mono ?_
  rintro e w2 ⟨rfl, hg⟩
  have HB2 := Lib.hid (HB1.out.mono hg)
  have HW2 := Lib.hid (HW1.out.trans hg)
  clear hg
  go_wp2_with fail
  refine wp_region_grow 15 [] NoBlock (fun _ => True) (by kernel_rfl) (by kernel_rfl) (by rfl) (fun _ _ _ _ => trivial) trivial ?_
  simp only [List.take_succ_cons, List.take_zero, List.drop_succ_cons, List.drop_zero]
  repeat (refine wpH_pure (by intro _ _ h; cases h) (by rfl) (by rfl) (fun K hK => ?_); go_simp; refine hK _ ?_; clear hK K)
  refine wpH_det (.string (strOfNums (slotB n))) (by rfl) (fun xs => by rfl) (fun xs w' hg hf => ?_) ?_
  · have hc := str_of (HB2.out.mono hg.below)
    clear hf
    generalize strOfNums (slotB n) = sx at *
    go_simp
    exact Below.refl _ _
  repeat (refine wpH_pure (by intro _ _ h; cases h) (by rfl) (by rfl) (fun K hK => ?_); go_simp; refine hK _ ?_; clear hK K)
  refine wpH_hid (fun u w => BytesV w u (slotB n)) rfl (by rfl) (bytes_stay _) (fun xs => by rfl) (fun xs w' hg hf => ?_) ?_
  · clear hf
    go_simp
    refine (HRS.out _).mono ?_
    rintro e w1 ⟨v, rfl, h⟩
    exact ⟨v, rfl, newb_bytes h HB.out, h.2⟩
  refine wpH_det (.string (strOfNums (slotB n))) (by rfl) (fun xs => by rfl) (fun xs w' hg hf => ?_) ?_
  · have h1 := hf _ (List.Mem.head _) (by rfl); dsimp only at h1
    have hc := str_of h1
    clear hf h1
    generalize strOfNums (slotB n) = sx at *
    go_simp
    exact Below.refl _ _
  try go_simp
  generalize strOfNums (slotB n) = sx at *
  repeat (refine wpH_pure (by intro _ _ h; cases h) (by rfl) (by rfl) (fun K hK => ?_); go_simp; refine hK _ ?_; clear hK K)
  refine wpH_nil ?_
  intro xs w3 hg _ _
  have HW3 : Hid (Grow w w3) := HW2.out.trans hg.below
  clear hg
  generalize xs 24 = x1
  simp only [fill]
  go_simp
  go_wp2_with fail
  refine (HGv.out _ HW3.out).mono ?_
  rintro e w4 ⟨rfl, hg⟩
  have HW4 := Lib.hid (HW3.out.trans hg)
  clear hg
  go_wp2_with fail
  refine (HRGv.out _ HW4.out).mono ?_
  rintro e w5 ⟨rfl, hg⟩
  have HW5 := Lib.hid (HW4.out.trans hg)
  clear hg
  go_wp2_with (go_at_call 7; refine (known_any _).mono ?_; rintro e w' ⟨rfl, hg⟩; have HG := Lib.hid (HW5.out.trans hg); clear hg)
  go_ret
  exact ⟨by simp, HG.out⟩


set_option maxRecDepth 100000 in
theorem lifted (os : Os) (started : os.Started) (H : Type) (enc : TypeId × Value → H) :
    ReturnsInHanded {} Try.checked os 3 .any (Rows.bootSlotsSpec.pre6 enc Try.prog Try.f3 Rows.bootSlotsRow.domain false) (Rows.bootSlotsSpec.post enc Try.prog Try.f3 false true false false) := by
  refine returnsInHanded_of_change (C := Try.checked) own started (by kernel_rfl) Try.func3
    (ChangeSpec.witness6 (enc := enc) (C := Try.checked) false ⟨#[], #[.int .u64 0, .slice none 0 0], []⟩ 8 (by kernel_rfl) (by kernel_rfl) (by kernel_rfl) (by kernel_rfl)) ?_
  intro W base args ds gs before hval0 hW hcnd _
  have hval : ∀ (j : Nat) t v, Try.f3.params[j]? = some t → args[j]? = some v → Value.okWide Try.prog W .any base t v := hval0
  have hW' := hW
  obtain ⟨p, q, hA0, hV, rfl, hfz, hnd⟩ := hW
  have hA : DataW.TrodAll enc Try.prog W 0 (fun _ => true) true Try.f3.params.toList args.toList ds p := hA0
  rw [Try.params3] at hA hval
  obtain ⟨v0, vs0, d0, ds0, p0, q0, hargs, rfl, rfl, h0, r0⟩ := trodAll_cons hA
  obtain ⟨v1, vs1, d1, ds1, p1, q1, rfl, rfl, rfl, h1, r1⟩ := trodAll_cons r0
  obtain ⟨rfl, rfl, rfl⟩ := trodAll_nil r1
  obtain rfl : args = #[v0, v1] := by cases args; simp_all
  obtain ⟨rfl, rfl⟩ := trodVars_none hV
  have k0 := h0
  have lt0 : ∀ x ∈ p0, x.block < W.heap.size := by obtain ⟨m, hm⟩ := k0; exact DataW.trod_lt m _ _ _ hm
  have k1 := h1
  have lt1 : ∀ x ∈ p1, x.block < W.heap.size := by obtain ⟨m, hm⟩ := k1; exact DataW.trod_lt m _ _ _ hm
  obtain ⟨a0, rfl, e0, f0, w0⟩ := open_int Try.underlying22 (hval 0 22 v0 rfl rfl) h0
  obtain ⟨z1, w1⟩ : ∃ zs, BytesV W v1 zs := open_bytes Try.underlying23 Try.underlying5 (by kernel_rfl) (hval 1 23 v1 rfl rfl) h1
  clear hA0 hval0
  refine (walk a0 v1 z1 W w0 w1).mono fun e W' ⟨he, bel⟩ => ?_
  subst he
  exact ⟨_, rfl, _, _, _, [], _, [], hW', trodAll_mk1 (shut_bool Try.underlying4 _), (trodAll_cons_mk (Below.trod laidOut (by kernel_rfl) (of_decide_eq_true (by kernel_rfl)) k0 bel lt0) (trodAll_cons_mk (Below.trod laidOut (by kernel_rfl) (of_decide_eq_true (by kernel_rfl)) k1 bel lt1) trodAll_mk0)), rfl, bel.frame _, fun h => by cases h⟩

theorem over : Rows.bootSlotsRow.holds Try.pinned (OpenSpec.ofChange Rows.bootSlotsSpec) :=
  OpenClaim.holds_of_wide 3 Try.f3 rfl rfl rfl rfl rfl rfl rfl ⟨rfl, rfl, rfl, rfl, rfl⟩ rfl rfl rfl rfl rfl (by kernel_rfl) Try.func3 (by kernel_rfl)
    (of_decide_eq_true (by kernel_rfl)) (by unfold Func.isWrapper; first | (rw [if_pos (by decide +kernel)]; kernel_rfl) | (rw [if_neg (by decide +kernel)]; exact ⟨rfl, rfl⟩))
    (fun os started H enc _ => lifted os started H enc)

/-- The statement. -/
theorem proved : Rows.BootSlotsSaid := over
end Go.Proofs.Ytajmfgadbphjbaa.bootSlots
