/- What is answered without a store, and with one that is too small, or new. -/
import Derived.Test.YtajmfgadbphjbaaRows
import Derived.Test.YtajmfgadbphjbaaBoKnown
import Derived.WalkKit
import Derived.ProofKit
import Derived.OpenShut
import Derived.ShutString
import Derived.ChangeOld
import Derived.Below
set_option linter.unusedVariables false
namespace Go.Proofs.Ytajmfgadbphjbaa.bootNil
open Go.ChangeShapes Go.WideShapes Go.ChangeAt Go.RowKit
open Go.ChangeMaps (open_string shut_string)

theorem own : ownKnob Try.prog.godebug = none := by kernel_rfl
theorem laidOut : laidOutB Try.prog = true := by kernel_rfl

theorem b_nil (w : World) : Calls Try.prog 14 #[.pointer none] w fun e w' => e = .returned (.tuple #[.int .u64 0, .int .i64 1]) ∧ Grow w w' :=
  begin_why (by decide) ((slots_nil (fun x _ => len_nil x)).mono fun e w' ⟨he, hg⟩ => ⟨⟨_, _, _, _, _, he⟩, hg⟩)
theorem c_nil (w : World) : Calls Try.prog 15 #[.pointer none] w fun e w' => e = .returned (.tuple #[.int .u64 0, .int .i64 1]) ∧ Grow w w' :=
  count_of (n0 := 0) (n1 := 0) (g0 := false) (g1 := false) ((slots_nil (fun x _ => len_nil x)).mono fun e w' ⟨he, hg⟩ => ⟨⟨_, _, _, _, he⟩, hg⟩)

theorem f31 : whyOf (St.fresh 31) = 2 ∧ cntOf (St.fresh 31) = 0 ∧ beginNum (St.fresh 31) = 0 ∧ beginErr (St.fresh 31) = 2 := by decide +kernel
theorem f31s : beginSt (St.fresh 31) = St.fresh 31 := by unfold beginSt; rw [f31.1, if_neg (fun h => absurd h.1 (by decide))]
theorem f32 : whyOf (St.fresh 32) = 8 ∧ beginNum (St.fresh 32) = 0 ∧ beginErr (St.fresh 32) = 8 := by decide +kernel
theorem f32s : beginSt (St.fresh 32) = St.fresh 32 := by unfold beginSt; rw [f32.1, if_neg (fun h => absurd h.1 (by decide))]

theorem apart {M : Nat → Prop} {w0 w w' : World} {P g : Nat} {st : St} (h : Mine w0 w P g st) (hg : GrowBut M w w') (h1 : ¬ M P) (h2 : ¬ M g) (h3 : ∀ k, M k → w0.heap.size ≤ k) : Mine w0 w' P g st :=
  ⟨h.store.stay hg h1 h2, ⟨hg.os.trans h.below.os, hg.tape.trans h.below.tape, hg.output.trans h.below.output, Nat.le_trans h.below.size hg.size, fun k hk => (hg.block k (Nat.lt_of_lt_of_le hk h.below.size) (fun hh => by have := h3 k hh; omega)).trans (h.below.block k hk)⟩, h.hP, h.hg⟩

set_option maxRecDepth 20000 in
set_option maxHeartbeats 2000000 in
theorem walk (w : World) : Calls Try.prog 5 #[] w fun e w' => e = .returned (.bool true) ∧ Below w.heap.size w w' := by
  go_enter Try.func5, Try.ntmps5
  go_wp2_with fail
  refine (b_nil _).mono ?_
  rintro e w1 ⟨rfl, hg⟩
  have HW1 := Lib.hid hg
  clear hg
  go_wp2_with fail
  refine (c_nil _).mono ?_
  rintro e w2 ⟨rfl, hg⟩
  have HW2 := Lib.hid (HW1.out.trans hg)
  clear hg
  go_wp2_with fail
  refine (new_any 31 w2 (by omega) (by omega)).mono ?_
  rintro e w3 ⟨P, g, rfl, hs, hgr, hP, hg⟩
  have HM : Hid (Mine w w3 P g (St.fresh 31)) := ⟨hs, HW2.out.trans hgr, Nat.le_trans HW2.out.size hP, Nat.le_trans HW2.out.size hg⟩
  clear hs hgr hP hg
  go_wp2_with fail
  refine (mine_begin HM.out 0 2 _ f31.2.2.1 f31.2.2.2 f31s).mono ?_
  rintro e w4 ⟨rfl, hm⟩
  have HM4 := Lib.hid hm
  clear hm
  have hc := count_any HM4.out.store
  rw [f31.1, f31.2.1] at hc
  have HC := Lib.hid hc
  clear hc
  go_wp2_with fail
  refine HC.out.mono ?_
  rintro e w5 ⟨rfl, hg⟩
  have HM5 := Lib.hid (HM4.out.grow hg)
  clear hg
  go_wp2_with fail
  refine (new_any 32 w5 (by omega) (by omega)).mono ?_
  rintro e w6 ⟨P2, g2, rfl, hs2, hgr2, hP2, hg2⟩
  have HM6 := Lib.hid (HM5.out.grow hgr2)
  have HS2 := Lib.hid hs2
  have HL : Hid (P < P2 ∧ g < P2 ∧ P < g2 ∧ g < g2 ∧ w.heap.size ≤ P2 ∧ w.heap.size ≤ g2) := by
    have := HM5.out.store.ltP
    have := HM5.out.store.ltG
    have := HM5.out.below.size
    refine ⟨?_, ?_, ?_, ?_, ?_, ?_⟩ <;> omega
  clear hs2 hgr2 hP2 hg2
  have hb := begin_any HS2.out
  rw [f32.2.1, f32.2.2, f32s] at hb
  have HB := Lib.hid hb
  clear hb
  go_wp2_with fail
  refine HB.out.mono ?_
  rintro e w7 ⟨rfl, _, hg⟩
  have HM7 : Hid (Mine w w7 P g (St.fresh 31)) := by
    have hl := HL.out
    exact apart HM6.out hg (by simp only [Own]; omega) (by simp only [Own]; omega) (fun k hk => by simp only [Own] at hk; omega)
  clear hg
  go_wp2_with fail
  refine (make_nil _).mono ?_
  rintro e w8 ⟨rfl, hg⟩
  have HM8 := Lib.hid (HM7.out.grow hg)
  clear hg
  go_wp2_with fail
  refine (make_small HM8.out.store (by decide)).mono ?_
  rintro e w9 ⟨rfl, rfl⟩
  go_wp2_with fail
  refine (known_any _).mono ?_
  rintro e w9 ⟨rfl, hg⟩
  have HG := Lib.hid (HM8.out.grow hg).below
  clear hg
  go_wp2_with fail
  go_ret
  exact ⟨rfl, HG.out⟩


set_option maxRecDepth 100000 in
theorem lifted (os : Os) (started : os.Started) (H : Type) (enc : TypeId × Value → H) :
    ReturnsInHanded {} Try.checked os 5 .any (Rows.bootNilSpec.pre6 enc Try.prog Try.f5 Rows.bootNilRow.domain false) (Rows.bootNilSpec.post enc Try.prog Try.f5 false true false false) := by
  refine returnsInHanded_of_change (C := Try.checked) own started (by kernel_rfl) Try.func5
    (ChangeSpec.witness6 (enc := enc) (C := Try.checked) false ⟨#[], #[], []⟩ 8 (by kernel_rfl) (by kernel_rfl) (by kernel_rfl) (by kernel_rfl)) ?_
  intro W base args ds gs before hval0 hW hcnd _
  have hval : ∀ (j : Nat) t v, Try.f5.params[j]? = some t → args[j]? = some v → Value.okWide Try.prog W .any base t v := hval0
  have hW' := hW
  obtain ⟨p, q, hA0, hV, rfl, hfz, hnd⟩ := hW
  have hA : DataW.TrodAll enc Try.prog W 0 (fun _ => true) true Try.f5.params.toList args.toList ds p := hA0
  rw [Try.params5] at hA hval
  obtain ⟨hnil, rfl, rfl⟩ := trodAll_nil hA
  obtain rfl : args = #[] := by cases args; simp_all
  obtain ⟨rfl, rfl⟩ := trodVars_none hV
  clear hA0 hval0
  refine (walk  W ).mono fun e W' ⟨he, bel⟩ => ?_
  subst he
  exact ⟨_, rfl, _, _, _, [], _, [], hW', trodAll_mk1 (shut_bool Try.underlying4 _), trodAll_mk0, rfl, bel.frame _, fun h => by cases h⟩

theorem over : Rows.bootNilRow.holds Try.pinned (OpenSpec.ofChange Rows.bootNilSpec) :=
  OpenClaim.holds_of_wide 5 Try.f5 rfl rfl rfl rfl rfl rfl rfl ⟨rfl, rfl, rfl, rfl, rfl⟩ rfl rfl rfl rfl rfl (by kernel_rfl) Try.func5 (by kernel_rfl)
    (of_decide_eq_true (by kernel_rfl)) (by unfold Func.isWrapper; first | (rw [if_pos (by decide +kernel)]; kernel_rfl) | (rw [if_neg (by decide +kernel)]; exact ⟨rfl, rfl⟩))
    (fun os started H enc _ => lifted os started H enc)

/-- The statement. -/
theorem proved : Rows.BootNilSaid := over
end Go.Proofs.Ytajmfgadbphjbaa.bootNil
