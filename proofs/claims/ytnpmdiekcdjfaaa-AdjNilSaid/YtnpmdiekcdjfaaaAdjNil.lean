/- What an adjacency that is not there, and a zero one, answer. -/
import Derived.Test.YtnpmdiekcdjfaaaRows
import Derived.Test.YtnpmdiekcdjfaaaAdNo
import Derived.WalkKit
import Derived.ProofKit
import Derived.OpenShut
import Derived.ShutString
import Derived.ChangeOld
import Derived.Below
set_option linter.unusedVariables false
namespace Go.Proofs.Ytnpmdiekcdjfaaa.adjNil
open Go.ChangeShapes Go.WideShapes Go.ChangeAt Go.RowKit
open Go.ChangeMaps (open_string shut_string)
set_option linter.unusedSimpArgs false
theorem own : ownKnob Try.prog.godebug = none := by kernel_rfl
theorem laidOut : laidOutB Try.prog = true := by kernel_rfl

set_option maxRecDepth 20000 in
set_option maxHeartbeats 4000000 in
theorem walk (w : World) : Calls Try.prog 6 #[] w fun e w' => e = .returned (.bool true) ∧ Below w.heap.size w w' := by
  have q1 : ∀ x : World, (binOp .neq 27 (.pointer none) (.pointer none)).run Try.prog x = .ok (.bool false) x := fun _ => by kernel_rfl
  have HZ : Hid (∀ o : Obj, ((w.alloc (.cells #[.int .i64 0, .int .i64 0, .int .i64 0, .int .i64 0, .int .u64 0, .int .u64 0, .int .u64 0, .int .u64 0, .int .i64 0, .int .i64 0, .int .i64 0] 59)).alloc o).heap[w.heap.size]? = some (.cells #[.int .i64 0, .int .i64 0, .int .i64 0, .int .i64 0, .int .u64 0, .int .u64 0, .int .u64 0, .int .u64 0, .int .i64 0, .int .i64 0, .int .i64 0] 59 (0, 0))) := fun o => by
    rw [Below.heap_alloc _ _ _ (by simp)]; exact heap_alloc_new w _
  have BW : Hid (Grow w ((w.alloc (.cells #[.int .i64 0, .int .i64 0, .int .i64 0, .int .i64 0, .int .u64 0, .int .u64 0, .int .u64 0, .int .u64 0, .int .i64 0, .int .i64 0, .int .i64 0] 59)).alloc (.cells #[.pointer none, .pointer (some ⟨w.heap.size, 0, none⟩)] 27))) := ((Grow.refl w).alloc _).alloc _
  have BA0 : Hid (Grow ((w.alloc (.cells #[.int .i64 0, .int .i64 0, .int .i64 0, .int .i64 0, .int .u64 0, .int .u64 0, .int .u64 0, .int .u64 0, .int .i64 0, .int .i64 0, .int .i64 0] 59)).alloc (.cells #[.pointer none, .pointer (some ⟨w.heap.size, 0, none⟩)] 27)) ((w.alloc (.cells #[.int .i64 0, .int .i64 0, .int .i64 0, .int .i64 0, .int .u64 0, .int .u64 0, .int .u64 0, .int .u64 0, .int .i64 0, .int .i64 0, .int .i64 0] 59)).alloc (.cells #[.pointer none, .pointer (some ⟨w.heap.size, 0, none⟩)] 27))) := Grow.refl _
  have ZA0 : Hid (NoAd ((w.alloc (.cells #[.int .i64 0, .int .i64 0, .int .i64 0, .int .i64 0, .int .u64 0, .int .u64 0, .int .u64 0, .int .u64 0, .int .i64 0, .int .i64 0, .int .i64 0] 59)).alloc (.cells #[.pointer none, .pointer (some ⟨w.heap.size, 0, none⟩)] 27)) (.pointer none)) := Or.inl rfl
  have HL : Hid (((w.alloc (.cells #[.int .i64 0, .int .i64 0, .int .i64 0, .int .i64 0, .int .u64 0, .int .u64 0, .int .u64 0, .int .u64 0, .int .i64 0, .int .i64 0, .int .i64 0] 59)).alloc (.cells #[.pointer none, .pointer (some ⟨w.heap.size, 0, none⟩)] 27)).heap[w.heap.size + 1]? = some (.cells #[.pointer none, .pointer (some ⟨w.heap.size, 0, none⟩)] 27 (0, 0))) := by
    have := heap_alloc_new (w.alloc (.cells #[.int .i64 0, .int .i64 0, .int .i64 0, .int .i64 0, .int .u64 0, .int .u64 0, .int .u64 0, .int .u64 0, .int .i64 0, .int .i64 0, .int .i64 0] 59)) (.cells #[.pointer none, .pointer (some ⟨w.heap.size, 0, none⟩)] 27)
    rwa [World.size_alloc] at this
  go_enter Try.func6, Try.ntmps6
  go_wp2_with fail
  refine wp_loop_rounds 3 ?_
  rw [rounds_succ]
  go_wp2_with fail
  refine (no_hear (ZA0.out) ⟨1, 1, 1, 0, 0⟩).mono ?_
  rintro e wA1 ⟨rfl, hg⟩
  have ZA1 := Lib.hid (NoAd.grow (ZA0.out) hg)
  have BA1 := Lib.hid (Grow.trans (BA0.out) hg)
  clear hg ZA0 BA0
  go_wp2_with fail
  refine (no_say (ZA1.out)).mono ?_
  rintro e wA2 ⟨rfl, hg⟩
  have ZA2 := Lib.hid (NoAd.grow (ZA1.out) hg)
  have BA2 := Lib.hid (Grow.trans (BA1.out) hg)
  clear hg ZA1 BA1
  go_wp2_with fail
  refine (no_tick (ZA2.out.alloc _)).mono ?_
  rintro e w' ⟨rfl, rfl⟩
  go_wp2_with fail
  refine (no_view (ZA2.out.alloc _)).mono ?_
  rintro e wA3 ⟨rfl, hg⟩
  have ZA3 := Lib.hid (NoAd.grow (ZA2.out.alloc _) hg)
  have BA3 := Lib.hid (Grow.trans (BA2.out.alloc _) hg)
  clear hg ZA2 BA2
  go_wp2_with fail
  refine (no_accepts (ZA3.out) 0 0 0 0 0).mono ?_
  rintro e wA4 ⟨rfl, hg⟩
  have ZA4 := Lib.hid (NoAd.grow (ZA3.out) hg)
  have BA4 := Lib.hid (Grow.trans (BA3.out) hg)
  clear hg ZA3 BA3
  go_wp2_with fail
  refine (no_drop (ZA4.out)).mono ?_
  rintro e w' ⟨rfl, rfl⟩
  go_wp2_with fail
  refine (no_copy (ZA4.out)).mono ?_
  rintro e w' ⟨rfl, rfl⟩
  go_wp2_with fail
  rw [rounds_succ]
  have l1 : wA4.cell? ⟨w.heap.size + 1, 1, none⟩ = some (.pointer (some ⟨w.heap.size, 0, none⟩)) := by
    have e := (BA4.out.block _ (lt_of_block HL.out)).trans HL.out
    simp [World.cell?, e]
  have ZB0 : Hid (NoAd wA4 (.pointer (some ⟨w.heap.size, 0, none⟩))) := Or.inr ⟨_, rfl, (BA4.out.block _ (lt_of_block (HZ.out _))).trans (HZ.out _)⟩
  have BB0 : Hid (Grow ((w.alloc (.cells #[.int .i64 0, .int .i64 0, .int .i64 0, .int .i64 0, .int .u64 0, .int .u64 0, .int .u64 0, .int .u64 0, .int .i64 0, .int .i64 0, .int .i64 0] 59)).alloc (.cells #[.pointer none, .pointer (some ⟨w.heap.size, 0, none⟩)] 27)) wA4) := BA4.out
  clear BA4 ZA4 HZ HL
  go_wp2_with fail
  refine (no_hear (ZB0.out) ⟨1, 1, 1, 0, 0⟩).mono ?_
  rintro e wB1 ⟨rfl, hg⟩
  have ZB1 := Lib.hid (NoAd.grow (ZB0.out) hg)
  have BB1 := Lib.hid (Grow.trans (BB0.out) hg)
  clear hg ZB0 BB0
  go_wp2_with fail
  refine (no_say (ZB1.out)).mono ?_
  rintro e wB2 ⟨rfl, hg⟩
  have ZB2 := Lib.hid (NoAd.grow (ZB1.out) hg)
  have BB2 := Lib.hid (Grow.trans (BB1.out) hg)
  clear hg ZB1 BB1
  go_wp2_with fail
  refine (no_tick (ZB2.out.alloc _)).mono ?_
  rintro e w' ⟨rfl, rfl⟩
  go_wp2_with fail
  refine (no_view (ZB2.out.alloc _)).mono ?_
  rintro e wB3 ⟨rfl, hg⟩
  have ZB3 := Lib.hid (NoAd.grow (ZB2.out.alloc _) hg)
  have BB3 := Lib.hid (Grow.trans (BB2.out.alloc _) hg)
  clear hg ZB2 BB2
  go_wp2_with fail
  refine (no_accepts (ZB3.out) 0 0 0 0 0).mono ?_
  rintro e wB4 ⟨rfl, hg⟩
  have ZB4 := Lib.hid (NoAd.grow (ZB3.out) hg)
  have BB4 := Lib.hid (Grow.trans (BB3.out) hg)
  clear hg ZB3 BB3
  go_wp2_with fail
  refine (no_drop (ZB4.out)).mono ?_
  rintro e w' ⟨rfl, rfl⟩
  go_wp2_with fail
  refine (no_copy (ZB4.out)).mono ?_
  rintro e w' ⟨rfl, rfl⟩
  go_wp2_with fail
  rw [rounds_succ]
  go_wp2_with (go_at_call 7; refine (known_any _).mono ?_; rintro e w' ⟨rfl, hg⟩; have HG := Lib.hid hg; clear hg)
  go_ret
  exact ⟨rfl, Grow.trans BW.out (Grow.trans BB4.out HG.out)⟩


set_option maxRecDepth 100000 in
theorem lifted (os : Os) (started : os.Started) (H : Type) (enc : TypeId × Value → H) :
    ReturnsInHanded {} Try.checked os 6 .any (Rows.adjNilSpec.pre6 enc Try.prog Try.f6 Rows.adjNilRow.domain false) (Rows.adjNilSpec.post enc Try.prog Try.f6 false true false false) := by
  refine returnsInHanded_of_change (C := Try.checked) own started (by kernel_rfl) Try.func6
    (ChangeSpec.witness6 (enc := enc) (C := Try.checked) false ⟨#[], #[], []⟩ 8 (by kernel_rfl) (by kernel_rfl) (by kernel_rfl) (by kernel_rfl)) ?_
  intro W base args ds gs before hval0 hW hcnd _
  have hval : ∀ (j : Nat) t v, Try.f6.params[j]? = some t → args[j]? = some v → Value.okWide Try.prog W .any base t v := hval0
  have hW' := hW
  obtain ⟨p, q, hA0, hV, rfl, hfz, hnd⟩ := hW
  have hA : DataW.TrodAll enc Try.prog W 0 (fun _ => true) true Try.f6.params.toList args.toList ds p := hA0
  rw [Try.params6] at hA hval
  obtain ⟨hnil, rfl, rfl⟩ := trodAll_nil hA
  obtain rfl : args = #[] := by cases args; simp_all
  obtain ⟨rfl, rfl⟩ := trodVars_none hV
  clear hA0 hval0
  refine (walk  W ).mono fun e W' ⟨he, bel⟩ => ?_
  subst he
  exact ⟨_, rfl, _, _, _, [], _, [], hW', trodAll_mk1 (shut_bool Try.underlying4 _), trodAll_mk0, rfl, bel.frame _, fun h => by cases h⟩

theorem over : Rows.adjNilRow.holds Try.pinned (OpenSpec.ofChange Rows.adjNilSpec) :=
  OpenClaim.holds_of_wide 6 Try.f6 rfl rfl rfl rfl rfl rfl rfl ⟨rfl, rfl, rfl, rfl, rfl⟩ rfl rfl rfl rfl rfl (by kernel_rfl) Try.func6 (by kernel_rfl)
    (of_decide_eq_true (by kernel_rfl)) (by unfold Func.isWrapper; first | (rw [if_pos (by decide +kernel)]; kernel_rfl) | (rw [if_neg (by decide +kernel)]; exact ⟨rfl, rfl⟩))
    (fun os started H enc _ => lifted os started H enc)

/-- The statement. -/
theorem proved : Rows.AdjNilSaid := over
end Go.Proofs.Ytnpmdiekcdjfaaa.adjNil
