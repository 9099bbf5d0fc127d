/- What a store that is not there, and a zero one, answer. -/
import Derived.Test.YteakedikmaobfaaRows
import Derived.Test.YteakedikmaobfaaStNo
import Derived.WalkKit
import Derived.ProofKit
import Derived.OpenShut
import Derived.ShutString
import Derived.ChangeOld
import Derived.Below
set_option linter.unusedVariables false
namespace Go.Proofs.Yteakedikmaobfaa.storeNil
open Go.ChangeShapes Go.WideShapes Go.ChangeAt Go.RowKit
open Go.ChangeMaps (open_string shut_string)

theorem own : ownKnob Try.prog.godebug = none := by kernel_rfl
theorem laidOut : laidOutB Try.prog = true := by kernel_rfl

set_option maxRecDepth 20000 in
set_option maxHeartbeats 4000000 in
theorem walk (w : World) : Calls Try.prog 7 #[] w fun e w' => e = .returned (.bool true) ∧ Below w.heap.size w w' := by
  have q1 : ∀ x : World, (binOp .neq 25 (.pointer none) (.pointer none)).run Try.prog x = .ok (.bool false) x := fun _ => by kernel_rfl
  have HN : Hid (∀ x : World, NoSt x (.pointer none)) := fun _ => Or.inl rfl
  have HZ : Hid (∀ o : Obj, NoSt ((w.alloc (.cells #[.slice none 0 0, .int .i64 0, .int .u8 0, .bool false, .bool false] 56)).alloc o) (.pointer (some ⟨w.heap.size, 0, none⟩))) := fun o => Or.inr ⟨_, rfl, by
    rw [Below.heap_alloc _ _ _ (by simp)]; exact heap_alloc_new w _⟩
  have HB : Hid (∀ o : Obj, Grow w ((w.alloc (.cells #[.slice none 0 0, .int .i64 0, .int .u8 0, .bool false, .bool false] 56)).alloc o)) := fun o => ((Grow.refl w).alloc _).alloc _
  go_enter Try.func7, Try.ntmps7
  go_wp2_with fail
  refine wp_loop_rounds 3 ?_
  rw [rounds_succ]
  go_wp2_with (first | (go_at_call 8; refine (known_any _).mono ?_; rintro e w' ⟨rfl, hg⟩; have HG := Lib.hid hg; clear hg) | (go_at_call 12; refine (no_fuse (HN.out _) _ _ _).mono ?_; rintro e w' ⟨rfl, rfl⟩) | (go_at_call 14; refine (no_raise (HN.out _)).mono ?_; rintro e w' ⟨rfl, rfl⟩) | (go_at_call 11; refine (no_read (HN.out _) _ _).mono ?_; rintro e w' ⟨rfl, rfl⟩) | (go_at_call 10; refine (no_write (HN.out _)).mono ?_; rintro e w' ⟨rfl, rfl⟩) | (go_at_call 22; refine (no_spoil (HN.out _) _ _ _).mono ?_; rintro e w' ⟨rfl, rfl⟩) | (go_at_call 23; refine (no_len (HN.out _)).mono ?_; rintro e w' ⟨rfl, rfl⟩) | (go_at_call 13; refine (no_dead (HN.out _)).mono ?_; rintro e w' ⟨rfl, rfl⟩) | (go_at_call 18; refine (no_copy (HN.out _)).mono ?_; rintro e w' ⟨rfl, rfl⟩) | (go_at_call 20; refine (no_same (HN.out _)).mono ?_; rintro e w' ⟨rfl, rfl⟩))
  rw [rounds_succ]
  go_wp2_with (first | (go_at_call 8; refine (known_any _).mono ?_; rintro e w' ⟨rfl, hg⟩; have HG := Lib.hid hg; clear hg) | (go_at_call 12; refine (no_fuse (HZ.out _) _ _ _).mono ?_; rintro e w' ⟨rfl, rfl⟩) | (go_at_call 14; refine (no_raise (HZ.out _)).mono ?_; rintro e w' ⟨rfl, rfl⟩) | (go_at_call 11; refine (no_read (HZ.out _) _ _).mono ?_; rintro e w' ⟨rfl, rfl⟩) | (go_at_call 10; refine (no_write (HZ.out _)).mono ?_; rintro e w' ⟨rfl, rfl⟩) | (go_at_call 22; refine (no_spoil (HZ.out _) _ _ _).mono ?_; rintro e w' ⟨rfl, rfl⟩) | (go_at_call 23; refine (no_len (HZ.out _)).mono ?_; rintro e w' ⟨rfl, rfl⟩) | (go_at_call 13; refine (no_dead (HZ.out _)).mono ?_; rintro e w' ⟨rfl, rfl⟩) | (go_at_call 18; refine (no_copy (HZ.out _)).mono ?_; rintro e w' ⟨rfl, rfl⟩) | (go_at_call 20; refine (no_same (HZ.out _)).mono ?_; rintro e w' ⟨rfl, rfl⟩))
  rw [rounds_succ]
  go_wp2_with (first | (go_at_call 8; refine (known_any _).mono ?_; rintro e w' ⟨rfl, hg⟩; have HG := Lib.hid hg; clear hg) | (go_at_call 12; refine (no_fuse (HZ.out _) _ _ _).mono ?_; rintro e w' ⟨rfl, rfl⟩) | (go_at_call 14; refine (no_raise (HZ.out _)).mono ?_; rintro e w' ⟨rfl, rfl⟩) | (go_at_call 11; refine (no_read (HZ.out _) _ _).mono ?_; rintro e w' ⟨rfl, rfl⟩) | (go_at_call 10; refine (no_write (HZ.out _)).mono ?_; rintro e w' ⟨rfl, rfl⟩) | (go_at_call 22; refine (no_spoil (HZ.out _) _ _ _).mono ?_; rintro e w' ⟨rfl, rfl⟩) | (go_at_call 23; refine (no_len (HZ.out _)).mono ?_; rintro e w' ⟨rfl, rfl⟩) | (go_at_call 13; refine (no_dead (HZ.out _)).mono ?_; rintro e w' ⟨rfl, rfl⟩) | (go_at_call 18; refine (no_copy (HZ.out _)).mono ?_; rintro e w' ⟨rfl, rfl⟩) | (go_at_call 20; refine (no_same (HZ.out _)).mono ?_; rintro e w' ⟨rfl, rfl⟩))
  go_ret
  exact ⟨rfl, Grow.trans (HB.out _) HG.out⟩


set_option maxRecDepth 100000 in
theorem lifted (os : Os) (started : os.Started) (H : Type) (enc : TypeId × Value → H) :
    ReturnsInHanded {} Try.checked os 7 .any (Rows.storeNilSpec.pre6 enc Try.prog Try.f7 Rows.storeNilRow.domain false) (Rows.storeNilSpec.post enc Try.prog Try.f7 false true false false) := by
  refine returnsInHanded_of_change (C := Try.checked) own started (by kernel_rfl) Try.func7
    (ChangeSpec.witness6 (enc := enc) (C := Try.checked) false ⟨#[], #[], []⟩ 8 (by kernel_rfl) (by kernel_rfl) (by kernel_rfl) (by kernel_rfl)) ?_
  intro W base args ds gs before hval0 hW hcnd _
  have hval : ∀ (j : Nat) t v, Try.f7.params[j]? = some t → args[j]? = some v → Value.okWide Try.prog W .any base t v := hval0
  have hW' := hW
  obtain ⟨p, q, hA0, hV, rfl, hfz, hnd⟩ := hW
  have hA : DataW.TrodAll enc Try.prog W 0 (fun _ => true) true Try.f7.params.toList args.toList ds p := hA0
  rw [Try.params7] at hA hval
  obtain ⟨hnil, rfl, rfl⟩ := trodAll_nil hA
  obtain rfl : args = #[] := by cases args; simp_all
  obtain ⟨rfl, rfl⟩ := trodVars_none hV
  clear hA0 hval0
  refine (walk  W ).mono fun e W' ⟨he, bel⟩ => ?_
  subst he
  exact ⟨_, rfl, _, _, _, [], _, [], hW', trodAll_mk1 (shut_bool Try.underlying4 _), trodAll_mk0, rfl, bel.frame _, fun h => by cases h⟩

theorem over : Rows.storeNilRow.holds Try.pinned (OpenSpec.ofChange Rows.storeNilSpec) :=
  OpenClaim.holds_of_wide 7 Try.f7 rfl rfl rfl rfl rfl rfl rfl ⟨rfl, rfl, rfl, rfl, rfl⟩ rfl rfl rfl rfl rfl (by kernel_rfl) Try.func7 (by kernel_rfl)
    (of_decide_eq_true (by kernel_rfl)) (by unfold Func.isWrapper; first | (rw [if_pos (by decide +kernel)]; kernel_rfl) | (rw [if_neg (by decide +kernel)]; exact ⟨rfl, rfl⟩))
    (fun os started H enc _ => lifted os started H enc)

/-- The statement. -/
theorem proved : Rows.StoreNilSaid := over
end Go.Proofs.Yteakedikmaobfaa.storeNil
