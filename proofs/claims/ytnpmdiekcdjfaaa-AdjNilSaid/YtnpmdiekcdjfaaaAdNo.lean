/- An adjacency that is not there, and a zero one. -/
import Derived.Test.YtnpmdiekcdjfaaaAdKnown
set_option linter.unusedVariables false
set_option linter.unusedSimpArgs false
namespace Go.Proofs.Ytnpmdiekcdjfaaa
open Go.RowKit

/-- None: none, or a zero one. -/
def NoAd (w : World) (v : Value) : Prop := v = .pointer none ∨ ∃ Z, v = .pointer (some ⟨Z, 0, none⟩) ∧ w.heap[Z]? = some (.cells #[.int .i64 0, .int .i64 0, .int .i64 0, .int .i64 0, .int .u64 0, .int .u64 0, .int .u64 0, .int .u64 0, .int .i64 0, .int .i64 0, .int .i64 0] 59 (0, 0))

theorem NoAd.grow {w w' : World} {v : Value} (h : NoAd w v) (hg : Grow w w') : NoAd w' v := h.imp id fun ⟨Z, e, hz⟩ => ⟨Z, e, (hg.block Z (lt_of_block hz)).trans hz⟩
theorem NoAd.alloc {w : World} {v : Value} (h : NoAd w v) (o : Obj) : NoAd (w.alloc o) v := h.grow ((Grow.refl w).alloc o)
theorem NoAd.dn {w : World} {v : Value} (h : NoAd w v) (n : Nat) : NoAd (w.drewN n) v := h

theorem no_there {w : World} {v : Value} (h : NoAd w v) : Calls Try.prog 22 #[v] w fun e w' => e = .returned (.bool false) ∧ w = w' := by
  rcases h with rfl | ⟨Z, rfl, hz⟩
  · exact there_nil w
  · have c0 : w.cell? ⟨Z, 0, none⟩ = some (.int .i64 0) := by simp [World.cell?, hz]
    clear hz
    go_enter Try.func22, Try.ntmps22
    go_wp2
    go_ret
    exact ⟨rfl, rfl⟩

theorem no_drop {w : World} {v : Value} (h : NoAd w v) : Calls Try.prog 15 #[v] w fun e w' => e = .returned (.int .i64 0) ∧ w = w' := by
  have HN := Lib.hid h
  go_enter Try.func15, Try.ntmps15
  go_wp2_with (go_at_call 22; refine (no_there (HN.out)).mono ?_; rintro e w' ⟨rfl, rfl⟩)
  go_ret
  exact ⟨rfl, rfl⟩

theorem no_copy {w : World} {v : Value} (h : NoAd w v) : Calls Try.prog 17 #[v] w fun e w' => e = .returned (.pointer none) ∧ w = w' := by
  have HN := Lib.hid h
  go_enter Try.func17, Try.ntmps17
  go_wp2_with (go_at_call 22; refine (no_there (HN.out)).mono ?_; rintro e w' ⟨rfl, rfl⟩)
  go_ret
  exact ⟨rfl, rfl⟩

theorem no_tick {w : World} {v : Value} (h : NoAd w v) : Calls Try.prog 14 #[v] w fun e w' => e = .returned (.tuple #[.int .i64 0, .bool false]) ∧ w = w' := by
  have HN := Lib.hid h
  go_enter Try.func14, Try.ntmps14
  go_wp2_with (go_at_call 22; refine (no_there (HN.out)).mono ?_; rintro e w' ⟨rfl, rfl⟩)
  go_ret2
  exact ⟨rfl, rfl⟩

theorem no_hear {w : World} {v : Value} (h : NoAd w v) (x : Hl) : Calls Try.prog 13 #[v, x.val] w fun e w' => e = .returned (.tuple #[.int .i64 0, .int .i64 1]) ∧ Grow w w' := by
  have HN := Lib.hid h
  simp only [Hl.val]
  go_enter Try.func13, Try.ntmps13
  go_wp2_with (go_at_call 22; refine (no_there (HN.out.alloc _)).mono ?_; rintro e w' ⟨rfl, rfl⟩)
  go_ret2
  exact ⟨rfl, (Grow.refl w).alloc _⟩

theorem no_say {w : World} {v : Value} (h : NoAd w v) : Calls Try.prog 16 #[v] w fun e w' => e = .returned (.tuple #[.agg #[.int .i64 0, .int .u64 0, .int .u64 0, .int .u64 0, .int .u64 0], .int .i64 1]) ∧ Grow w w' := by
  have HN := Lib.hid h
  go_enter Try.func16, Try.ntmps16
  go_wp2_with (go_at_call 22; refine (no_there (HN.out.alloc _)).mono ?_; rintro e w' ⟨rfl, rfl⟩)
  exact bodyPost_ret (v := .tuple #[.agg #[.int .i64 0, .int .u64 0, .int .u64 0, .int .u64 0, .int .u64 0], .int .i64 1]) (by simp [results, Try.results16, go_sem]) rfl ⟨rfl, (Grow.refl _).alloc _⟩

theorem no_view {w : World} {v : Value} (h : NoAd w v) : Calls Try.prog 11 #[v] w fun e w' => e = .returned (.agg #[.int .i64 0, .int .u64 0, .int .u64 0, .int .u64 0, .int .u64 0, .int .i64 0]) ∧ Grow w w' := by
  have HN := Lib.hid h
  go_enter Try.func11, Try.ntmps11
  go_wp2_with (go_at_call 22; refine (no_there (HN.out.alloc _)).mono ?_; rintro e w' ⟨rfl, rfl⟩)
  exact bodyPost_ret (v := .agg #[.int .i64 0, .int .u64 0, .int .u64 0, .int .u64 0, .int .u64 0, .int .i64 0]) (by simp [results, Try.results11, go_sem]) rfl ⟨rfl, (Grow.refl _).alloc _⟩

theorem no_accepts {w : World} {v : Value} (h : NoAd w v) (n b t b2 t2 : Int) : Calls Try.prog 12 #[v, .int .i64 n, .agg #[.int .u64 b, .int .u64 t], .agg #[.int .u64 b2, .int .u64 t2]] w fun e w' => e = .returned (.bool false) ∧ Grow w w' := by
  have HT : Hid (∀ (x y : Obj) (q : Nat), Calls Try.prog 22 #[v] (((w.alloc x).alloc y).drewN q) fun e w' => e = .returned (.bool false) ∧ w' = ((w.alloc x).alloc y).drewN q) := fun x y q => (no_there (((h.alloc x).alloc y).dn q)).mono fun _ _ ⟨p, r⟩ => ⟨p, r.symm⟩
  go_enter Try.func12, Try.ntmps12
  go_wp2_with fail
  go_quiet ((go_at_call 22; exact Calls.quiet_of_same (HT.out _ _ _)))
  go_wp2_with fail
  go_ret
  exact ⟨rfl, (((Grow.refl _).alloc _).alloc _).dn _⟩
end Go.Proofs.Ytnpmdiekcdjfaaa
