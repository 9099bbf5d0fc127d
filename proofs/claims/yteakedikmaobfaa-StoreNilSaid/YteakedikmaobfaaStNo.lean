/- A store that is not there, and a zero one. -/
import Derived.Test.YteakedikmaobfaaStSame
set_option linter.unusedVariables false
set_option linter.unusedSimpArgs false
namespace Go.Proofs.Yteakedikmaobfaa
open Go.RowKit

/-- No store: none, or a zero one. -/
def NoSt (w : World) (v : Value) : Prop := v = .pointer none ∨ ∃ Z, v = .pointer (some ⟨Z, 0, none⟩) ∧ w.heap[Z]? = some (.cells #[.slice none 0 0, .int .i64 0, .int .u8 0, .bool false, .bool false] 56 (0, 0))

theorem NoSt.grow {w w' : World} {v : Value} (h : NoSt w v) (hg : Grow w w') : NoSt w' v := h.imp id fun ⟨Z, e, hz⟩ => ⟨Z, e, (hg.block Z (lt_of_block hz)).trans hz⟩

theorem no_len {w : World} {v : Value} (h : NoSt w v) : Calls Try.prog 23 #[v] w fun e w' => e = .returned (.int .i64 0) ∧ w = w' := by
  rcases h with rfl | ⟨Z, rfl, hz⟩
  · exact len_nil w
  · have c0 : w.cell? ⟨Z, 0, none⟩ = some (.slice none 0 0) := by simp [World.cell?, hz]
    clear hz
    go_enter Try.func23, Try.ntmps23
    go_wp2
    go_ret
    exact ⟨rfl, rfl⟩

theorem no_fuse {w : World} {v : Value} (h : NoSt w v) (n b : Int) (u : Bool) : Calls Try.prog 12 #[v, .int .i64 n, .int .u8 b, .bool u] w fun e w' => e = .returned (.tuple #[]) ∧ w = w' := by
  have HL := Lib.hid (no_len h)
  rcases h with rfl | ⟨Z, rfl, hz⟩
  · go_enter Try.func12, Try.ntmps12
    go_wp2_with (go_at_call 23; refine HL.out.mono ?_; rintro e w' ⟨rfl, rfl⟩)
    go_end0
    exact ⟨rfl, rfl⟩
  · clear hz
    go_enter Try.func12, Try.ntmps12
    go_wp2_with (go_at_call 23; refine HL.out.mono ?_; rintro e w' ⟨rfl, rfl⟩)
    go_end0
    exact ⟨rfl, rfl⟩

theorem no_raise {w : World} {v : Value} (h : NoSt w v) : Calls Try.prog 14 #[v] w fun e w' => e = .returned (.tuple #[]) ∧ w = w' := by
  have HL := Lib.hid (no_len h)
  rcases h with rfl | ⟨Z, rfl, hz⟩
  · go_enter Try.func14, Try.ntmps14
    go_wp2_with (go_at_call 23; refine HL.out.mono ?_; rintro e w' ⟨rfl, rfl⟩)
    go_end0
    exact ⟨rfl, rfl⟩
  · clear hz
    go_enter Try.func14, Try.ntmps14
    go_wp2_with (go_at_call 23; refine HL.out.mono ?_; rintro e w' ⟨rfl, rfl⟩)
    go_end0
    exact ⟨rfl, rfl⟩

theorem no_dead {w : World} {v : Value} (h : NoSt w v) : Calls Try.prog 13 #[v] w fun e w' => e = .returned (.bool false) ∧ w = w' := by
  have HL := Lib.hid (no_len h)
  rcases h with rfl | ⟨Z, rfl, hz⟩
  · go_enter Try.func13, Try.ntmps13
    go_wp2_with (go_at_call 23; refine HL.out.mono ?_; rintro e w' ⟨rfl, rfl⟩)
    go_ret
    exact ⟨rfl, rfl⟩
  · clear hz
    go_enter Try.func13, Try.ntmps13
    go_wp2_with (go_at_call 23; refine HL.out.mono ?_; rintro e w' ⟨rfl, rfl⟩)
    go_ret
    exact ⟨rfl, rfl⟩

theorem no_wrong {w : World} {v : Value} (h : NoSt w v) (a n : Int) : Calls Try.prog 24 #[v, .int .i64 a, .int .i64 n] w fun e w' => e = .returned (.int .i64 1) ∧ w = w' := by
  have HL := Lib.hid (no_len h)
  rcases h with rfl | ⟨Z, rfl, hz⟩
  · go_enter Try.func24, Try.ntmps24
    go_wp2_with (go_at_call 23; refine HL.out.mono ?_; rintro e w' ⟨rfl, rfl⟩)
    go_ret
    exact ⟨rfl, rfl⟩
  · clear hz
    go_enter Try.func24, Try.ntmps24
    go_wp2_with (go_at_call 23; refine HL.out.mono ?_; rintro e w' ⟨rfl, rfl⟩)
    go_ret
    exact ⟨rfl, rfl⟩

theorem no_spoil {w : World} {v : Value} (h : NoSt w v) (a b : Int) (u : Bool) : Calls Try.prog 22 #[v, .int .i64 a, .int .u8 b, .bool u] w fun e w' => e = .returned (.int .i64 1) ∧ w = w' := by
  have HL := Lib.hid (no_len h)
  rcases h with rfl | ⟨Z, rfl, hz⟩
  · go_enter Try.func22, Try.ntmps22
    go_wp2_with (go_at_call 23; refine HL.out.mono ?_; rintro e w' ⟨rfl, rfl⟩)
    go_ret
    exact ⟨rfl, rfl⟩
  · clear hz
    go_enter Try.func22, Try.ntmps22
    go_wp2_with (go_at_call 23; refine HL.out.mono ?_; rintro e w' ⟨rfl, rfl⟩)
    go_ret
    exact ⟨rfl, rfl⟩

theorem no_copy {w : World} {v : Value} (h : NoSt w v) : Calls Try.prog 18 #[v] w fun e w' => e = .returned (.pointer none) ∧ w = w' := by
  have HL := Lib.hid (no_len h)
  rcases h with rfl | ⟨Z, rfl, hz⟩
  · go_enter Try.func18, Try.ntmps18
    go_wp2_with (go_at_call 23; refine HL.out.mono ?_; rintro e w' ⟨rfl, rfl⟩)
    go_ret
    exact ⟨rfl, rfl⟩
  · clear hz
    go_enter Try.func18, Try.ntmps18
    go_wp2_with (go_at_call 23; refine HL.out.mono ?_; rintro e w' ⟨rfl, rfl⟩)
    go_ret
    exact ⟨rfl, rfl⟩

theorem no_read {w : World} {v : Value} (h : NoSt w v) (a n : Int) : Calls Try.prog 11 #[v, .int .i64 a, .int .i64 n] w fun e w' => e = .returned (.tuple #[.slice none 0 0, .int .i64 1]) ∧ w = w' := by
  have HL := Lib.hid (no_wrong h a n)
  rcases h with rfl | ⟨Z, rfl, hz⟩
  · go_enter Try.func11, Try.ntmps11
    go_wp2_with (go_at_call 24; refine HL.out.mono ?_; rintro e w' ⟨rfl, rfl⟩)
    go_ret2
    exact ⟨rfl, rfl⟩
  · clear hz
    go_enter Try.func11, Try.ntmps11
    go_wp2_with (go_at_call 24; refine HL.out.mono ?_; rintro e w' ⟨rfl, rfl⟩)
    go_ret2
    exact ⟨rfl, rfl⟩

theorem no_write {w : World} {v : Value} (h : NoSt w v) : Calls Try.prog 10 #[v, .int .i64 0, .slice none 0 0] w fun e w' => e = .returned (.int .i64 1) ∧ w = w' := by
  have HL := Lib.hid (no_wrong h 0 0)
  rcases h with rfl | ⟨Z, rfl, hz⟩
  · go_enter Try.func10, Try.ntmps10
    go_wp2_with (first | go_step3 | (go_at_call 24; refine HL.out.mono ?_; rintro e w' ⟨rfl, rfl⟩))
    try rw [Exit.noGoto_ret]
    go_ret
    exact ⟨rfl, rfl⟩
  · clear hz
    go_enter Try.func10, Try.ntmps10
    go_wp2_with (first | go_step3 | (go_at_call 24; refine HL.out.mono ?_; rintro e w' ⟨rfl, rfl⟩))
    try rw [Exit.noGoto_ret]
    go_ret
    exact ⟨rfl, rfl⟩

theorem no_same {w : World} {v : Value} (h : NoSt w v) : Calls Try.prog 20 #[v, .pointer none] w fun e w' => e = .returned (.bool true) ∧ w = w' := by
  have HL := Lib.hid (no_len h)
  have HN := Lib.hid (len_nil w)
  rcases h with rfl | ⟨Z, rfl, hz⟩
  · go_enter Try.func20, Try.ntmps20
    go_wp2_with (go_at_call 23; refine HN.out.mono ?_; rintro e w' ⟨rfl, rfl⟩)
    go_ret
    exact ⟨rfl, rfl⟩
  · clear hz
    go_enter Try.func20, Try.ntmps20
    go_wp2_with (go_at_call 23; first | ((with_reducible refine HL.out.mono ?_); rintro e w' ⟨rfl, rfl⟩) | ((with_reducible refine HN.out.mono ?_); rintro e w' ⟨rfl, rfl⟩))
    go_ret
    exact ⟨rfl, rfl⟩
end Go.Proofs.Yteakedikmaobfaa
