/- Prefixes. -/
import Derived.Test.YtiphhjipgjpepaaFrNum
set_option linter.unusedVariables false
set_option linter.unusedSimpArgs false
namespace Go.Proofs.Ytiphhjipgjpepaa
open Go.RowKit

/-- May a prefix be? -/
def mayP (a l : Int) : Bool := decide (0 ≤ l ∧ l ≤ 32 ∧ a % 2 ^ (32 - l).toNat = 0)

theorem same_left {F : Nat} {args : Array Value} {w : World} {Q : Ending → Prop} (h : Calls Try.prog F args w fun e w' => Q e ∧ w = w') : Calls Try.prog F args w fun e w' => Q e ∧ w' = w :=
  h.mono fun e w' ⟨a, b⟩ => ⟨a, b.symm⟩
theorem ret_bool' {a b : Bool} (h : a = b) : Ending.returned (.bool a) = .returned (.bool b) := by rw [h]

set_option maxHeartbeats 4000000 in
theorem mask_any (k : Nat) (hk : k ≤ 32) (w : World) : Calls Try.prog 53 #[.int .i64 (32 - (k : Int))] w fun e w' => e = .returned (.int .u32 (4294967296 - 2 ^ k)) ∧ w = w' := by
  have h : k = 0 ∨ k = 1 ∨ k = 2 ∨ k = 3 ∨ k = 4 ∨ k = 5 ∨ k = 6 ∨ k = 7 ∨ k = 8 ∨ k = 9 ∨ k = 10 ∨ k = 11 ∨ k = 12 ∨ k = 13 ∨ k = 14 ∨ k = 15 ∨ k = 16 ∨ k = 17 ∨ k = 18 ∨ k = 19 ∨ k = 20 ∨ k = 21 ∨ k = 22 ∨ k = 23 ∨ k = 24 ∨ k = 25 ∨ k = 26 ∨ k = 27 ∨ k = 28 ∨ k = 29 ∨ k = 30 ∨ k = 31 ∨ k = 32 := by omega
  rcases h with rfl | rfl | rfl | rfl | rfl | rfl | rfl | rfl | rfl | rfl | rfl | rfl | rfl | rfl | rfl | rfl | rfl | rfl | rfl | rfl | rfl | rfl | rfl | rfl | rfl | rfl | rfl | rfl | rfl | rfl | rfl | rfl | rfl
  all_goals
    go_enter Try.func53, Try.ntmps53
    go_wp2
    go_ret
    exact ⟨rfl, rfl⟩

theorem andNot_mask {a : Int} (h : 0 ≤ a ∧ a < 4294967296) (k : Nat) (hk : k ≤ 32) : bits .andNot .u32 a (4294967296 - 2 ^ k) = a % 2 ^ k := by
  have hp : (2 : Nat) ^ k ≤ 4294967296 := by
    have := Nat.pow_le_pow_right (n := 2) (by decide) hk
    exact this
  have hp0 : 0 < (2 : Nat) ^ k := Nat.two_pow_pos k
  have e0 : ((2 : Int) ^ k) = ((2 ^ k : Nat) : Int) := by simp
  rw [e0]
  rw [u32_andNot a _ h.1 h.2 (by omega) (by omega)]
  have e1 : 4294967295 - (4294967296 - ((2 ^ k : Nat) : Int)).toNat = 2 ^ k - 1 := by omega
  rw [e1, Nat.and_two_pow_sub_one_eq_mod, Int.natCast_emod, Int.toNat_of_nonneg h.1]

set_option maxHeartbeats 1000000 in
theorem mayp_any (a l : Int) (w : World) (ha : 0 ≤ a ∧ a < 4294967296) (hl : -9223372036854775808 ≤ l ∧ l ≤ 9223372036854775807) :
    Calls Try.prog 52 #[.agg #[.int .u32 a, .int .i64 l]] w fun e w' => e = .returned (.bool (mayP a l)) ∧ Grow w w' := by
  have HW : Hid (Grow w (w.alloc (.cells #[.int .u32 a, .int .i64 l] 50))) := (Grow.refl w).alloc _
  by_cases h0 : l < 0
  · have HR : Hid (mayP a l = false) := decide_eq_false (by omega)
    have d0 : decide (0 ≤ l) = false := by simpa using h0
    go_enter Try.func52, Try.ntmps52
    go_wp2_with fail
    go_quiet (fail)
    go_wp2_with fail
    go_ret
    exact ⟨ret_bool' HR.out.symm, grow_dn HW.out _⟩
  have d0 : decide (0 ≤ l) = true := by simp; omega
  by_cases h1 : 32 < l
  · have HR : Hid (mayP a l = false) := decide_eq_false (by omega)
    have d1 : decide (l ≤ 32) = false := by simpa using h1
    go_enter Try.func52, Try.ntmps52
    go_wp2_with fail
    go_quiet (fail)
    go_wp2_with fail
    go_ret
    exact ⟨ret_bool' HR.out.symm, grow_dn HW.out _⟩
  have d1 : decide (l ≤ 32) = true := by simp; omega
  obtain ⟨k, hk, hkl⟩ : ∃ k : Nat, k ≤ 32 ∧ l = 32 - (k : Int) := ⟨(32 - l).toNat, by omega, by omega⟩
  have HM : Hid (∀ x, Calls Try.prog 53 #[.int .i64 l] x fun e w' => e = .returned (.int .u32 (4294967296 - 2 ^ k)) ∧ w' = x) := fun x => by rw [hkl]; exact same_left (mask_any k hk x)
  have hb := andNot_mask ha k hk
  have hkk : (32 - l).toNat = k := by omega
  have HR : Hid (mayP a l = decide (a % 2 ^ k = 0)) := by
    show decide _ = decide _
    rw [hkk]
    exact decide_eq_decide.2 ⟨fun h => h.2.2, fun h => ⟨by omega, by omega, h⟩⟩
  generalize (4294967296 - 2 ^ k : Int) = m at *
  generalize a % 2 ^ k = r at *
  clear hk hkl hkk
  by_cases hr : r = 0
  · have hr2 : (r == 0) = true := by simpa using hr
    have HR2 : Hid (mayP a l = true) := by show _ = _; rw [HR.out, decide_eq_true hr]
    clear hr
    go_enter Try.func52, Try.ntmps52
    go_wp2_with fail
    go_quiet ((go_at_call 53; exact Calls.quiet_of_same (HM.out _)))
    go_wp2_with fail
    go_ret
    exact ⟨ret_bool' HR2.out.symm, grow_dn HW.out _⟩
  · have hr2 : (r == 0) = false := by simpa using hr
    have HR2 : Hid (mayP a l = false) := by show _ = _; rw [HR.out, decide_eq_false hr]
    clear hr
    go_enter Try.func52, Try.ntmps52
    go_wp2_with fail
    go_quiet ((go_at_call 53; exact Calls.quiet_of_same (HM.out _)))
    go_wp2_with fail
    go_ret
    exact ⟨ret_bool' HR2.out.symm, grow_dn HW.out _⟩

/-! ### The document's -/

theorem div_step (a : Int) (k : Nat) : a / 2 ^ k / 2 = a / 2 ^ (k + 1) := by
  rw [Int.ediv_ediv_of_nonneg (by exact Int.pow_nonneg (by decide))]; rfl
theorem mul_step (a : Int) (k : Nat) : a * 2 ^ k * 2 = a * 2 ^ (k + 1) := by rw [Int.mul_assoc]; rfl
theorem pow_bd (a : Int) (h : 0 ≤ a ∧ a < 4294967296) (k : Nat) : 0 ≤ a / 2 ^ k ∧ a / 2 ^ k * 2 ^ k ≤ a := by
  have hp : (0 : Int) < 2 ^ k := Int.pow_pos (by decide)
  exact ⟨Int.ediv_nonneg h.1 (Int.le_of_lt hp), Int.ediv_mul_le _ (by omega)⟩

set_option maxHeartbeats 1000000 in
theorem first_any (a : Int) (k : Nat) (hk : k ≤ 32) (w : World) (ha : 0 ≤ a ∧ a < 4294967296) :
    Calls Try.prog 45 #[.int .u32 a, .int .i64 (32 - (k : Int))] w fun e w' => e = .returned (.int .u32 (a / 2 ^ k * 2 ^ k)) ∧ w = w' := by
  obtain ⟨n, hn⟩ : ∃ n : Int, n = 32 - (k : Int) := ⟨_, rfl⟩
  rw [← hn]
  have hn1 : 32 - n = (k : Int) := by omega
  have HN := Lib.hid hn1
  have hnb : 0 ≤ n ∧ n ≤ 32 := by omega
  clear hn hn1
  go_enter Try.func45, Try.ntmps45
  go_wp2_with fail
  go_loopw [0, 5] (fun v i wr => ∃ j : Nat, j ≤ k ∧ i = .int .i64 j ∧ v = .int .u32 (a / 2 ^ j) ∧ w = wr) (fun _ i _ => k - (intOf i).toNat)
  case atStart => exact ⟨0, by omega, rfl, by simp, rfl⟩
  case round =>
    obtain ⟨j, hj, rfl, rfl, rfl⟩ := hrel
    have hb := pow_bd a ha j
    have hdl : a / 2 ^ j ≤ a := by
      have := Int.ediv_le_self (2 ^ j) ha.1
      exact this
    by_cases hlt : j < k
    · have hlt' : (j : Int) < 32 - n := by have := HN.out; omega
      have HD := Lib.hid (div_step a j)
      have hb1 := hb.1
      clear hb
      generalize a / 2 ^ j = x at *
      go_wp2_with fail
      exact ⟨⟨j + 1, by omega, by go_num, by rw [← HD.out], trivial⟩, by simp [intOf]; omega⟩
    · have hjk : j = k := by omega
      subst hjk
      have hge : 32 - n ≤ (j : Int) := by have := HN.out; omega
      obtain ⟨x, hx⟩ : ∃ x, a / 2 ^ j = x := ⟨_, rfl⟩
      have HX := Lib.hid hx
      rw [hx] at hb hdl ⊢
      clear hx
      go_wp2_with fail
      go_loopw [0, 6] (fun v i wr => ∃ m : Nat, m ≤ j ∧ i = .int .i64 m ∧ v = .int .u32 (x * 2 ^ m) ∧ w = wr) (fun _ i _ => j - (intOf i).toNat)
      case atStart => exact ⟨0, by omega, rfl, by simp, rfl⟩
      case round =>
        obtain ⟨m, hm, rfl, rfl, rfl⟩ := hrel
        by_cases hlt2 : m < j
        · have hlt2' : (m : Int) < 32 - n := by have := HN.out; omega
          have HD := Lib.hid (mul_step x m)
          have hle : 0 ≤ x * 2 ^ m ∧ x * 2 ^ m * 2 ≤ a := by
            refine ⟨Int.mul_nonneg hb.1 (Int.pow_nonneg (by decide)), ?_⟩
            rw [mul_step]
            refine Int.le_trans (Int.mul_le_mul_of_nonneg_left ?_ hb.1) hb.2
            exact_mod_cast Nat.pow_le_pow_right (n := 2) (by decide) (show m + 1 ≤ j by omega)
          have hl1 := hle.1
          have hl2 := hle.2
          clear hle
          generalize x * 2 ^ m = y at *
          go_wp2_with fail
          exact ⟨⟨m + 1, by omega, by go_num, by rw [← HD.out], trivial⟩, by simp [intOf]; omega⟩
        · have hmj : m = j := by omega
          subst hmj
          go_wp2_with fail
          go_ret
          exact ⟨by rw [HX.out]; rfl, rfl⟩

set_option maxHeartbeats 1000000 in
theorem rmayp_any (a l : Int) (w : World) (ha : 0 ≤ a ∧ a < 4294967296) (hl : -9223372036854775808 ≤ l ∧ l ≤ 9223372036854775807) :
    Calls Try.prog 39 #[.agg #[.int .u32 a, .int .i64 l]] w fun e w' => e = .returned (.bool (mayP a l)) ∧ Grow w w' := by
  have HW : Hid (Grow w (w.alloc (.cells #[.int .u32 a, .int .i64 l] 50))) := (Grow.refl w).alloc _
  by_cases h0 : l < 0
  · have HR : Hid (mayP a l = false) := decide_eq_false (by omega)
    have d0 : decide (0 ≤ l) = false := by simpa using h0
    go_enter Try.func39, Try.ntmps39
    go_wp2_with fail
    go_quiet (fail)
    go_wp2_with fail
    go_ret
    exact ⟨ret_bool' HR.out.symm, grow_dn HW.out _⟩
  have d0 : decide (0 ≤ l) = true := by simp; omega
  by_cases h1 : 32 < l
  · have HR : Hid (mayP a l = false) := decide_eq_false (by omega)
    have d1 : decide (l ≤ 32) = false := by simpa using h1
    go_enter Try.func39, Try.ntmps39
    go_wp2_with fail
    go_quiet (fail)
    go_wp2_with fail
    go_ret
    exact ⟨ret_bool' HR.out.symm, grow_dn HW.out _⟩
  have d1 : decide (l ≤ 32) = true := by simp; omega
  obtain ⟨k, hk, hkl⟩ : ∃ k : Nat, k ≤ 32 ∧ l = 32 - (k : Int) := ⟨(32 - l).toNat, by omega, by omega⟩
  have HM : Hid (∀ x, Calls Try.prog 45 #[.int .u32 a, .int .i64 l] x fun e w' => e = .returned (.int .u32 (a / 2 ^ k * 2 ^ k)) ∧ w' = x) := fun x => by rw [hkl]; exact same_left (first_any a k hk x ha)
  have hkk : (32 - l).toNat = k := by omega
  have HR : Hid (mayP a l = decide (a / 2 ^ k * 2 ^ k = a)) := by
    show decide _ = decide _
    rw [hkk]
    have hd := Int.emod_def a (2 ^ k)
    have hc := Int.mul_comm (2 ^ k) (a / 2 ^ k)
    exact decide_eq_decide.2 ⟨fun h => by have := h.2.2; omega, fun h => ⟨by omega, by omega, by omega⟩⟩
  generalize a / 2 ^ k * 2 ^ k = r at *
  clear hk hkl hkk
  by_cases hr : r = a
  · have hr2 : (r == a) = true := by simpa using hr
    have HR2 : Hid (mayP a l = true) := by show _ = _; rw [HR.out, decide_eq_true hr]
    subst hr
    clear hr2
    go_enter Try.func39, Try.ntmps39
    go_wp2_with fail
    go_quiet ((go_at_call 45; exact Calls.quiet_of_same (HM.out _)))
    go_wp2_with fail
    go_ret
    exact ⟨ret_bool' (by rw [HR2.out]), grow_dn HW.out _⟩
  · have hr2 : (r == a) = false := by simpa using hr
    have HR2 : Hid (mayP a l = false) := by show _ = _; rw [HR.out, decide_eq_false hr]
    clear hr
    go_enter Try.func39, Try.ntmps39
    go_wp2_with fail
    go_quiet ((go_at_call 45; exact Calls.quiet_of_same (HM.out _)))
    go_wp2_with fail
    go_ret
    exact ⟨ret_bool' HR2.out.symm, grow_dn HW.out _⟩
end Go.Proofs.Ytiphhjipgjpepaa
