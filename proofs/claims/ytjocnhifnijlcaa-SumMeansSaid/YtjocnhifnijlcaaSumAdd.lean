/- The contracts of the functions that add with carry, in the program and in the reference. -/
import Derived.Test.YtjocnhifnijlcaaRows
import Derived.Test.YtjocnhifnijlcaaSumMath
import Derived.WalkKit
import Derived.WalkLawsBesides
import Derived.WalkSpells
import Derived.Laws.BitsAllLaws
set_option linter.unusedVariables false
namespace Go.Proofs.Ytjocnhifnijlcaa
open Go.RowKit

theorem ret_int {k : IntKind} {a b : Int} (h : a = b) : Ending.returned (.int k a) = .returned (.int k b) := by rw [h]

theorem wrap16 (n : Int) : IntKind.u16.wrap n = n % 65536 := by
  simp [IntKind.wrap, IntKind.signed, IntKind.bits]

theorem nat_not16 (c : Nat) (h : c < 65536) : 65535 ^^^ c = 65535 - c := by
  have h1 : (BitVec.ofNat 16 c).toNat = c := by simp [BitVec.toNat_ofNat]; omega
  have h2 := BitVec.toNat_not (x := BitVec.ofNat 16 c)
  rw [BitVec.not_def, BitVec.toNat_xor, BitVec.toNat_allOnes, h1] at h2
  exact h2

/-- All bits of a 16-bit number are turned. -/
theorem not16 {c : Int} (h : 0 ≤ c) (h' : c < 65536) : bits .xor .u16 IntKind.u16.max c = 65535 - c := by
  have e : IntKind.u16.max = 65535 := rfl
  rw [e, u16_xor 65535 c (by omega) (by omega) h h']
  have : (65535 : Int).toNat = 65535 := rfl
  rw [this, nat_not16 _ (by omega)]
  omega

/-- Two bytes are joined to a word. -/
theorem or16 {a b : Int} (h1 : 0 ≤ a) (h2 : a < 256) (h3 : 0 ≤ b) (h4 : b < 256) : bits .or .u16 (a * 256) b = 256 * a + b := by
  rw [u16_or _ _ (by omega) (by omega) (by omega) (by omega), nat_join 8 _ _ (by omega) (by omega)]
  omega

theorem add_any (x y : Int) (w : World) (hx : 0 ≤ x) (hx' : x < 65536) (hy : 0 ≤ y) (hy' : y < 65536) :
    Calls Try.prog 17 #[.int .u16 x, .int .u16 y] w fun e w' => e = .returned (.int .u16 (addc x y)) ∧ w = w' := by
  go_enter Try.func17, Try.ntmps17
  go_wp2
  go_ret
  refine ⟨ret_int ?_, rfl⟩
  rw [wrap16]
  unfold addc
  split <;> omega

theorem refAdd_any (x y : Int) (w : World) (hx : 0 ≤ x) (hx' : x < 65536) (hy : 0 ≤ y) (hy' : y < 65536) :
    Calls Try.prog 18 #[.int .u16 x, .int .u16 y] w fun e w' => e = .returned (.int .u16 (addc x y)) ∧ w = w' := by
  go_enter Try.func18, Try.ntmps18
  go_wp2
  all_goals
    go_ret
    refine ⟨ret_int ?_, rfl⟩
    try rw [wrap16]
    unfold addc
    split <;> omega

theorem change_any (c m n : Int) (w : World) (hc : 0 ≤ c) (hc' : c < 65536) (hm : 0 ≤ m) (hm' : m < 65536) (hn : 0 ≤ n) (hn' : n < 65536) :
    Calls Try.prog 19 #[.int .u16 c, .int .u16 m, .int .u16 n] w fun e w' => e = .returned (.int .u16 (65535 - addc (addc (65535 - c) (65535 - m)) n)) ∧ w = w' := by
  have e1 := not16 hc hc'
  have e2 := not16 hm hm'
  have b1 := addc_bd (x := 65535 - c) (y := 65535 - m) (by omega) (by omega) (by omega) (by omega)
  have b2 := addc_bd b1.1 b1.2 hn hn'
  have e3 := not16 b2.1 b2.2
  go_enter Try.func19, Try.ntmps19
  go_wp2_with fail
  refine (add_any _ _ _ (by omega) (by omega) (by omega) (by omega)).mono ?_; rintro e w' ⟨rfl, rfl⟩
  go_wp2_with fail
  refine (add_any _ _ _ b1.1 b1.2 hn hn').mono ?_; rintro e w' ⟨rfl, rfl⟩
  go_wp2
  go_ret
  exact ⟨rfl, rfl⟩

theorem refChange_any (c m n : Int) (w : World) (hc : 0 ≤ c) (hc' : c < 65536) (hm : 0 ≤ m) (hm' : m < 65536) (hn : 0 ≤ n) (hn' : n < 65536) :
    Calls Try.prog 20 #[.int .u16 c, .int .u16 m, .int .u16 n] w fun e w' => e = .returned (.int .u16 (65535 - addc (addc (65535 - c) (65535 - m)) n)) ∧ w = w' := by
  have b1 := addc_bd (x := 65535 - c) (y := 65535 - m) (by omega) (by omega) (by omega) (by omega)
  have b2 := addc_bd b1.1 b1.2 hn hn'
  go_enter Try.func20, Try.ntmps20
  go_wp2_with fail
  refine (refAdd_any _ _ _ (by omega) (by omega) (by omega) (by omega)).mono ?_; rintro e w' ⟨rfl, rfl⟩
  go_wp2_with fail
  refine (refAdd_any _ _ _ b1.1 b1.2 hn hn').mono ?_; rintro e w' ⟨rfl, rfl⟩
  go_wp2
  go_ret
  exact ⟨rfl, rfl⟩

/-- The four words of a number, summed with carry. -/
def foldc (x : Int) : Int := addc (addc (addc (x / 281474976710656) (x / 4294967296 % 65536)) (x / 65536 % 65536)) (x % 65536)

theorem addc_zero {x : Int} (h : 0 ≤ x) (h' : x < 65536) : addc 0 x = x := by unfold addc; rw [if_neg (by omega)]; omega

theorem fold_any (x : Int) (w : World) (hx : 0 ≤ x) (hx' : x < 18446744073709551616) :
    Calls Try.prog 21 #[.int .u64 x] w fun e w' => e = .returned (.int .u16 (foldc x)) ∧ w = w' := by
  have b1 : 0 ≤ x / 281474976710656 ∧ x / 281474976710656 < 65536 := by omega
  have b2 := addc_bd b1.1 b1.2 (y := x / 4294967296 % 65536) (by omega) (by omega)
  have b3 := addc_bd b2.1 b2.2 (y := x / 65536 % 65536) (by omega) (by omega)
  have w2 := wrap16 (x / 4294967296)
  have w3 := wrap16 (x / 65536)
  have w4 := wrap16 x
  have a0 := addc_zero b1.1 b1.2
  go_enter Try.func21, Try.ntmps21
  go_wp2_with fail
  refine wp_loop_rounds 5 ?_
  rw [rounds_succ]
  go_wp2_with fail
  refine (add_any _ _ _ (by omega) (by omega) b1.1 b1.2).mono ?_; rintro e w' ⟨rfl, rfl⟩
  go_wp2_with fail
  rw [rounds_succ]
  go_wp2_with fail
  refine (add_any _ _ _ b1.1 b1.2 (by omega) (by omega)).mono ?_; rintro e w' ⟨rfl, rfl⟩
  go_wp2_with fail
  rw [rounds_succ]
  go_wp2_with fail
  refine (add_any _ _ _ b2.1 b2.2 (by omega) (by omega)).mono ?_; rintro e w' ⟨rfl, rfl⟩
  go_wp2_with fail
  rw [rounds_succ]
  go_wp2_with fail
  refine (add_any _ _ _ b3.1 b3.2 (by omega) (by omega)).mono ?_; rintro e w' ⟨rfl, rfl⟩
  go_wp2_with fail
  rw [rounds_succ]
  go_wp2
  go_ret
  exact ⟨rfl, rfl⟩

theorem refFold_any (x : Int) (w : World) (hx : 0 ≤ x) (hx' : x < 18446744073709551616) :
    Calls Try.prog 22 #[.int .u64 x] w fun e w' => e = .returned (.int .u16 (foldc x)) ∧ w = w' := by
  have b1 : 0 ≤ x / 281474976710656 ∧ x / 281474976710656 < 65536 := by omega
  have b2 := addc_bd b1.1 b1.2 (y := x / 4294967296 % 65536) (by omega) (by omega)
  have b3 := addc_bd b2.1 b2.2 (y := x / 65536 % 65536) (by omega) (by omega)
  have a0 := addc_zero b1.1 b1.2
  have w1 : x / 281474976710656 % 65536 = x / 281474976710656 := by omega
  go_enter Try.func22, Try.ntmps22
  go_wp2_with fail
  refine wp_loop_rounds 5 ?_
  rw [rounds_succ]
  go_wp2_with fail
  refine (refAdd_any _ _ _ (by omega) (by omega) b1.1 b1.2).mono ?_; rintro e w' ⟨rfl, rfl⟩
  go_wp2_with fail
  rw [rounds_succ]
  go_wp2_with fail
  refine (refAdd_any _ _ _ b1.1 b1.2 (by omega) (by omega)).mono ?_; rintro e w' ⟨rfl, rfl⟩
  go_wp2_with fail
  rw [rounds_succ]
  go_wp2_with fail
  refine (refAdd_any _ _ _ b2.1 b2.2 (by omega) (by omega)).mono ?_; rintro e w' ⟨rfl, rfl⟩
  go_wp2_with fail
  rw [rounds_succ]
  go_wp2_with fail
  refine (refAdd_any _ _ _ b3.1 b3.2 (by omega) (by omega)).mono ?_; rintro e w' ⟨rfl, rfl⟩
  go_wp2_with fail
  rw [rounds_succ]
  go_wp2
  go_ret
  exact ⟨rfl, rfl⟩
end Go.Proofs.Ytjocnhifnijlcaa
