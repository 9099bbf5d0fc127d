/- The contracts of the functions that add with carry, in the program and in the reference. -/
import Derived.Test.YtiphhjipgjpepaaRows
import Derived.Test.YtiphhjipgjpepaaSumMath
import Derived.WalkKit
import Derived.WalkLawsBesides
import Derived.WalkSpells
import Derived.Laws.BitsAllLaws
set_option linter.unusedVariables false
namespace Go.Proofs.Ytiphhjipgjpepaa
open Go.RowKit

theorem ret_int {k : IntKind} {a b : Int} (h : a = b) : Ending.returned (.int k a) = .returned (.int k b) := by rw [h]

theorem wrap16 (n : Int) : IntKind.u16.wrap n = n % 65536 := by
  simp [IntKind.wrap, IntKind.signed, IntKind.bits]

theorem nat_not16 (c : Nat) (h : c < 65536) : 65535 ^^^ c = 65535 - c := by
  have h1 : (BitVec.ofNat 16 c).toNat = c := by simp [BitVec.toNat_ofNat]; omega
  have h2 := BitVec.toNat_not (x := BitVec.ofNat 16 c)
  rw [BitVec.not_def, BitVec.toNat_xor, BitVec.toNat_allOnes, h1] at h2
  exact h2

/-- All bits of a 16-bit number are turned. -/
theorem not16 {c : Int} (h : 0 ≤ c) (h' : c < 65536) : bits .xor .u16 IntKind.u16.max c = 65535 - c := by
  have e : IntKind.u16.max = 65535 := rfl
  rw [e, u16_xor 65535 c (by omega) (by omega) h h']
  have : (65535 : Int).toNat = 65535 := rfl
  rw [this, nat_not16 _ (by omega)]
  omega

/-- Two bytes are joined to a word. -/
theorem or16 {a b : Int} (h1 : 0 ≤ a) (h2 : a < 256) (h3 : 0 ≤ b) (h4 : b < 256) : bits .or .u16 (a * 256) b = 256 * a + b := by
  rw [u16_or _ _ (by omega) (by omega) (by omega) (by omega), nat_join 8 _ _ (by omega) (by omega)]
  omega

theorem add_any (x y : Int) (w : World) (hx : 0 ≤ x) (hx' : x < 65536) (hy : 0 ≤ y) (hy' : y < 65536) :
    Calls Try.prog 51 #[.int .u16 x, .int .u16 y] w fun e w' => e = .returned (.int .u16 (addc x y)) ∧ w = w' := by
  go_enter Try.func51, Try.ntmps51
  go_wp2
  go_ret
  refine ⟨ret_int ?_, rfl⟩
  rw [wrap16]
  unfold addc
  split <;> omega

theorem refAdd_any (x y : Int) (w : World) (hx : 0 ≤ x) (hx' : x < 65536) (hy : 0 ≤ y) (hy' : y < 65536) :
    Calls Try.prog 49 #[.int .u16 x, .int .u16 y] w fun e w' => e = .returned (.int .u16 (addc x y)) ∧ w = w' := by
  go_enter Try.func49, Try.ntmps49
  go_wp2
  all_goals
    go_ret
    refine ⟨ret_int ?_, rfl⟩
    try rw [wrap16]
    unfold addc
    split <;> omega

/-- The four words of a number, summed with carry. -/
def foldc (x : Int) : Int := addc (addc (addc (x / 281474976710656) (x / 4294967296 % 65536)) (x / 65536 % 65536)) (x % 65536)

theorem addc_zero {x : Int} (h : 0 ≤ x) (h' : x < 65536) : addc 0 x = x := by unfold addc; rw [if_neg (by omega)]; omega

end Go.Proofs.Ytiphhjipgjpepaa
