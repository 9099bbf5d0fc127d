/- slices.Equal of bytes. -/
import Derived.Test.YtajmfgadbphjbaaBoRef
import Derived.BigQuiet
import Derived.Deep.QuietTactic
set_option linter.unusedVariables false
set_option linter.unusedSimpArgs false
namespace Go.Proofs.Ytajmfgadbphjbaa
open Go.RowKit

theorem take_nextB {l m : List Int} {k : Nat} (h1 : k < l.length) (h2 : k < m.length) (ht : l.take k = m.take k) (h : l.getD k 0 = m.getD k 0) : l.take (k + 1) = m.take (k + 1) := by
  rw [List.take_succ_eq_append_getElem h1, List.take_succ_eq_append_getElem h2, ht]
  congr 2
  simpa [h1, h2] using h

set_option maxHeartbeats 1000000 in
theorem bytes_equal {w : World} {b off c b' off' c' n : Nat} {zs ys : List Int} (hz : zs.length = n) (hy : ys.length = n) (hn : n < 9223372036854775807)
    (h1 : ∀ i, i < n → w.cell? ⟨b, off + i, none⟩ = some (.int .u8 (zs.getD i 0))) (h2 : ∀ i, i < n → w.cell? ⟨b', off' + i, none⟩ = some (.int .u8 (ys.getD i 0))) :
    Calls Try.prog 30 #[.slice (some ⟨b, off, none⟩) n c, .slice (some ⟨b', off', none⟩) n c'] w fun e w' => e = .returned (.bool (decide (zs = ys))) ∧ ∃ q, w' = w.drewN q := by
  have H1 := Lib.hid h1
  have H2 := Lib.hid h2
  have HZ := Lib.hid hz
  have HY := Lib.hid hy
  clear h1 h2 hz hy
  go_enter Try.func30, Try.ntmps30
  go_wp2_with fail
  go_loopw [13] (fun i wr => ∃ k : Nat, k ≤ n ∧ i = .int .i64 k ∧ Hid (zs.take k = ys.take k) ∧ Hid (∃ q, wr = w.drewN q)) (fun i _ => n - (intOf i).toNat)
  case atStart => exact ⟨0, Nat.zero_le _, rfl, rfl, ⟨0, rfl⟩⟩
  case round =>
    obtain ⟨k, hk, rfl, HT, HW⟩ := hrel
    obtain ⟨q, hq⟩ := HW.out
    subst hq
    by_cases hlt : k < n
    · have g0 := H1.out k hlt
      have g1 := H2.out k hlt
      obtain ⟨x, hx⟩ : ∃ x, zs.getD k 0 = x := ⟨_, rfl⟩
      obtain ⟨y, hy⟩ : ∃ y, ys.getD k 0 = y := ⟨_, rfl⟩
      rw [hx] at g0
      rw [hy] at g1
      have HE1 := Lib.hid hx
      have HE2 := Lib.hid hy
      clear hx hy
      by_cases he : x = y
      · subst he
        have HNX : Hid (zs.take (k + 1) = ys.take (k + 1)) := take_nextB (by rw [HZ.out]; exact hlt) (by rw [HY.out]; exact hlt) HT.out (by rw [HE1.out, HE2.out])
        go_wp2_with fail
        go_quiet (fail)
        go_wp2_with fail
        go_roundw
        case rel => exact ⟨k + 1, by omega, by go_num, HNX.out, ⟨_, rfl⟩⟩
        case measure => simp [intOf]; omega
      · have HR : Hid (decide (zs = ys) = false) := by
          show decide _ = false
          exact decide_eq_false (fun hh => he (by rw [← HE1.out, ← HE2.out, hh]))
        have he2 : (x == y) = false := by simpa using he
        clear he
        go_wp2_with fail
        go_quiet (fail)
        go_wp2_with fail
        go_ret
        exact ⟨congrArg (fun x => Ending.returned (.bool x)) HR.out.symm, _, World.drewN_drewN _ _ _⟩
    · have hkn : k = n := by omega
      subst hkn
      have HR : Hid (decide (zs = ys) = true) := by
        show decide _ = true
        have := HT.out
        rw [List.take_of_length_le (by rw [HZ.out]; omega), List.take_of_length_le (by rw [HY.out]; omega)] at this
        exact decide_eq_true this
      go_wp2_with fail
      go_ret
      exact ⟨congrArg (fun x => Ending.returned (.bool x)) HR.out.symm, _, rfl⟩
end Go.Proofs.Ytajmfgadbphjbaa
