/- The reference's sum and checksum of bytes. -/
import Derived.Test.YtiphhjipgjpepaaFrSumWords
set_option linter.unusedVariables false
namespace Go.Proofs.Ytiphhjipgjpepaa
open Go.RowKit

theorem words_any (v : Value) (zs : List Int) (w : World) (hv : BytesV w v zs) (hz : zs.length ≤ 20000) :
    Calls Try.prog 48 #[v] w fun e w' => ∃ u, e = .returned u ∧ IntsV .u16 w' u (wordsTo zs ((zs.length + 1) / 2)) ∧ Grow w w' := by
  obtain ⟨hb, ⟨rfl, ao, cap, rfl, _, _⟩ | ⟨b, off, cap, rfl, hl, hm, hc⟩⟩ := hv
  · go_enter Try.func48, Try.ntmps48
    go_wp2
    refine wp_loop_rounds 1 ?_
    rw [rounds_succ]
    go_wp2
    go_ret
    exact ⟨_, rfl, Or.inl ⟨rfl, none, 0, rfl, Nat.zero_le _, fun _ => rfl⟩, Grow.refl _⟩
  · exact words_some b off cap zs w hb hc hl hm hz

theorem two_half (zs : List Int) : zs.take (2 * ((zs.length + 1) / 2)) = zs := List.take_of_length_le (by omega)

set_option maxHeartbeats 400000 in
theorem refTotal_any (v : Value) (zs : List Int) (w : World) (hv : BytesV w v zs) (hz : zs.length ≤ 20000) :
    Calls Try.prog 44 #[v] w fun e w' => e = .returned (.int .u16 (nrm (bsum zs))) ∧ Grow w w' := by
  have hb := hv.1
  go_enter Try.func44, Try.ntmps44
  go_wp2_with fail
  refine (words_any v zs w hv hz).mono ?_
  rintro e w1 ⟨u, rfl, hu, hg⟩
  clear hv
  have hlen := wordsTo_length zs ((zs.length + 1) / 2)
  have HF := Lib.hid (two_half zs)
  rcases hu with ⟨h0, ao, cap, rfl, _, _⟩ | ⟨b, off, cap, rfl, hl, hm, hc⟩
  · have hz0 : zs = [] := by
      have h1 : (zs.length + 1) / 2 = 0 := by rw [h0] at hlen; simpa using hlen.symm
      exact List.length_eq_zero_iff.1 (by omega)
    subst hz0
    clear h0 hlen
    go_wp2
    refine wp_loop_rounds 1 ?_
    rw [rounds_succ]
    go_wp2
    go_ret
    exact ⟨rfl, hg⟩
  · have hcw : ∀ i, i < (zs.length + 1) / 2 → w1.cell? ⟨b, off + i, none⟩ = some (.int .u16 (wordAt zs i)) := fun i hi => by
      rw [hc i (by rw [hlen]; exact hi)]
      simp [wordsTo, hi]
    rw [hlen]
    rw [hlen] at hl
    clear hc hlen
    have HC := Lib.hid hcw
    clear hcw
    unfold maxLen at hm
    obtain ⟨n, hn⟩ : ∃ n, n = (zs.length + 1) / 2 := ⟨_, rfl⟩
    rw [← hn] at HC HF hl ⊢
    have hn1 : 2 * n ≤ zs.length + 1 := by omega
    have hn2 : zs.length ≤ 2 * n := by omega
    clear hn
    go_wp2
    go_loop [4, 5] (fun s i => ∃ k : Nat, k ≤ n ∧ i = .int .i64 k ∧ s = .int .u16 (nrm (bsum (zs.take (2 * k))))) (fun _ i => n - (intOf i).toNat)
    case atStart => exact ⟨0, Nat.zero_le _, rfl, rfl⟩
    case round =>
      obtain ⟨k, hk, rfl, rfl⟩ := hrel
      by_cases hlt : k < n
      · have hx := HC.out k hlt
        have hxb := wordAt_bd hb k
        have hnb := nrm_bd (bsum (zs.take (2 * k)))
        have HN : Hid (addc (nrm (bsum (zs.take (2 * k)))) (wordAt zs k) = nrm (bsum (zs.take (2 * (k + 1))))) := nrm_take hb k (by omega)
        generalize wordAt zs k = x at *
        generalize nrm (bsum (zs.take (2 * k))) = s at *
        go_wp2_with (go_at_call 49; refine (refAdd_any _ _ _ hnb.1 hnb.2 hxb.1 hxb.2).mono ?_; rintro e w' ⟨rfl, rfl⟩)
        go_round
        case rel => exact ⟨k + 1, by omega, by go_num, by rw [HN.out]⟩
        case measure => simp [intOf]; omega
      · have hkn : k = n := by omega
        subst hkn
        rw [HF.out]
        go_wp2
        go_ret
        exact ⟨rfl, hg⟩

theorem refCheck_any (v : Value) (zs : List Int) (w : World) (hv : BytesV w v zs) (hz : zs.length ≤ 20000) :
    Calls Try.prog 33 #[v] w fun e w' => e = .returned (.int .u16 (65535 - nrm (bsum zs))) ∧ Grow w w' := by
  have hb := nrm_bd (bsum zs)
  go_enter Try.func33, Try.ntmps33
  go_wp2_with fail
  refine (refTotal_any v zs w hv hz).mono ?_
  rintro e w1 ⟨rfl, hg⟩
  have HG := Lib.hid hg
  clear hg
  go_wp2
  go_ret
  exact ⟨rfl, HG.out⟩
end Go.Proofs.Ytiphhjipgjpepaa
