/- The document's Good. -/
import Derived.Test.YtajmfgadbphjbaaBoGood
set_option linter.unusedVariables false
set_option linter.unusedSimpArgs false
namespace Go.Proofs.Ytajmfgadbphjbaa
open Go.RowKit

theorem rgood_other (ao : Option Addr) (n c : Nat) (w : World) (h : n ≠ 16) (hc : c ≤ maxLen) (hn : n ≤ c) :
    Calls Try.prog 11 #[.slice ao n c] w fun e w' => e = .returned (.tuple #[.int .u64 0, .bool false]) ∧ w = w' := by
  have h1 : ((n : Int) == 16) = false := by simp; omega
  unfold maxLen at hc
  go_enter Try.func11, Try.ntmps11
  go_wp2_with fail
  go_ret2
  exact ⟨rfl, rfl⟩

set_option maxHeartbeats 1000000 in
theorem rgood_any {w : World} {b off c : Nat} {zs : List Int} (hb : Bytes zs) (hz : zs.length = 16) (h1 : ∀ i, i < 16 → w.cell? ⟨b, off + i, none⟩ = some (.int .u8 (zs.getD i 0))) (hc : 16 ≤ c) (hm : c ≤ maxLen) :
    Calls Try.prog 11 #[.slice (some ⟨b, off, none⟩) 16 c] w fun e w' => e = .returned (.tuple #[.int .u64 (goodNum zs), .bool (decide (GoodB zs))]) ∧ Grow w w' := by
  have H1 := Lib.hid h1
  have HB := Lib.hid hb
  have HZ := Lib.hid hz
  unfold maxLen at hm
  clear h1 hb hz
  go_enter Try.func11, Try.ntmps11
  go_wp2_with fail
  go_loopw [4, 5] (fun v i wr => ∃ k : Nat, k ≤ 8 ∧ i = .int .i64 k ∧ v = .int .u64 (beN (zs.take k)) ∧ Hid (∀ j, j < k → zs.getD j 0 + zs.getD (8 + j) 0 = 255) ∧ Hid (∃ q, wr = w.drewN q))
    (fun _ i _ => 8 - (intOf i).toNat)
  case atStart => exact ⟨0, by omega, rfl, rfl, fun j hj => by omega, ⟨0, rfl⟩⟩
  case round =>
    obtain ⟨k, hk, rfl, rfl, HA, HW⟩ := hrel
    obtain ⟨q, hq⟩ := HW.out
    subst hq
    by_cases hlt : k < 8
    · have hk1 : (k : Int) < 8 := by omega
      have hx := H1.out k (by omega)
      have hy := H1.out (8 + k) (by omega)
      have hxb := HB.out.getD k
      have hyb := HB.out.getD (8 + k)
      have hacc := beN_lt HB.out k
      have hle := pow_le7 hlt
      have HE : Hid (beN (zs.take (k + 1)) = beN (zs.take k) * 256 + zs.getD k 0) := by
        have h : k < zs.length := by rw [HZ.out]; omega
        have e : zs.take (k + 1) = zs.take k ++ [zs.getD k 0] := by rw [List.take_succ_eq_append_getElem h]; simp [h]
        show beN _ = _
        rw [e, beN_snoc]
      have ha : beN (zs.take k) < 72057594037927936 := by omega
      have ha0 := hacc.1
      clear hacc hle
      generalize beN (zs.take k) = acc at *
      obtain ⟨x, hxe⟩ : ∃ x, zs.getD k 0 = x := ⟨_, rfl⟩
      obtain ⟨y, hye⟩ : ∃ y, zs.getD (8 + k) 0 = y := ⟨_, rfl⟩
      rw [hxe] at hx hxb HE
      rw [hye] at hy hyb
      have HX := Lib.hid hxe
      have HY := Lib.hid hye
      clear hxe hye
      by_cases hs : x + y = 255
      · have HA' : Hid (∀ j, j < k + 1 → zs.getD j 0 + zs.getD (8 + j) 0 = 255) := fun j hj => by
          by_cases e : j = k
          · subst e; rw [HX.out, HY.out]; exact hs
          · exact HA.out j (by omega)
        have hw : ((x + y) % 256 == 255) = true := by simp; omega
        clear hs
        go_wp2_with fail
        go_quiet (fail)
        go_wp2_with fail
        exact ⟨⟨k + 1, by omega, by go_num, by rw [HE.out], HA'.out, ⟨_, rfl⟩⟩, by simp [intOf]; omega⟩
      · have hw : ((x + y) % 256 == 255) = false := by simp; omega
        have HN : Hid (¬ GoodB zs) := fun hg => hs (by rw [← HX.out, ← HY.out]; exact hg.2 k hlt)
        clear hs
        go_wp2_with fail
        go_quiet (fail)
        go_wp2_with fail
        go_ret2
        exact ⟨by rw [goodNum, if_neg HN.out, decide_eq_false HN.out]; rfl, grow_dn (grow_dn (Grow.refl w) _) _⟩
    · have h8 : k = 8 := by omega
      subst h8
      have HG : Hid (GoodB zs) := ⟨HZ.out, fun j hj => HA.out j hj⟩
      go_wp2_with fail
      go_ret2
      exact ⟨by rw [goodNum, if_pos HG.out, decide_eq_true HG.out]; rfl, grow_dn (Grow.refl w) _⟩
end Go.Proofs.Ytajmfgadbphjbaa
