/- The document's Slot. -/
import Derived.Test.YtajmfgadbphjbaaBoSlot
import Derived.Test.YtajmfgadbphjbaaStWrite
set_option linter.unusedVariables false
set_option linter.unusedSimpArgs false
namespace Go.Proofs.Ytajmfgadbphjbaa
open Go.RowKit

theorem slotB_take {n : Int} (hn : 0 ≤ n ∧ n < 18446744073709551616) {k : Nat} (h : k < 8) : (slotB n).take (8 + (k + 1)) = (slotB n).take (8 + k) ++ [255 - (slotB n).getD k 0] := by
  have hl := slotB_length n
  have h2 := (slotB_good hn).1.2 k h
  have e : 8 + (k + 1) = (8 + k) + 1 := by omega
  rw [e, List.take_succ_eq_append_getElem (by omega)]
  have q := getD_lt (l := slotB n) (k := 8 + k) (by omega)
  rw [← q]
  congr 2
  omega

set_option maxHeartbeats 2000000 in
theorem refslot_any (n : Int) (w : World) (hn : 0 ≤ n ∧ n < 18446744073709551616) :
    Calls Try.prog 10 #[.int .u64 n] w fun e w' => ∃ v, e = .returned v ∧ NewBytes w (slotB n) v w' := by
  obtain ⟨i0, hi, hz0, hz1, hz2⟩ := info_parts infoByte
  go_enter Try.func10, Try.ntmps10
  go_wp2_with fail
  go_loopw [3, 4] (fun v i wr => ∃ k : Nat, k ≤ 8 ∧ i = .int .i64 ((7 : Int) - k) ∧ wr.ownsRow w.heap.size 5 1 v ((be8 n).take k).length (((be8 n).take k).map (Value.int .u8)) ∧ Grow w wr)
    (fun _ i _ => (intOf i + 1).toNat)
  case atStart => exact ⟨0, by omega, rfl, World.ownsRow_nil _ _ _ _, Grow.refl _⟩
  case round =>
    obtain ⟨k, hk, rfl, hown, hg⟩ := hrel
    by_cases hlt : k < 8
    · have hk1 : (k : Int) < 8 := by omega
      have HT : Hid ((be8 n).take (k + 1) = (be8 n).take k ++ [n / 2 ^ (8 * (7 - k)) % 256]) := be8_take n hlt
      have HL : Hid (((be8 n).take k).length = k) := by show List.length _ = k; rw [List.length_take, be8_length]; omega
      generalize (be8 n).take k = pre at *
      go_wp2_with (at_builtin; refine wpList_append_own _ rfl _ _ 23 rfl w.heap.size 5 i0 (.int .u8 0) 1 1 Try.underlying23 hi hz0 hz1 hz2 rfl (by decide) _ _ _ rfl (hown.alloc _) ⟨wr.heap.size, 0, none⟩ 1 1 [.int .u8 (n / 2 ^ (8 * (7 - k)) % 256)] rfl rfl ?c1 ?c2 ?c3 ?c4 ?c5 ?_)
      case c1 =>
        intro j u hj
        match j, hj with
        | 0, hj => simp at hj; subst hj; simp [Addr.add]
      case c2 => intro u hu; simp at hu; subst hu; rfl
      case c3 => rw [HL.out]; unfold maxLen; simp; omega
      case c4 => rw [HL.out]; simp; omega
      case c5 => have := hg.size; simp; omega
      · intro v' w1 hown' hgrow _
        have HR : Hid (w1.ownsRow w.heap.size 5 1 v' ((be8 n).take (k + 1)).length (((be8 n).take (k + 1)).map (Value.int .u8)) ∧ Grow w w1) := by
          rw [HT.out]
          refine ⟨?_, Below.grown (hg.alloc _) hgrow (by have := hg.size; simp; omega) (fun j hj => (hown.lt j hj).1)⟩
          simpa using hown'
        clear hown' hgrow hown hg
        go_wp2
        go_roundw
        case rel => exact ⟨k + 1, by omega, by (congr 1; omega), HR.out.1, HR.out.2⟩
        case measure => simp [intOf]; omega
    · have h8 : k = 8 := by omega
      subst h8
      have ho : wr.ownsRow w.heap.size 5 1 u3 ((slotB n).take 8).length (((slotB n).take 8).map (Value.int .u8)) := by
        have e : (slotB n).take 8 = be8 n := by
          unfold slotB; rw [List.take_append_of_le_length (by rw [be8_length]; omega), List.take_of_length_le (by rw [be8_length]; omega)]
        rw [e]
        rwa [List.take_of_length_le (by rw [be8_length]; omega)] at hown
      have H0 := Lib.hid (And.intro ho hg)
      clear ho hown hg
      rw [show (7 : Int) - ((8 : Nat) : Int) = -1 from by decide]
      go_wp2_with fail
      go_loopw [3, 5] (fun v i wr => ∃ k : Nat, k ≤ 8 ∧ i = .int .i64 k ∧ wr.ownsRow w.heap.size 5 1 v ((slotB n).take (8 + k)).length (((slotB n).take (8 + k)).map (Value.int .u8)) ∧ Grow w wr)
        (fun _ i _ => 8 - (intOf i).toNat)
      case atStart => exact ⟨0, by omega, rfl, H0.out.1, H0.out.2⟩
      case round =>
        obtain ⟨k, hk, rfl, hown, hg⟩ := hrel
        by_cases hlt : k < 8
        · have hk1 : (k : Int) < 8 := by omega
          have HT : Hid ((slotB n).take (8 + (k + 1)) = (slotB n).take (8 + k) ++ [255 - (slotB n).getD k 0]) := slotB_take hn hlt
          have HL : Hid (((slotB n).take (8 + k)).length = 8 + k) := by show List.length _ = _; rw [List.length_take, slotB_length]; omega
          have hiv := ints_of_owns hown
          obtain ⟨b, off, cap, rfl, hc1, hc2⟩ := hiv.solid (fun e => by have := HL.out; rw [e] at this; simp at this; omega)
          have hx := hiv.cells k (by rw [HL.out]; omega)
          have hxe : ((slotB n).take (8 + k)).getD k 0 = (slotB n).getD k 0 := by
            simp only [List.getD_eq_getElem?_getD]; rw [List.getElem?_take_of_lt (by omega)]
          rw [hxe] at hx
          have hxb := (slotB_bytes n).getD k
          clear hiv hxe
          rw [HL.out] at hown hc1 ⊢
          unfold maxLen at hc2
          generalize (slotB n).getD k 0 = x at *
          generalize (slotB n).take (8 + k) = pre at *
          go_wp2_with (at_builtin; refine wpList_append_own _ rfl _ _ 23 rfl w.heap.size 5 i0 (.int .u8 0) 1 1 Try.underlying23 hi hz0 hz1 hz2 rfl (by decide) _ _ _ rfl (hown.alloc _) ⟨wr.heap.size, 0, none⟩ 1 1 [.int .u8 (255 - x)] rfl rfl ?c1 ?c2 ?c3 ?c4 ?c5 ?_)
          case c1 =>
            intro j u hj
            match j, hj with
            | 0, hj => simp at hj; subst hj; simp [Addr.add]
          case c2 => intro u hu; simp at hu; subst hu; rfl
          case c3 => unfold maxLen; simp; omega
          case c4 => simp; omega
          case c5 => have := hg.size; simp; omega
          · intro v' w1 hown' hgrow _
            have HR : Hid (w1.ownsRow w.heap.size 5 1 v' ((slotB n).take (8 + (k + 1))).length (((slotB n).take (8 + (k + 1))).map (Value.int .u8)) ∧ Grow w w1) := by
              rw [HT.out, List.length_append, HL.out, List.map_append]
              exact ⟨hown', Below.grown (hg.alloc _) hgrow (by have := hg.size; simp; omega) (fun j hj => (hown.lt j hj).1)⟩
            clear hown' hgrow hown hg
            go_wp2
            go_roundw
            case rel => exact ⟨k + 1, by omega, by go_num, HR.out.1, HR.out.2⟩
            case measure => simp [intOf]; omega
        · have h8 : k = 8 := by omega
          subst h8
          rw [List.take_of_length_le (by rw [slotB_length]; omega)] at hown
          have H1 := Lib.hid (And.intro hown hg)
          clear hown hg H0
          go_wp2_with fail
          go_ret
          exact ⟨_, rfl, H1.out.1, H1.out.2⟩
end Go.Proofs.Ytajmfgadbphjbaa
