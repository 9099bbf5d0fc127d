/- Numbers of bytes, and back. -/
import Derived.Test.YtiphhjipgjpepaaFrBase
set_option linter.unusedVariables false
set_option linter.unusedSimpArgs false
namespace Go.Proofs.Ytiphhjipgjpepaa
open Go.RowKit

/-- A number's bytes, the highest first. -/
def be2 (n : Int) : List Int := (List.range 2).map fun k => n / 2 ^ (8 * (1 - k)) % 256

theorem be2_length (n : Int) : (be2 n).length = 2 := by simp [be2]

theorem be2_getD (n : Int) {k : Nat} (h : k < 2) : (be2 n).getD k 0 = n / 2 ^ (8 * (1 - k)) % 256 := by
  simp [be2, h]

theorem be2_take (n : Int) {k : Nat} (h : k < 2) : (be2 n).take (k + 1) = (be2 n).take k ++ [n / 2 ^ (8 * (1 - k)) % 256] := by
  rw [List.take_succ_eq_append_getElem (by rw [be2_length]; exact h)]
  simp [be2]

theorem be2_bytes (n : Int) : Bytes (be2 n) := by
  intro x hx
  unfold be2 at hx
  obtain ⟨k, _, rfl⟩ := List.mem_map.1 hx
  omega

set_option maxHeartbeats 1000000 in
theorem put2 (n : Int) (w : World) (hn : 0 ≤ n ∧ n < 65536) :
    Calls Try.prog 41 #[.int .u64 n, .int .i64 2] w fun e w' => ∃ v, e = .returned (.tuple #[v, .int .i64 0]) ∧ NewBytes w (be2 n) v w' := by
  obtain ⟨i0, hi, hz0, hz1, hz2⟩ := info_parts infoByte
  have hz0' : n / 65536 = 0 := by omega
  go_enter Try.func41, Try.ntmps41
  go_wp2_with fail
  go_loopw [6, 26] (fun v i wr => ∃ k : Nat, k ≤ 2 ∧ i = .int .i64 k ∧ wr.ownsRow w.heap.size 5 1 v ((be2 n).take k).length (((be2 n).take k).map (Value.int .u8)) ∧ Grow w wr)
    (fun _ i _ => 2 - (intOf i).toNat)
  case atStart => exact ⟨0, by omega, rfl, World.ownsRow_nil _ _ _ _, Grow.refl _⟩
  case round =>
    obtain ⟨k, hk, rfl, hown, hg⟩ := hrel
    by_cases hlt : k < 2
    · have hk1 : (k : Int) < 2 := by omega
      obtain ⟨x, hx⟩ : ∃ x, n / 2 ^ (8 * (1 - k)) % 256 = x := ⟨_, rfl⟩
      have HX := Lib.hid hx
      have HT : Hid ((be2 n).take (k + 1) = (be2 n).take k ++ [x]) := by rw [← hx]; exact be2_take n hlt
      have HL : Hid (((be2 n).take k).length = k) := by show List.length _ = k; rw [List.length_take, be2_length]; omega
      clear hx
      generalize (be2 n).take k = pre at *
      go_wp2_with (at_builtin; refine wpList_append_own _ rfl _ _ 26 rfl w.heap.size 5 i0 (.int .u8 0) 1 1 Try.underlying26 hi hz0 hz1 hz2 rfl (by decide) _ _ _ rfl (hown.alloc _) ⟨wr.heap.size, 0, none⟩ 1 1 [.int .u8 (n / 2 ^ (8 * (1 - k)) % 256)] rfl rfl ?c1 ?c2 ?c3 ?c4 ?c5 ?_)
      case c1 =>
        intro j u hj
        match j, hj with
        | 0, hj => simp at hj; subst hj; simp [Addr.add]
      case c2 => intro u hu; simp at hu; subst hu; rfl
      case c3 => rw [HL.out]; unfold maxLen; simp; omega
      case c4 => rw [HL.out]; simp; omega
      case c5 => have := hg.size; simp; omega
      · intro v' w1 hown' hgrow _
        have HR : Hid (w1.ownsRow w.heap.size 5 1 v' ((be2 n).take (k + 1)).length (((be2 n).take (k + 1)).map (Value.int .u8)) ∧ Grow w w1) := by
          rw [HT.out]
          refine ⟨?_, ?_⟩
          · rw [← HX.out]
            simpa using hown'
          · exact Below.grown (hg.alloc _) hgrow (by have := hg.size; simp; omega) (fun j hj => (hown.lt j hj).1)
        clear hown' hgrow hown hg
        go_wp2
        go_roundw
        case rel => exact ⟨k + 1, by omega, by go_num, HR.out.1, HR.out.2⟩
        case measure => simp [intOf]; omega
    · have h2 : k = 2 := by omega
      subst h2
      go_wp2_with fail
      go_ret2
      rw [List.take_of_length_le (by rw [be2_length]; omega)] at hown
      exact ⟨_, rfl, hown, hg⟩

set_option maxHeartbeats 1000000 in
theorem getL (b off cap L : Nat) (zs : List Int) (w : World) (hb : Bytes zs) (hc : ∀ i, i < zs.length → w.cell? ⟨b, off + i, none⟩ = some (.int .u8 (zs.getD i 0))) (hl : zs.length = L) (hL : 1 ≤ L ∧ L ≤ 8) (hcap : L ≤ cap) (hm : cap ≤ maxLen) :
    Calls Try.prog 35 #[.slice (some ⟨b, off, none⟩) L cap] w fun e w' => e = .returned (.tuple #[.int .u64 (beN zs), .int .i64 0]) ∧ w = w' := by
  unfold maxLen at hm
  obtain ⟨hL1, hL2⟩ := hL
  have HC := Lib.hid hc
  have HL := Lib.hid hl
  clear hc hl
  go_enter Try.func35, Try.ntmps35
  go_wp2_with fail
  go_loopw [4, 17] (fun v i wr => ∃ k : Nat, k ≤ L ∧ i = .int .i64 k ∧ v = .int .u64 (beN (zs.take k)) ∧ w = wr)
    (fun _ i _ => L - (intOf i).toNat)
  case atStart => exact ⟨0, by omega, rfl, rfl, rfl⟩
  case round =>
    obtain ⟨k, hk, rfl, rfl, rfl⟩ := hrel
    by_cases hlt : k < L
    · have hk1 : (k : Int) < (L : Int) := by omega
      have hx := HC.out k (by rw [HL.out]; exact hlt)
      have hxb := hb.getD k
      have hacc := beN_lt hb k
      have hle := pow_le7 (by omega : k < 8)
      have HE : Hid (beN (zs.take (k + 1)) = beN (zs.take k) * 256 + zs.getD k 0) := by
        have h : k < zs.length := by rw [HL.out]; exact hlt
        have e : zs.take (k + 1) = zs.take k ++ [zs.getD k 0] := by rw [List.take_succ_eq_append_getElem h]; simp [h]
        show beN _ = _
        rw [e, beN_snoc]
      have ha : beN (zs.take k) < 72057594037927936 := by
        omega
      have ha0 := hacc.1
      clear hacc hle
      generalize beN (zs.take k) = acc at *
      generalize zs.getD k 0 = x at *
      have HO := Lib.hid (or64 (acc := acc) (x := x) (by omega) (by omega) (by omega) (by omega))
      go_wp2_with fail
      exact ⟨⟨k + 1, by omega, by go_num, by rw [HO.out, HE.out], trivial⟩, by simp [intOf]; omega⟩
    · have h8 : k = L := by omega
      subst h8
      rw [List.take_of_length_le (by rw [HL.out]; omega)]
      go_wp2_with fail
      go_ret2
      exact ⟨rfl, rfl⟩

set_option maxHeartbeats 1000000 in
theorem rgetL (b off cap L : Nat) (zs : List Int) (w : World) (hb : Bytes zs) (hc : ∀ i, i < zs.length → w.cell? ⟨b, off + i, none⟩ = some (.int .u8 (zs.getD i 0))) (hl : zs.length = L) (hL : 1 ≤ L ∧ L ≤ 8) (hcap : L ≤ cap) (hm : cap ≤ maxLen) :
    Calls Try.prog 38 #[.slice (some ⟨b, off, none⟩) L cap] w fun e w' => e = .returned (.int .u64 (beN zs)) ∧ w = w' := by
  unfold maxLen at hm
  obtain ⟨hL1, hL2⟩ := hL
  have HC := Lib.hid hc
  have HL := Lib.hid hl
  clear hc hl
  go_enter Try.func38, Try.ntmps38
  go_wp2_with fail
  go_loopw [3, 4] (fun v i wr => ∃ k : Nat, k ≤ L ∧ i = .int .i64 k ∧ v = .int .u64 (beN (zs.take k)) ∧ w = wr)
    (fun _ i _ => L - (intOf i).toNat)
  case atStart => exact ⟨0, by omega, rfl, rfl, rfl⟩
  case round =>
    obtain ⟨k, hk, rfl, rfl, rfl⟩ := hrel
    by_cases hlt : k < L
    · have hk1 : (k : Int) < (L : Int) := by omega
      have hx := HC.out k (by rw [HL.out]; exact hlt)
      have hxb := hb.getD k
      have hacc := beN_lt hb k
      have hle := pow_le7 (by omega : k < 8)
      have HE : Hid (beN (zs.take (k + 1)) = beN (zs.take k) * 256 + zs.getD k 0) := by
        have h : k < zs.length := by rw [HL.out]; exact hlt
        have e : zs.take (k + 1) = zs.take k ++ [zs.getD k 0] := by rw [List.take_succ_eq_append_getElem h]; simp [h]
        show beN _ = _
        rw [e, beN_snoc]
      have ha : beN (zs.take k) < 72057594037927936 := by
        omega
      have ha0 := hacc.1
      clear hacc hle
      generalize beN (zs.take k) = acc at *
      generalize zs.getD k 0 = x at *
      go_wp2_with fail
      exact ⟨⟨k + 1, by omega, by go_num, by rw [HE.out], trivial⟩, by simp [intOf]; omega⟩
    · have h8 : k = L := by omega
      subst h8
      rw [List.take_of_length_le (by rw [HL.out]; omega)]
      go_wp2_with fail
      go_ret
      exact ⟨rfl, rfl⟩
end Go.Proofs.Ytiphhjipgjpepaa
