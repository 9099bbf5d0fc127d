/- Lists of bytes, one behind the other; whether there are too many. -/
import Derived.Test.YtiphhjipgjpepaaFrSumAdd
import Derived.Test.YtiphhjipgjpepaaFrBase
set_option linter.unusedVariables false
namespace Go.Proofs.Ytiphhjipgjpepaa
open Go.RowKit

theorem infoU8 : (Try.prog.info? 5).map (fun i => (i.zero, i.size, i.bytes)) = some (some (.int .u8 0), 1, 1) := by kernel_rfl

theorem ret_boolB {a b : Bool} (h : a = b) : Ending.returned (.bool a) = .returned (.bool b) := by rw [h]

theorem flat_le (rows : List (List Int)) (k : Nat) : (rows.take k).flatten.length ≤ rows.flatten.length := by
  conv => rhs; rw [← List.take_append_drop k rows, List.flatten_append, List.length_append]
  omega

theorem flat_succ' (rows : List (List Int)) (k : Nat) (h : k < rows.length) : (rows.take (k + 1)).flatten = (rows.take k).flatten ++ rows.getD k [] := by
  have : rows.take (k + 1) = rows.take k ++ [rows.getD k []] := by rw [List.take_succ_eq_append_getElem h]; simp [h]
  rw [this]; simp

set_option maxHeartbeats 400000 in
theorem join_any (v : Value) (rows : List (List Int)) (w : World) (hv : RowsV w v rows) (hb : Bytes rows.flatten) (hz : rows.flatten.length ≤ 9000) :
    Calls Try.prog 31 #[v] w fun e w' => ∃ u, e = .returned u ∧ NewBytes w rows.flatten u w' := by
  obtain ⟨i0, hi, hz0, hz1, hz2⟩ := info_parts infoU8
  rcases hv with ⟨rfl, ao, cap, rfl, hcap⟩ | ⟨b, off, cap, rfl, hl, hcap, hc⟩
  · go_enter Try.func31, Try.ntmps31
    go_wp2
    refine wp_loop_rounds 1 ?_
    rw [rounds_succ]
    go_wp2
    go_ret
    exact ⟨_, rfl, World.ownsRow_nil _ _ _ _, Grow.refl _⟩
  · unfold maxLen at hcap
    have HC := Lib.hid hc
    clear hc
    go_enter Try.func31, Try.ntmps31
    go_wp2
    go_loopw [3, 4] (fun v i wr => ∃ k : Nat, k ≤ rows.length ∧ i = .int .i64 k ∧ wr.ownsRow w.heap.size 5 1 v (rows.take k).flatten.length ((rows.take k).flatten.map (Value.int .u8)) ∧ Grow w wr)
      (fun _ i _ => rows.length - (intOf i).toNat)
    case atStart => exact ⟨0, Nat.zero_le _, rfl, World.ownsRow_nil _ _ _ _, Grow.refl _⟩
    case round =>
      obtain ⟨k, hk, rfl, hown, hg⟩ := hrel
      by_cases hlt : k < rows.length
      · obtain ⟨x, hx, hr⟩ := HC.out k hlt
        have hx' : wr.cell? ⟨b, off + k, none⟩ = some x := (hg.cell (block_lt hx)).trans hx
        have hri := (hr.mono hg).2
        have hfl := flat_succ' rows k hlt
        have hle := flat_le rows (k + 1)
        rw [hfl, List.length_append] at hle
        obtain ⟨ao, c, rfl, _, _⟩ := hr.shape
        clear hr hx
        have HRI := Lib.hid hri
        have HFL := Lib.hid hfl
        clear hri hfl
        generalize rows.getD k [] = row at *
        generalize (rows.take k).flatten = pre at *
        go_wp2_with (at_builtin; refine wpList_append_ints (k := .u8) rfl _ _ 26 rfl w.heap.size 5 i0 1 Try.underlying26 hi hz0 hz1 hz2 _ _ _ rfl hown _ row rfl HRI.out ?c3 ?c4 ?c5 ?_)
        case c3 => unfold maxLen; omega
        case c4 => omega
        case c5 => exact hg.size
        · intro v' w1 hown' hgrow
          have hg1 := grow_by hg hown hgrow
          have HO : Hid (w1.ownsRow w.heap.size 5 1 v' (rows.take (k + 1)).flatten.length ((rows.take (k + 1)).flatten.map (Value.int .u8)) ∧ Grow w w1) := by
            refine ⟨?_, hg1⟩
            rw [HFL.out, List.length_append, List.map_append]
            exact hown'
          clear hown' hgrow hown hg hg1
          go_wp2
          go_roundw
          case rel => exact ⟨k + 1, by omega, by go_num, HO.out.1, HO.out.2⟩
          case measure => simp [intOf]; omega
      · have hkl : rows.take k = rows := List.take_of_length_le (by omega)
        rw [hkl] at hown
        have HO := Lib.hid hown
        clear hown hkl
        go_wp2
        go_ret
        exact ⟨_, rfl, HO.out, hg⟩

end Go.Proofs.Ytiphhjipgjpepaa
