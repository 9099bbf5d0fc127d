/- Lists of bytes, one behind the other; whether there are too many. -/
import Derived.Test.YtjocnhifnijlcaaSumAdd
import Derived.Test.YtjocnhifnijlcaaAppend
set_option linter.unusedVariables false
namespace Go.Proofs.Ytjocnhifnijlcaa
open Go.RowKit

theorem infoU8 : (Try.prog.info? 5).map (fun i => (i.zero, i.size, i.bytes)) = some (some (.int .u8 0), 1, 1) := by kernel_rfl

theorem ret_boolB {a b : Bool} (h : a = b) : Ending.returned (.bool a) = .returned (.bool b) := by rw [h]

theorem flat_le (rows : List (List Int)) (k : Nat) : (rows.take k).flatten.length ≤ rows.flatten.length := by
  conv => rhs; rw [← List.take_append_drop k rows, List.flatten_append, List.length_append]
  omega

theorem flat_succ' (rows : List (List Int)) (k : Nat) (h : k < rows.length) : (rows.take (k + 1)).flatten = (rows.take k).flatten ++ rows.getD k [] := by
  have : rows.take (k + 1) = rows.take k ++ [rows.getD k []] := by rw [List.take_succ_eq_append_getElem h]; simp [h]
  rw [this]; simp

set_option maxHeartbeats 400000 in
theorem join_any (v : Value) (rows : List (List Int)) (w : World) (hv : RowsV w v rows) (hb : Bytes rows.flatten) (hz : rows.flatten.length ≤ 9000) :
    Calls Try.prog 11 #[v] w fun e w' => ∃ u, e = .returned u ∧ BytesV w' u rows.flatten ∧ Grow w w' := by
  obtain ⟨i0, hi, hz0, hz1, hz2⟩ := info_parts infoU8
  rcases hv with ⟨rfl, ao, cap, rfl, hcap⟩ | ⟨b, off, cap, rfl, hl, hcap, hc⟩
  · go_enter Try.func11, Try.ntmps11
    go_wp2
    refine wp_loop_rounds 1 ?_
    rw [rounds_succ]
    go_wp2
    go_ret
    exact ⟨_, rfl, ⟨Bytes.nil, Or.inl ⟨rfl, none, 0, rfl, Nat.zero_le _, fun _ => rfl⟩⟩, Grow.refl _⟩
  · unfold maxLen at hcap
    have HC := Lib.hid hc
    clear hc
    go_enter Try.func11, Try.ntmps11
    go_wp2
    go_loopw [3, 4] (fun v i wr => ∃ k : Nat, k ≤ rows.length ∧ i = .int .i64 k ∧ wr.ownsRow w.heap.size 5 1 v (rows.take k).flatten.length ((rows.take k).flatten.map (Value.int .u8)) ∧ Grow w wr)
      (fun _ i _ => rows.length - (intOf i).toNat)
    case atStart => exact ⟨0, Nat.zero_le _, rfl, World.ownsRow_nil _ _ _ _, Grow.refl _⟩
    case round =>
      obtain ⟨k, hk, rfl, hown, hg⟩ := hrel
      by_cases hlt : k < rows.length
      · obtain ⟨x, hx, hr⟩ := HC.out k hlt
        have hx' : wr.cell? ⟨b, off + k, none⟩ = some x := (hg.cell (block_lt hx)).trans hx
        have hri := (hr.mono hg).2
        have hfl := flat_succ' rows k hlt
        have hle := flat_le rows (k + 1)
        rw [hfl, List.length_append] at hle
        obtain ⟨ao, c, rfl, _, _⟩ := hr.shape
        clear hr hx
        have HRI := Lib.hid hri
        have HFL := Lib.hid hfl
        clear hri hfl
        generalize rows.getD k [] = row at *
        generalize (rows.take k).flatten = pre at *
        go_wp2_with (at_builtin; refine wpList_append_ints (k := .u8) rfl _ _ 23 rfl w.heap.size 5 i0 1 Try.underlying23 hi hz0 hz1 hz2 _ _ _ rfl hown _ row rfl HRI.out ?c3 ?c4 ?c5 ?_)
        case c3 => unfold maxLen; omega
        case c4 => omega
        case c5 => exact hg.size
        · intro v' w1 hown' hgrow
          have hg1 := grow_by hg hown hgrow
          have HO : Hid (w1.ownsRow w.heap.size 5 1 v' (rows.take (k + 1)).flatten.length ((rows.take (k + 1)).flatten.map (Value.int .u8)) ∧ Grow w w1) := by
            refine ⟨?_, hg1⟩
            rw [HFL.out, List.length_append, List.map_append]
            exact hown'
          clear hown' hgrow hown hg hg1
          go_wp2
          go_roundw
          case rel => exact ⟨k + 1, by omega, by go_num, HO.out.1, HO.out.2⟩
          case measure => simp [intOf]; omega
      · have hkl : rows.take k = rows := List.take_of_length_le (by omega)
        have hv : BytesV wr u3 rows.flatten := ⟨hb, by have := ints_of_owns hown; rwa [hkl] at this⟩
        have HV := Lib.hid hv
        obtain ⟨ao, c, rfl, _, _⟩ := hv.shape
        clear hv hown hkl
        go_wp2
        go_ret
        exact ⟨_, rfl, HV.out, hg⟩

def SomeMuch (rows : List (List Int)) (w : World) (e : Ending) (w' : World) : Prop := ∃ b : Bool, e = .returned (.bool b) ∧ (b = false → rows.length + rows.flatten.length ≤ 9000) ∧ w = w'

set_option maxHeartbeats 400000 in
theorem much_any (v : Value) (rows : List (List Int)) (w : World) (hv : RowsV w v rows) :
    Calls Try.prog 9 #[v, .int .i64 9000] w (SomeMuch rows w) := by
  rcases hv with ⟨rfl, ao, cap, rfl, hcap⟩ | ⟨b, off, cap, rfl, hl, hcap, hc⟩
  · go_enter Try.func9, Try.ntmps9
    go_wp2
    refine wp_loop_rounds 1 ?_
    rw [rounds_succ]
    go_wp2
    go_ret
    exact ⟨false, rfl, fun _ => by simp, rfl⟩
  · unfold maxLen at hcap
    have HC := Lib.hid hc
    clear hc
    go_enter Try.func9, Try.ntmps9
    go_wp2
    go_loop [5, 6] (fun s i => ∃ (k : Nat) (n : Int), k ≤ rows.length ∧ i = .int .i64 k ∧ s = .int .i64 n ∧ 0 ≤ n ∧ (n ≤ (rows.length : Int) ∨ n ≤ 18001) ∧ Hid (n ≤ 9000 → n = (rows.length : Int) + ((rows.take k).flatten.length : Int)))
      (fun _ i => rows.length - (intOf i).toNat)
    case atStart => exact ⟨0, rows.length, Nat.zero_le _, rfl, rfl, by omega, Or.inl (by omega), fun _ => by simp⟩
    case round =>
      obtain ⟨k, n, hk, rfl, rfl, hn0, hn1, HN⟩ := hrel
      have hn2 : n ≤ 9223372036854775807 := by omega
      clear hn1
      by_cases hlt : k < rows.length
      · by_cases hle : n ≤ 9000
        · obtain ⟨x, hx, hr⟩ := HC.out k hlt
          obtain ⟨ao, c, rfl, hrl, hrc⟩ := hr.shape
          have hfl := flat_succ' rows k hlt
          have hrl' : 0 ≤ ((rows.getD k []).length : Int) := by omega
          unfold maxLen at hrc
          have HFL : Hid (n ≤ 9000 → n + ((rows.getD k []).length : Int) = (rows.length : Int) + ((rows.take (k + 1)).flatten.length : Int)) := fun h => by
            have h1 := HN.out h
            rw [hfl, List.length_append]; omega
          clear hr hfl HN
          generalize rows.getD k [] = row at *
          by_cases hm : row.length ≤ 9001
          · have hmin : min (row.length : Int) 9001 = row.length := by omega
            go_wp2
            all_goals
              go_round
              case rel => exact ⟨k + 1, n + row.length, by omega, by go_num, by first | rfl | go_num, by omega, by omega, fun h => HFL.out (by omega)⟩
              case measure => simp [intOf]; omega
          · have hmin : min (row.length : Int) 9001 = 9001 := by omega
            go_wp2
            all_goals
              go_round
              case rel => exact ⟨k + 1, n + 9001, by omega, by go_num, by first | rfl | go_num, by omega, by omega, fun h => by omega⟩
              case measure => simp [intOf]; omega
        · go_wp2
          go_ret
          exact ⟨true, ret_boolB (by simp <;> omega), (fun h => by cases h), rfl⟩
      · have hkl : rows.take k = rows := List.take_of_length_le (by omega)
        rw [hkl] at HN
        clear hkl
        by_cases hle : n ≤ 9000
        · go_wp2
          go_ret
          exact ⟨false, ret_boolB (by simp <;> omega), fun _ => by have := HN.out hle; omega, rfl⟩
        · go_wp2
          go_ret
          exact ⟨true, ret_boolB (by simp <;> omega), (fun h => by cases h), rfl⟩
end Go.Proofs.Ytjocnhifnijlcaa
