/- The document's Put: a number's bytes. -/
import Derived.Test.YtiphhjipgjpepaaFrNum
set_option linter.unusedVariables false
set_option linter.unusedSimpArgs false
namespace Go.Proofs.Ytiphhjipgjpepaa
open Go.RowKit

/-- The bytes behind k steps from the last one. -/
def putSt (L : Nat) (n : Int) (k : Nat) : List Int := (List.range L).map fun j => if j + k < L then 0 else n / 256 ^ (L - 1 - j) % 256
theorem putSt_length (L : Nat) (n : Int) (k : Nat) : (putSt L n k).length = L := by simp [putSt]
theorem putSt_zero (L : Nat) (n : Int) : putSt L n 0 = List.replicate L 0 := by
  apply List.ext_getElem
  · simp [putSt]
  · intro j h1 h2
    have hj : j < L := by simpa [putSt] using h1
    simp [putSt, hj]
theorem putSt_set (L : Nat) (n : Int) {k : Nat} (hk : k < L) : (putSt L n k).set (L - 1 - k) (n / 256 ^ k % 256) = putSt L n (k + 1) := by
  apply List.ext_getElem
  · simp [putSt]
  · intro j h1 h2
    rw [List.getElem_set]
    simp only [putSt, List.length_map, List.length_range] at h2
    simp only [putSt, List.getElem_map, List.getElem_range]
    by_cases e : L - 1 - k = j
    · rw [if_pos e, if_neg (by omega), show L - 1 - j = k by omega]
    · rw [if_neg e]
      by_cases h : j + k < L
      · rw [if_pos h, if_pos (by omega)]
      · rw [if_neg h, if_neg (by omega)]
theorem putSt_map_set (L : Nat) (n : Int) {k : Nat} (hk : k < L) : ((putSt L n k).map (Value.int .u8)).set (L - 1 - k) (.int .u8 (n / 256 ^ k % 256)) = (putSt L n (k + 1)).map (Value.int .u8) := by
  rw [← putSt_set L n hk, List.map_set]
theorem put_div (n : Int) (k : Nat) : n / 256 ^ k / 256 = n / 256 ^ (k + 1) := by
  rw [Int.ediv_ediv_of_nonneg (by have : (0:Int) < 256 ^ k := Int.pow_pos (by decide); omega), Int.pow_succ]
theorem put_bd {n : Int} (h : 0 ≤ n ∧ n < 18446744073709551616) (k : Nat) : 0 ≤ n / 256 ^ k ∧ n / 256 ^ k < 18446744073709551616 := by
  have hp : (0 : Int) < 256 ^ k := Int.pow_pos (by decide)
  refine ⟨Int.ediv_nonneg h.1 (by omega), ?_⟩
  exact Int.lt_of_le_of_lt (Int.ediv_le_self _ h.1) h.2

def bel (L : Nat) (n : Int) : List Int := putSt L n L
theorem bel_length (L : Nat) (n : Int) : (bel L n).length = L := putSt_length L n L
theorem bel_bytes (L : Nat) (n : Int) : Bytes (bel L n) := by
  intro x hx
  unfold bel putSt at hx
  obtain ⟨j, _, rfl⟩ := List.mem_map.1 hx
  split <;> omega
theorem bel8 (n : Int) : bel 8 n = be8 n := by
  simp [bel, putSt, be8, List.range, List.range.loop]
theorem bel2 (n : Int) : bel 2 n = be2 n := by
  simp [bel, putSt, be2, List.range, List.range.loop]

set_option maxHeartbeats 1000000 in
theorem rput_any (n : Int) (L : Nat) (w : World) (hn : 0 ≤ n ∧ n < 18446744073709551616) (h1 : 1 ≤ L) (h8 : L ≤ 8) :
    Calls Try.prog 32 #[.int .u64 n, .int .i64 (L : Int)] w fun e w' => ∃ v, e = .returned v ∧ NewBytes w (bel L n) v w' := by
  obtain ⟨i0, hi, hz0, hz1, hz2⟩ := info_parts infoByte
  go_enter Try.func32, Try.ntmps32
  go_wp2_with (at_make; refine wpList_make_full _ rfl _ _ 26 rfl w.heap.size 5 i0 (.int .u8 0) 1 Try.underlying26 hi hz0 hz1 _ _ _ _ L rfl rfl rfl rfl (by rw [hz2]; omega) (by unfold maxLen; omega) (Nat.le_refl _) ?_)
  intro w2 ho hgr
  have HGR : Hid (Grow w w2) := ⟨hgr.os, hgr.tape, hgr.output, hgr.size, fun q hq => hgr.block q hq (by simp)⟩
  have HO : Hid (w2.ownsRow w.heap.size 5 1 (.slice (some ⟨w.heap.size, 0, none⟩) L L) L ((putSt L n 0).map (Value.int .u8))) := by
    have e : (madeCells #[Value.int .u8 0] L).toList = (putSt L n 0).map (Value.int .u8) := by
      rw [putSt_zero, List.map_replicate]
      exact toList_madeCells_one _ _
    show World.ownsRow _ _ _ _ _ _ _
    rw [← e]; exact ho
  clear ho hgr
  generalize hB : w.heap.size = B at *
  go_wp2_with fail
  go_loopw [0, 6] (fun u i wr => ∃ k : Nat, k ≤ L ∧ u = .int .u64 (n / 256 ^ k) ∧ i = .int .i64 ((L : Int) - 1 - k) ∧ wr.ownsRow B 5 1 (.slice (some ⟨B, 0, none⟩) L L) L ((putSt L n k).map (Value.int .u8)) ∧ Grow w wr)
    (fun _ i _ => (intOf i + 1).toNat)
  case atStart => exact ⟨0, by omega, by simp, by simp, HO.out, HGR.out⟩
  case round =>
    obtain ⟨k, hk, rfl, rfl, hown, hg⟩ := hrel
    by_cases hlt : k < L
    · have hk1 : (k : Int) < (L : Int) := by omega
      obtain ⟨j, hj⟩ : ∃ j : Nat, (L : Int) - 1 - k = j := ⟨L - 1 - k, by omega⟩
      have hj2 : L - 1 - k = j := by omega
      have hjL : j < L := by omega
      obtain ⟨x, hx⟩ : ∃ x, n / 256 ^ k = x := ⟨_, rfl⟩
      have hxb := put_bd hn k
      have hd := put_div n k
      have hset := putSt_map_set L n hlt
      rw [hx] at hxb hd hset
      rw [hj2] at hset
      rw [hj, hx]
      have hcell := hown.cellAt j (by omega)
      rw [List.getElem?_map] at hcell
      obtain ⟨y, hy⟩ : ∃ y, (putSt L n k)[j]? = some y := ⟨_, List.getElem?_eq_getElem (by rw [putSt_length]; omega)⟩
      rw [hy] at hcell
      simp only [Option.map_some] at hcell
      have hfz := hown.frozenAt j
      have hst := hown.stored j (.int .u8 (x % 256))
      rw [hset] at hst
      have HR : Hid ((wr.setCell ⟨B, j, none⟩ (.int .u8 (x % 256))).ownsRow B 5 1 (.slice (some ⟨B, 0, none⟩) L L) L ((putSt L n (k + 1)).map (Value.int .u8)) ∧ Grow w (wr.setCell ⟨B, j, none⟩ (.int .u8 (x % 256)))) :=
        ⟨hst.1, Below.setCell (p := ⟨B, j, none⟩) hg (by rw [hB]; exact Nat.le_refl _) _⟩
      have HD := Lib.hid hd
      have HJ := Lib.hid hj
      clear hst hset hown hg hd hx hy hj2 hj hn HO HGR
      go_wp2_with fail
      go_roundw
      case rel => exact ⟨k + 1, by omega, congrArg (Value.int .u64) HD.out, by have := HJ.out; (congr 1; omega), HR.out.1, HR.out.2⟩
      case measure => have := HJ.out; simp [intOf] <;> omega
    · have hkL : k = L := by omega
      subst hkL
      have e : (k : Int) - 1 - k = -1 := by omega
      rw [e]
      have H := Lib.hid (And.intro hown hg)
      clear hown hg e
      go_wp2_with fail
      go_ret
      exact ⟨_, rfl, by rw [bel_length, hB]; have := H.out.1; exact this, H.out.2⟩
end Go.Proofs.Ytiphhjipgjpepaa
