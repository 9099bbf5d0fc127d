/- The reference: words, sums, checksums of bytes. -/
import Derived.Test.YtiphhjipgjpepaaFrSumAdd
import Derived.Test.YtiphhjipgjpepaaSumReads
import Derived.LoopTactic
set_option linter.unusedVariables false
namespace Go.Proofs.Ytiphhjipgjpepaa
open Go.RowKit

/-- The j-th word of bytes. -/
def wordAt (zs : List Int) (j : Nat) : Int := 256 * zs.getD (2 * j) 0 + zs.getD (2 * j + 1) 0
def wordsTo (zs : List Int) (k : Nat) : List Int := (List.range k).map (wordAt zs)
theorem wordsTo_succ (zs : List Int) (k : Nat) : wordsTo zs (k + 1) = wordsTo zs k ++ [wordAt zs k] := by
  simp [wordsTo, List.range_succ]
theorem wordsTo_length (zs : List Int) (k : Nat) : (wordsTo zs k).length = k := by simp [wordsTo]
theorem wordAt_bd {zs : List Int} (h : Bytes zs) (j : Nat) : 0 ≤ wordAt zs j ∧ wordAt zs j < 65536 := by
  have h1 := h.getD (2 * j); have h2 := h.getD (2 * j + 1)
  unfold wordAt; omega

theorem bsum_snoc2 : ∀ (l : List Int) (a b : Int), l.length % 2 = 0 → bsum (l ++ [a, b]) = bsum l + (256 * a + b) := fun l a b h => by
  rw [bsum_append l _ h]; simp [bsum]
theorem bsum_snoc1 : ∀ (l : List Int) (a : Int), l.length % 2 = 0 → bsum (l ++ [a]) = bsum l + 256 * a := fun l a h => by
  rw [bsum_append l _ h]; simp [bsum]

theorem bsum_take (zs : List Int) (k : Nat) (h : 2 * k < zs.length) : bsum (zs.take (2 * (k + 1))) = bsum (zs.take (2 * k)) + wordAt zs k := by
  have he : (zs.take (2 * k)).length % 2 = 0 := by simp; omega
  have e1 : zs.take (2 * k + 1) = zs.take (2 * k) ++ [zs.getD (2 * k) 0] := by
    rw [List.take_succ_eq_append_getElem h]; simp [h]
  rw [show 2 * (k + 1) = 2 * k + 1 + 1 from by omega]
  by_cases h2 : 2 * k + 1 < zs.length
  · have e2 : zs.take (2 * k + 1 + 1) = zs.take (2 * k + 1) ++ [zs.getD (2 * k + 1) 0] := by
      rw [List.take_succ_eq_append_getElem h2]; simp [h2]
    rw [e2, e1, List.append_assoc]
    exact bsum_snoc2 _ _ _ he
  · have e2 : zs.take (2 * k + 1 + 1) = zs.take (2 * k + 1) := by rw [List.take_of_length_le (by omega), List.take_of_length_le (by omega)]
    have e3 : zs.getD (2 * k + 1) 0 = 0 := by simp [Nat.le_of_not_lt h2]
    rw [e2, e1, bsum_snoc1 _ _ he, wordAt, e3]; omega

/-- The sum reckoned word by word. -/
theorem nrm_take {zs : List Int} (hb : Bytes zs) (k : Nat) (h : 2 * k < zs.length) : addc (nrm (bsum (zs.take (2 * k)))) (wordAt zs k) = nrm (bsum (zs.take (2 * (k + 1)))) := by
  have := wordAt_bd hb k
  rw [bsum_take zs k h, addc_nrm' (bsum_nonneg (hb.take _)) this.1 this.2]

theorem infoU16 : (Try.prog.info? 42).map (fun i => (i.zero, i.size, i.bytes)) = some (some (.int .u16 0), 1, 2) := by kernel_rfl

/-- One word more. -/
theorem words_next {zs : List Int} {k : Nat} {w wr w1 : World} {v v' : Value} {x : Int} {o : Obj}
    (hown' : w1.ownsRow w.heap.size 42 1 v' ((wordsTo zs k).length + 1) ((wordsTo zs k).map (Value.int .u16) ++ [.int .u16 x])) (hgrow : (wr.alloc o).grownBy w1 v.ownBlock) (hg : Grow w wr)
    (hown : wr.ownsRow w.heap.size 42 1 v (wordsTo zs k).length ((wordsTo zs k).map (Value.int .u16))) (hx : wordAt zs k = x) :
    w1.ownsRow w.heap.size 42 1 v' (wordsTo zs (k + 1)).length ((wordsTo zs (k + 1)).map (Value.int .u16)) ∧ Grow w w1 := by
  subst hx
  refine ⟨?_, ?_⟩
  · rw [wordsTo_succ, List.map_append, List.length_append]
    exact hown'
  · exact Below.grown (hg.alloc o) hgrow (by have := hg.size; simp; omega) (fun j hj => (hown.lt j hj).1)

set_option maxHeartbeats 400000 in
theorem words_some (b off cap : Nat) (zs : List Int) (w : World) (hb : Bytes zs) (hc : ∀ i, i < zs.length → w.cell? ⟨b, off + i, none⟩ = some (.int .u8 (zs.getD i 0))) (hl : zs.length ≤ cap) (hm : cap ≤ maxLen) (hz : zs.length ≤ 20000) :
    Calls Try.prog 48 #[.slice (some ⟨b, off, none⟩) zs.length cap] w fun e w' => ∃ v, e = .returned v ∧ IntsV .u16 w' v (wordsTo zs ((zs.length + 1) / 2)) ∧ Grow w w' := by
  obtain ⟨i0, hi, hz0, hz1, hz2⟩ := info_parts infoU16
  unfold maxLen at hm
  have HC := Lib.hid hc
  clear hc
  go_enter Try.func48, Try.ntmps48
  go_wp2
  go_loopw [3, 4, 5] (fun v i lo wr => ∃ k : Nat, 2 * k ≤ zs.length + 1 ∧ i = .int .i64 (2 * k : Nat) ∧ wr.ownsRow w.heap.size 42 1 v (wordsTo zs k).length ((wordsTo zs k).map (Value.int .u16)) ∧ Grow w wr)
    (fun _ i _ _ => zs.length + 1 - (intOf i).toNat)
  case atStart => exact ⟨0, by omega, rfl, World.ownsRow_nil _ _ _ _, Grow.refl _⟩
  case round =>
    obtain ⟨k, hk, rfl, hown, hg⟩ := hrel
    by_cases hlt : 2 * k < zs.length
    · have hx := HC.out (2 * k) hlt
      have hx' := (hg.cell (block_lt hx)).trans hx
      have hxb := hb.getD (2 * k)
      clear hx
      by_cases hlt2 : 2 * k + 1 < zs.length
      · have hy := HC.out (2 * k + 1) hlt2
        have hy' := (hg.cell (block_lt hy)).trans hy
        have hyb := hb.getD (2 * k + 1)
        have HW : Hid (wordAt zs k = 256 * zs.getD (2 * k) 0 + zs.getD (2 * k + 1) 0) := rfl
        clear hy
        generalize zs.getD (2 * k) 0 = x at *
        generalize zs.getD (2 * k + 1) 0 = y at *
        go_wp2_with (at_builtin; refine wpList_append_own _ rfl _ _ 80 rfl w.heap.size 42 i0 (.int .u16 0) 1 2 Try.underlying80 hi hz0 hz1 hz2 rfl (by decide) _ _ _ rfl (hown.alloc _) ⟨wr.heap.size, 0, none⟩ 1 1 [.int .u16 (256 * x + y)] rfl rfl ?c1 ?c2 ?c3 ?c4 ?c5 ?_)
        case c1 =>
          intro j u hj
          match j, hj with
          | 0, hj => simp at hj; subst hj; simp [Addr.add]
        case c2 => intro u hu; simp at hu; subst hu; rfl
        case c3 => rw [wordsTo_length]; unfold maxLen; omega
        case c4 => rw [wordsTo_length]; omega
        case c5 => have := hg.size; simp; omega
        · intro v' w1 hown' hgrow _
          have R := words_next hown' hgrow hg hown HW.out
          clear hown' hgrow hown hg
          have HR := Lib.hid R
          clear R
          go_wp2
          go_roundw
          case rel => exact ⟨k + 1, by omega, by go_num, HR.out.1, HR.out.2⟩
          case measure => simp [intOf]; omega
      · have HW : Hid (wordAt zs k = 256 * zs.getD (2 * k) 0) := by
          have e3 : zs.getD (2 * k + 1) 0 = 0 := by simp [Nat.le_of_not_lt hlt2]
          show 256 * zs.getD (2 * k) 0 + zs.getD (2 * k + 1) 0 = _
          rw [e3]; omega
        generalize zs.getD (2 * k) 0 = x at *
        go_wp2_with (at_builtin; refine wpList_append_own _ rfl _ _ 80 rfl w.heap.size 42 i0 (.int .u16 0) 1 2 Try.underlying80 hi hz0 hz1 hz2 rfl (by decide) _ _ _ rfl (hown.alloc _) ⟨wr.heap.size, 0, none⟩ 1 1 [.int .u16 (256 * x)] rfl rfl ?c1 ?c2 ?c3 ?c4 ?c5 ?_)
        case c1 =>
          intro j u hj
          match j, hj with
          | 0, hj => simp at hj; subst hj; simp [Addr.add]
        case c2 => intro u hu; simp at hu; subst hu; rfl
        case c3 => rw [wordsTo_length]; unfold maxLen; omega
        case c4 => rw [wordsTo_length]; omega
        case c5 => have := hg.size; simp; omega
        · intro v' w1 hown' hgrow _
          have R := words_next hown' hgrow hg hown HW.out
          clear hown' hgrow hown hg
          have HR := Lib.hid R
          clear R
          go_wp2
          go_roundw
          case rel => exact ⟨k + 1, by omega, by go_num, HR.out.1, HR.out.2⟩
          case measure => simp [intOf]; omega
    · have hkk : k = (zs.length + 1) / 2 := by omega
      have hv := ints_of_owns hown
      rw [hkk] at hv
      have HV := Lib.hid hv
      obtain ⟨ao, c, rfl, _, _⟩ := hv.shape
      clear hv hown hkk
      go_wp2
      go_ret
      exact ⟨_, rfl, HV.out, hg⟩
end Go.Proofs.Ytiphhjipgjpepaa
