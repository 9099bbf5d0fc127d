/- The contracts of New and Read. -/
import Derived.Test.YtajmfgadbphjbaaStOps2
import Derived.Test.YtajmfgadbphjbaaAppend
set_option linter.unusedVariables false
namespace Go.Proofs.Ytajmfgadbphjbaa
open Go.RowKit

/-- A new store. -/
def St.fresh (n : Nat) : St := ⟨List.replicate n (0, false), -1, 0, false, false⟩

def SomeNew (w : World) (n : Nat) (e : Ending) (w' : World) : Prop :=
  ∃ P g : Nat, e = .returned (.tuple #[.pointer (some ⟨P, 0, none⟩), .int .i64 0]) ∧ StoreV w' P g (St.fresh n) ∧ Grow w w' ∧ w.heap.size ≤ P ∧ w.heap.size ≤ g

theorem infoCell : (Try.prog.info? 60).map (fun i => (i.zero, i.size, i.bytes)) = some (some (.agg #[.int .u8 0, .bool false]), 2, 2) := by kernel_rfl

theorem made_cells (n : Nat) : (madeCells #[.int .u8 0, .bool false] (n * 2)).toList = cellVals (List.replicate n (0, false)) := by
  refine List.ext_getElem? fun i => ?_
  have hlen : (cellVals (List.replicate n ((0 : Int), false))).length = 2 * n := by rw [cellVals_length]; simp
  by_cases hi : i < n * 2
  · have h1 : (madeCells #[.int .u8 0, .bool false] (n * 2)).toList[i]? = some ((#[Value.int .u8 0, .bool false])[i % 2]!) := by
      simp [madeCells, hi]
    rw [h1]
    have hk : i / 2 < (List.replicate n ((0 : Int), false)).length := by simp; omega
    obtain ⟨h2, h3⟩ := cellVals_get _ (i / 2) hk
    rcases Nat.mod_two_eq_zero_or_one i with h | h
    · rw [show 2 * (i / 2) = i from by omega] at h2
      rw [h2, h]
      simp only [List.length_replicate] at hk
      simp [hk]
    · rw [show 2 * (i / 2) + 1 = i from by omega] at h3
      rw [h3, h]
      simp only [List.length_replicate] at hk
      simp [hk]
  · rw [List.getElem?_eq_none (by simp [madeCells]; omega), List.getElem?_eq_none (by omega)]

theorem new_any (n : Nat) (w : World) (h1 : 1 ≤ n) (h2 : n ≤ 4096) : Calls Try.prog 12 #[.int .i64 n] w (SomeNew w n) := by
  obtain ⟨i0, hi, hz0, hz1, hz2⟩ := info_parts infoCell
  go_enter Try.func12, Try.ntmps12
  go_wp2_with (at_make; refine wpList_make_full _ rfl _ _ 58 rfl w.heap.size 60 i0 (.agg #[.int .u8 0, .bool false]) 2 Try.underlying58 hi hz0 hz1 _ _ _ _ n rfl rfl rfl rfl (by rw [hz2]; omega) (by unfold maxLen; omega) (Nat.le_refl _) ?_)
  intro w1 ho hgr
  have hg1 : Grow w w1 := ⟨hgr.os, hgr.tape, hgr.output, hgr.size, fun q hq => hgr.block q hq (by simp)⟩
  have hbody : w1.heap[w.heap.size]? = some (.cells (cellVals (List.replicate n (0, false))).toArray 60 (0, 0)) := by
    rcases ho.2 with ⟨h', _⟩ | ⟨g', cap', cur, h', _, hg, _, _, hcs, htake⟩
    · simp at h'
    · simp only [Value.slice.injEq, Option.some.injEq, Addr.mk.injEq, and_true, true_and] at h'
      obtain ⟨rfl, rfl⟩ := h'
      rw [hg]
      have : cur = (cellVals (List.replicate n (0, false))).toArray := by
        apply Array.ext'
        rw [← made_cells, ← htake, List.take_of_length_le (by rw [Array.length_toList]; omega)]
      rw [this]
  have HB := Lib.hid hbody
  have HG := Lib.hid hg1
  clear ho hgr hbody hg1
  go_wp2
  go_ret2
  refine ⟨w1.heap.size, w.heap.size, rfl, ⟨⟨n, by simp [St.fresh], by unfold maxLen; omega, ?_⟩, ⟨[], ?_⟩, ?_, ?_, ?_, ?_, ?_, ?_⟩, HG.out.alloc _, HG.out.size, Nat.le_refl _⟩
  · have := heap_alloc_new w1 (.cells #[.slice (some ⟨w.heap.size, 0, none⟩) n n, .int .i64 (-1), .int .u8 0, .bool false, .bool false] 62)
    simpa [St.fresh, headVals] using this
  · rw [List.append_nil]; exact (Below.heap_alloc _ _ _ (lt_of_block HB.out)).trans HB.out
  · have := lt_of_block HB.out; omega
  · simp [St.fresh]; omega
  · simp [St.fresh]; omega
  · simp [St.fresh]
  · intro c hc; simp [St.fresh] at hc; rw [hc.2]; decide
  · simp [St.fresh]

theorem new_bad (n : Int) (w : World) (h : n < 1 ∨ 4096 < n) : Calls Try.prog 12 #[.int .i64 n] w fun e w' => e = .returned (.tuple #[.pointer none, .int .i64 2]) ∧ w = w' := by
  by_cases h1 : n < 1
  · go_enter Try.func12, Try.ntmps12
    go_wp2
    go_ret2
    exact ⟨rfl, rfl⟩
  · have h2 : 4096 < n := by omega
    go_enter Try.func12, Try.ntmps12
    go_wp2
    go_ret2
    exact ⟨rfl, rfl⟩
end Go.Proofs.Ytajmfgadbphjbaa
