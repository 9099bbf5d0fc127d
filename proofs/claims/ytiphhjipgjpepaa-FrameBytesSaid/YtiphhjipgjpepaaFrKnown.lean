/- num, Head; the chapter's rows. -/
import Derived.Test.YtiphhjipgjpepaaFrOf3
set_option linter.unusedVariables false
set_option linter.unusedSimpArgs false
namespace Go.Proofs.Ytiphhjipgjpepaa
open Go.RowKit

theorem num_any (n : Int) (w : World) : Calls Try.prog 13 #[.int .i64 n] w fun e w' => e = .returned (.int .i64 n) ∧ w = w' := by
  go_enter Try.func13, Try.ntmps13
  go_wp2_with fail
  go_ret
  exact ⟨rfl, rfl⟩
theorem head_any (w : World) : Calls Try.prog 23 #[] w fun e w' => e = .returned (.int .i64 54) ∧ w = w' := by
  go_enter Try.func23, Try.ntmps23
  go_wp2_with fail
  go_ret
  exact ⟨rfl, rfl⟩

def kF1 : Fr := ⟨1, 2, 1, 1, 0, 0, 0, 0, .slice none 0 0, []⟩
def kF2 (s : Int) (v : Value) : Fr := ⟨2, 2, 1, 1, 1, 1, s, 0, v, [10, 0, 0, 0, 8, 5]⟩
def z54 : List Int := List.replicate 54 0
def z54c : Array Value := (List.replicate 54 (Value.int .u8 0)).toArray
theorem k1 : mayF kF1 = true := by decide +kernel
theorem k2 : (frB kF1).length = 54 ∧ (frB kF1).getD 0 0 = 1 ∧ (frB kF1).getD 1 0 = 2 ∧ (frB kF1).getD 9 0 = 1 ∧ (frB kF1).getD 17 0 = 1 ∧ (frB kF1).getD 51 0 = 0 := by decide +kernel
theorem k3 : ¬ okF z54 := by decide +kernel
theorem k4 (v : Value) : mayF (kF2 0 v) = false := by
  have : mayF (kF2 0 (.slice none 0 0)) = false := by decide +kernel
  exact this
theorem k5 (v : Value) : mayF (kF2 1 v) = true := by
  have : mayF (kF2 1 (.slice none 0 0)) = true := by decide +kernel
  exact this
theorem kF2_ok {w : World} {v : Value} {s : Int} (hs : 0 ≤ s ∧ s ≤ 1) (hv : BytesV w v [10, 0, 0, 0, 8, 5]) : FrOk w (kF2 s v) := by
  refine ⟨⟨?_, ?_⟩, ⟨?_, ?_⟩, ⟨?_, ?_⟩, ⟨?_, ?_⟩, ⟨?_, ?_⟩, ⟨?_, ?_⟩, ⟨?_, ?_⟩, ⟨?_, ?_⟩, hv⟩
  all_goals (simp only [kF2]; omega)
theorem kF1_ok (w : World) : FrOk w kF1 := by
  refine ⟨⟨?_, ?_⟩, ⟨?_, ?_⟩, ⟨?_, ?_⟩, ⟨?_, ?_⟩, ⟨?_, ?_⟩, ⟨?_, ?_⟩, ⟨?_, ?_⟩, ⟨?_, ?_⟩, Bytes.nil, Or.inl ⟨rfl, none, 0, rfl, Nat.zero_le _, fun _ => rfl⟩⟩
  all_goals (simp only [kF1]; omega)
theorem z54_new (w : World) : BytesV (w.alloc (.cells z54c 5)) (.slice (some ⟨w.heap.size, 0, none⟩) 54 54) z54 :=
  bytes_new (w := w) (List.replicate 54 (Value.int .u8 0)) z54 5 (by simp [z54]) (fun x hx => by rw [List.eq_of_mem_replicate hx]; omega) (by simp [z54, maxLen])

set_option maxRecDepth 20000 in
set_option maxHeartbeats 4000000 in
theorem known_any (w : World) : Calls Try.prog 8 #[] w fun e w' => e = .returned (.bool true) ∧ Grow w w' := by
  have hmk : ∀ W : World, (Instr.makeSlice 26 (.int .i64 54) (.int .i64 54)).run Try.prog W = .ok (.slice (some ⟨W.heap.size, 0, none⟩) 54 54) (W.alloc (.cells z54c 5)) := fun _ => by kernel_rfl
  have HB : Hid (Calls Try.prog 9 #[.agg #[.int .i64 1, .int .i64 2, .int .u64 1, .int .u64 1, .int .u64 0, .int .u64 0, .int .u64 0, .int .u64 0, .slice none 0 0]] w fun e w' => ∃ b off cap, e = .returned (.tuple #[.slice (some ⟨b, off, none⟩) 54 cap, .int .i64 0]) ∧ (w'.cell? ⟨b, off, none⟩ = some (.int .u8 1) ∧ w'.cell? ⟨b, off + 1, none⟩ = some (.int .u8 2) ∧ w'.cell? ⟨b, off + 9, none⟩ = some (.int .u8 1) ∧ w'.cell? ⟨b, off + 17, none⟩ = some (.int .u8 1) ∧ w'.cell? ⟨b, off + 51, none⟩ = some (.int .u8 0)) ∧ Grow w w') := by
    refine (fBytes_any kF1 w (kF1_ok w) (by decide)).mono ?_
    rintro e w' h
    rcases h with ⟨_, u, rfl, hn⟩ | ⟨h, _⟩
    · obtain ⟨q1, q2, q3, q4, q5, q6⟩ := k2
      have hi := ints_of_owns hn.1
      obtain ⟨b, off, cap, rfl, _, _⟩ := hi.solid (fun e => by rw [e] at q1; simp at q1)
      have hc := hi.cells
      rw [q1] at hc ⊢
      refine ⟨b, off, cap, rfl, ⟨?_, ?_, ?_, ?_, ?_⟩, hn.2⟩
      · have := hc 0 (by omega); rwa [q2] at this
      · have := hc 1 (by omega); rwa [q3] at this
      · have := hc 9 (by omega); rwa [q4] at this
      · have := hc 17 (by omega); rwa [q5] at this
      · have := hc 51 (by omega); rwa [q6] at this
    · rw [k1] at h; cases h
  have HOf : Hid (∀ x v, BytesV x v z54 → Calls Try.prog 14 #[v] x fun e w' => e = .returned (.tuple #[.agg #[.int .i64 0, .int .i64 0, .int .u64 0, .int .u64 0, .int .u64 0, .int .u64 0, .int .u64 0, .int .u64 0, .slice none 0 0], .int .i64 4]) ∧ Grow x w') := fun x v hv => by
    refine (of_any v z54 x hv (by decide)).mono ?_
    rintro e w' h
    rcases h with ⟨h, _⟩ | ⟨_, rfl, hg⟩
    · exact absurd h k3
    · exact ⟨rfl, hg⟩
  have HM0 : Hid (∀ x v, BytesV x v [10, 0, 0, 0, 8, 5] → Calls Try.prog 10 #[.agg #[.int .i64 2, .int .i64 2, .int .u64 1, .int .u64 1, .int .u64 1, .int .u64 1, .int .u64 0, .int .u64 0, v]] x fun e w' => e = .returned (.bool false) ∧ Grow x w') := fun x v hv => by
    have := may_any (kF2 0 v) x (kF2_ok (by omega) hv)
    rwa [k4] at this
  have HM1 : Hid (∀ x v, BytesV x v [10, 0, 0, 0, 8, 5] → Calls Try.prog 10 #[.agg #[.int .i64 2, .int .i64 2, .int .u64 1, .int .u64 1, .int .u64 1, .int .u64 1, .int .u64 1, .int .u64 0, v]] x fun e w' => e = .returned (.bool true) ∧ Grow x w') := fun x v hv => by
    have := may_any (kF2 1 v) x (kF2_ok (by omega) hv)
    rwa [k5] at this
  go_enter Try.func8, Try.ntmps8
  go_wp2_with fail
  refine HB.out.mono ?_
  rintro e w1 ⟨b, off, cap, rfl, hcs, hg⟩
  have HCS := Lib.hid hcs
  have HG1 := Lib.hid hg
  clear hcs hg
  go_wp2_with fail
  refine (HOf.out _ _ (z54_new w1)).mono ?_
  rintro e w2 ⟨rfl, hg⟩
  have HG2 : Hid (Grow w1 w2) := ((Grow.refl w1).alloc _).trans hg
  clear hg hmk
  obtain ⟨w3, hw3⟩ : ∃ x, ((w2.alloc (.cells #[.int .i64 0, .int .i64 0, .int .u64 0, .int .u64 0, .int .u64 0, .int .u64 0, .int .u64 0, .int .u64 0, .slice none 0 0] 28)).alloc (.cells #[.int .u8 10, .int .u8 0, .int .u8 0, .int .u8 0, .int .u8 8, .int .u8 5] 5)).alloc (.cells #[.int .i64 2, .int .i64 2, .int .u64 1, .int .u64 1, .int .u64 1, .int .u64 1, .int .u64 0, .int .u64 0, .slice (some ⟨w2.heap.size + 1, 0, none⟩) 6 6] 28) = x := ⟨_, rfl⟩
  have HG3 : Hid (Grow w2 w3) := by rw [← hw3]; exact (((Grow.refl w2).alloc _).alloc _).alloc _
  have HBy : Hid (BytesV w3 (.slice (some ⟨w2.heap.size + 1, 0, none⟩) 6 6) [10, 0, 0, 0, 8, 5]) := by
    rw [← hw3]
    have := bytes_new (w := w2.alloc (.cells #[.int .i64 0, .int .i64 0, .int .u64 0, .int .u64 0, .int .u64 0, .int .u64 0, .int .u64 0, .int .u64 0, .slice none 0 0] 28)) [.int .u8 10, .int .u8 0, .int .u8 0, .int .u8 0, .int .u8 8, .int .u8 5] [10, 0, 0, 0, 8, 5] 5 rfl (by unfold Bytes; decide) (by simp [maxLen])
    rw [World.size_alloc] at this
    exact this.mono ((Grow.refl _).alloc _)
  have HC3 : Hid (w3.heap[w2.heap.size + 1 + 1]? = some (.cells #[.int .i64 2, .int .i64 2, .int .u64 1, .int .u64 1, .int .u64 1, .int .u64 1, .int .u64 0, .int .u64 0, .slice (some ⟨w2.heap.size + 1, 0, none⟩) 6 6] 28 (0, 0))) := by
    rw [← hw3]
    have := heap_alloc_new ((w2.alloc (.cells #[.int .i64 0, .int .i64 0, .int .u64 0, .int .u64 0, .int .u64 0, .int .u64 0, .int .u64 0, .int .u64 0, .slice none 0 0] 28)).alloc (.cells #[.int .u8 10, .int .u8 0, .int .u8 0, .int .u8 0, .int .u8 8, .int .u8 5] 5)) (.cells #[.int .i64 2, .int .i64 2, .int .u64 1, .int .u64 1, .int .u64 1, .int .u64 1, .int .u64 0, .int .u64 0, .slice (some ⟨w2.heap.size + 1, 0, none⟩) 6 6] 28)
    rwa [World.size_alloc, World.size_alloc] at this
  have HX := Lib.hid hw3
  clear hw3
  go_wp2_with fail
  rw [HX.out]
  refine (num_any _ _).mono ?_
  rintro e w' ⟨rfl, rfl⟩
  have hg3 : Grow w1 w3 := HG2.out.trans HG3.out
  obtain ⟨⟨a0, a1, a2, a3, a4⟩, a5, a6, a7, a8⟩ := blkF HC3.out
  obtain ⟨q1, q2, q3, q4, q5⟩ := HCS.out
  have d1 := (hg3.cell (block_lt q1)).trans q1
  have d2 := (hg3.cell (block_lt q2)).trans q2
  have d3 := (hg3.cell (block_lt q3)).trans q3
  have d4 := (hg3.cell (block_lt q4)).trans q4
  have d5 := (hg3.cell (block_lt q5)).trans q5
  have HG13 := Lib.hid hg3
  clear q1 q2 q3 q4 q5 hg3 HX
  go_wp2_with fail
  refine (num_any _ _).mono ?_
  rintro e w' ⟨rfl, rfl⟩
  go_wp2_with fail
  refine (HM0.out _ _ HBy.out).mono ?_
  rintro e w4 ⟨rfl, hg⟩
  have hc4 := (hg.block _ (lt_of_block HC3.out)).trans HC3.out
  have HC4 := Lib.hid hc4
  have HG4 := Lib.hid (HG1.out.trans (HG13.out.trans hg))
  have HBy4 := Lib.hid (HBy.out.mono hg)
  have HLT : Hid (w.heap.size ≤ w2.heap.size + 1 + 1) := by have := HG1.out.size; have := HG2.out.size; show _ ≤ _; omega
  obtain ⟨⟨b0, b1, b2, b3, b4⟩, b5, b6, b7, b8⟩ := blkF hc4
  obtain ⟨⟨f0, f1, f2, f3, f4⟩, f5, f6, f7, f8⟩ := blkFz hc4
  have HBy5 : Hid (BytesV (w4.setCell ⟨w2.heap.size + 1 + 1, 6, none⟩ (.int .u64 1)) (.slice (some ⟨w2.heap.size + 1, 0, none⟩) 6 6) [10, 0, 0, 0, 8, 5]) := by
    refine ⟨HBy4.out.1, Or.inr ⟨w2.heap.size + 1, 0, 6, rfl, Nat.le_refl _, by unfold maxLen; omega, fun i hi => ?_⟩⟩
    have := HBy4.out.2.cells i hi
    rw [← this]
    unfold World.cell?
    rw [Below.heap_setCell _ _ _ _ (show w2.heap.size + 1 ≠ w2.heap.size + 1 + 1 by omega)]
  clear hg hc4 a0 a1 a2 a3 a4 a5 a6 a7 a8 d1 d2 d3 d4 d5
  go_wp2_with fail
  refine (HM1.out _ _ HBy5.out).mono ?_
  rintro e w5 ⟨rfl, hg⟩
  have HG5 : Hid (Grow w w5) := Grow.trans (Below.setCell HG4.out HLT.out _) hg
  clear hg
  go_wp2_with fail
  refine (head_any _).mono ?_
  rintro e w' ⟨rfl, rfl⟩
  go_wp2_with fail
  go_ret
  exact ⟨rfl, HG5.out⟩
end Go.Proofs.Ytiphhjipgjpepaa
