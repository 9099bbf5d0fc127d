/- The document's store: its Read, and how it is made. -/
import Derived.Test.YtajmfgadbphjbaaStRef2
import Derived.Test.YtajmfgadbphjbaaStSplice
import Derived.Laws.MakeOwn
set_option linter.unusedVariables false
namespace Go.Proofs.Ytajmfgadbphjbaa
open Go.RowKit

theorem rread_bad {w : World} {R : RAt} {st : St} (h : RefV w R st) (a n : Int) (ha : -9223372036854775808 ≤ a ∧ a ≤ 9223372036854775807) (hn : -9223372036854775808 ≤ n ∧ n ≤ 9223372036854775807) (hw : wrongOf st a n ≠ 0) :
    Calls Try.prog 38 #[.pointer (some ⟨R.p, 0, none⟩), .int .i64 a, .int .i64 n] w fun e w' => e = .returned (.tuple #[.slice none 0 0, .int .i64 (wrongOf st a n)]) ∧ w = w' := by
  by_cases hi : insideOf st a n
  · have HW := Lib.hid (within_yes h a n hi)
    have hd : st.dead = true := by
      rw [inside_yes hi] at hw
      cases hdd : st.dead
      · rw [hdd] at hw; exact absurd rfl hw
      · rfl
    have HR : Hid (wrongOf st a n = 7) := by show wrongOf st a n = 7; rw [inside_yes hi, hd]; rfl
    obtain ⟨cb, cu, ⟨hcb, hcu⟩, c0, c1, c2, c3, c4, c5, hf⟩ := h.cellsP
    rw [hd] at c5
    clear hf c0 c1 c2 c3 c4 h hw hi hd hcb hcu
    go_enter Try.func38, Try.ntmps38
    go_wp2_with (go_at_call 39; refine HW.out.mono ?_; rintro e w' ⟨rfl, rfl⟩)
    go_ret2
    exact ⟨congrArg (fun x => Ending.returned (.tuple #[.slice none 0 0, .int .i64 x])) HR.out.symm, rfl⟩
  · have HW := Lib.hid (within_no h a n hi ha hn)
    have HR : Hid (wrongOf st a n = 2) := inside_no hi
    clear h hw hi
    go_enter Try.func38, Try.ntmps38
    go_wp2_with (go_at_call 39; refine HW.out.mono ?_; rintro e w' ⟨rfl, rfl⟩)
    go_ret2
    exact ⟨congrArg (fun x => Ending.returned (.tuple #[.slice none 0 0, .int .i64 x])) HR.out.symm, rfl⟩

def SomeRRead (st : St) (k m : Nat) (w : World) (e : Ending) (w' : World) : Prop :=
  ∃ v err, e = .returned (.tuple #[v, .int .i64 err]) ∧ readRes st k m v err w' ∧ w = w'

theorem RefV.bytesAt {w : World} {R : RAt} {st : St} (h : RefV w R st) (k m cap : Nat) (hk : k + m ≤ st.cells.length) (hc : st.cells.length ≤ cap) (hm : cap ≤ 9223372036854775807) :
    BytesV w (.slice (if cap = k then some ⟨R.b, 0, none⟩ else some ⟨R.b, k, none⟩) m (cap - k)) ((part st k m).map (·.1)) := by
  have hl : ((part st k m).map (·.1)).length = m := by rw [List.length_map, part_length hk]
  refine ⟨fun z hz => ?_, ?_⟩
  · obtain ⟨c, hc, rfl⟩ := List.mem_map.1 hz
    exact h.byte c (List.mem_of_mem_drop (List.mem_of_mem_take hc))
  · by_cases h0 : m = 0
    · subst h0
      refine Or.inl ⟨by simpa using hl, _, _, rfl, by unfold maxLen; omega, fun hh => ?_⟩
      split at hh <;> cases hh
    · rw [if_neg (by omega)]
      refine Or.inr ⟨R.b, k, cap - k, by rw [hl], by rw [hl]; omega, by unfold maxLen; omega, fun i hi => ?_⟩
      rw [hl] at hi
      rw [(h.cellsR (k + i) (by omega)).1]
      have := part_getD (st := st) (k := k) (m := m) (i := i) hk hi
      have e : ((part st k m).map (·.1)).getD i 0 = ((part st k m).getD i (0, false)).1 := by
        have hl2 : i < (part st k m).length := by rw [part_length hk]; exact hi
        simp [hl2]
      rw [e, this]

set_option maxHeartbeats 400000 in
theorem rread_any {w : World} {R : RAt} {st : St} (h : RefV w R st) (k m : Nat) (hk : k + m ≤ st.cells.length) (hd : st.dead = false) :
    Calls Try.prog 38 #[.pointer (some ⟨R.p, 0, none⟩), .int .i64 k, .int .i64 m] w (SomeRRead st k m w) := by
  have hl := h.le
  have HW := Lib.hid (within_yes h k m ⟨by omega, by omega, by omega, by omega⟩)
  obtain ⟨cb, cu, ⟨hcb, hcu⟩, c0, c1, c2, c3, c4, c5, hf⟩ := h.cellsP
  rw [hd] at c5
  have HS := Lib.hid h
  have HB := Lib.hid (h.bytesAt k m cb hk hcb.1 hcb.2)
  have HK := Lib.hid hk
  clear hf c2 c3 c4 h hd
  generalize hlen : st.cells.length = n at *
  have HN := Lib.hid hlen
  clear hlen
  go_enter Try.func38, Try.ntmps38
  go_wp2_with (go_at_call 39; refine HW.out.mono ?_; rintro e w' ⟨rfl, rfl⟩)
  go_loop [8] (fun i => ∃ j : Nat, j ≤ m ∧ i = .int .i64 j ∧ Hid (((part st k m).take j).any (·.2) = false)) (fun i => m - (intOf i).toNat)
  case atStart => exact ⟨0, Nat.zero_le _, rfl, rfl⟩
  case round =>
    obtain ⟨j, hj, rfl, HU⟩ := hrel
    by_cases hlt : j < m
    · obtain ⟨g0, g1, gf0, gf1⟩ := HS.out.cellsR (k + j) (by have := HN.out; omega)
      have hlp : (part st k m).length = m := part_length (by have := HN.out; omega)
      have hpd := part_getD (st := st) (k := k) (m := m) (i := j) (by have := HN.out; omega) hlt
      clear g0 gf0 gf1
      have HX : Hid ((part st k m).getD j (0, false) = st.cells.getD (k + j) (0, false)) := hpd
      have HLP := Lib.hid hlp
      clear hpd hlp
      generalize st.cells.getD (k + j) (0, false) = c at *
      obtain ⟨x, u⟩ := c
      dsimp only at g1
      cases u
      · have HT : Hid (((part st k m).take (j + 1)).any (·.2) = false) := take_any_false (0, false) (by have := HLP.out; omega) HU.out (by rw [HX.out])
        go_wp2_with fail
        go_round
        case rel => exact ⟨j + 1, by omega, by go_num, HT.out⟩
        case measure => simp [intOf]; omega
      · go_wp2_with fail
        go_ret2
        exact ⟨_, _, rfl, by rw [readRes, if_pos (any_of_at (0, false) (i := j) (by have := HLP.out; omega) (by rw [HX.out]))]; exact ⟨rfl, rfl⟩, rfl⟩
    · have hjm : j = m := by omega
      subst hjm
      have hfull : (part st k j).take j = part st k j := List.take_of_length_le (by rw [part_length (by have := HN.out; have := HK.out; omega)]; exact Nat.le_refl _)
      rw [hfull] at HU
      clear hfull
      have hkm : k + j - k = j := by omega
      have HBB : Hid (BytesV w (.slice (if cb = k then some ⟨R.b, 0, none⟩ else some ⟨R.b, k, none⟩) j (cb - k)) ((part st k j).map (·.1))) := HB.out
      have hk' := HK.out
      go_wp2_with fail
      all_goals
        go_ret2
        refine ⟨_, _, rfl, ?_, rfl⟩
        rw [readRes, if_neg (by rw [HU.out]; decide)]
        refine ⟨rfl, ?_⟩
        first
          | exact HBB.out
          | (have := HBB.out; simp_all)

theorem made_bools (n : Nat) : (madeCells #[Value.bool false] n).toList = (List.replicate n (Value.bool false)) := by
  refine List.ext_getElem? fun i => ?_
  by_cases hi : i < n
  · simp [madeCells, hi, Nat.mod_one]
  · rw [List.getElem?_eq_none (by simp [madeCells]; omega), List.getElem?_eq_none (by simp; omega)]

def SomeRNew (w : World) (n : Nat) (e : Ending) (w' : World) : Prop :=
  ∃ R : RAt, e = .returned (.pointer (some ⟨R.p, 0, none⟩)) ∧ RefV w' R (St.fresh n) ∧ Grow w w' ∧ w.heap.size ≤ R.p ∧ w.heap.size ≤ R.b ∧ w.heap.size ≤ R.u
theorem infoBool : (Try.prog.info? 4).map (fun i => (i.zero, i.size, i.bytes)) = some (some (.bool false), 1, 1) := by kernel_rfl

theorem heap3 (w : World) (o1 o2 o3 : Obj) : (((w.alloc o1).alloc o2).alloc o3).heap[w.heap.size]? = some o1 ∧ (((w.alloc o1).alloc o2).alloc o3).heap[w.heap.size + 1]? = some o2 ∧ (((w.alloc o1).alloc o2).alloc o3).heap[w.heap.size + 1 + 1]? = some o3 := by
  refine ⟨?_, ?_, ?_⟩
  · rw [Below.heap_alloc _ _ _ (by simp; omega), Below.heap_alloc _ _ _ (by simp)]; exact heap_alloc_new w o1
  · rw [Below.heap_alloc _ _ _ (by simp)]
    have := heap_alloc_new (w.alloc o1) o2
    rwa [World.size_alloc] at this
  · have := heap_alloc_new ((w.alloc o1).alloc o2) o3
    rwa [World.size_alloc, World.size_alloc] at this

theorem ref_mem {w : World} {p b u n : Nat} (h1 : 1 ≤ n) (h2 : n ≤ 4096) (hb : w.heap[b]? = some (.cells (bVals (St.fresh n)).toArray 5 (0, 0))) (hu : w.heap[u]? = some (.cells (uVals (St.fresh n)).toArray 4 (0, 0)))
    (hp : w.heap[p]? = some (.cells #[.slice (some ⟨b, 0, none⟩) n n, .slice (some ⟨u, 0, none⟩) n n, .int .i64 (-1), .int .u8 0, .bool false, .bool false] 47 (0, 0))) (n1 : p ≠ b) (n2 : p ≠ u) (n3 : b ≠ u) : RefV w ⟨p, b, u⟩ (St.fresh n) := by
  have hl : (St.fresh n).cells.length = n := by simp [St.fresh]
  refine ⟨⟨n, n, by rw [hl]; unfold maxLen; omega, ?_⟩, ⟨[], by rw [List.append_nil]; exact hb⟩, ⟨[], by rw [List.append_nil]; exact hu⟩, n1, n2, n3, by rw [hl]; omega, by rw [hl]; exact h2, ?_, ?_, ?_⟩
  · rw [hl]; exact hp
  · simp [St.fresh]
  · intro c hc; simp [St.fresh] at hc; rw [hc.2]; decide
  · simp [St.fresh]

theorem rnew_any (n : Nat) (w : World) (h1 : 1 ≤ n) (h2 : n ≤ 4096) : Calls Try.prog 18 #[.int .i64 n] w (SomeRNew w n) := by
  obtain ⟨i0, hi, hz0, hz1, hz2⟩ := info_parts infoByte
  obtain ⟨i1, hj, hy0, hy1, hy2⟩ := info_parts infoBool
  have hmB : ∀ W : World, (Instr.makeSlice 23 (.int .i64 (n : Int)) (.int .i64 (n : Int))).run Try.prog W = .ok (.slice (some ⟨W.heap.size, 0, none⟩) n n) (W.alloc (.cells (bVals (St.fresh n)).toArray 5)) := by
    intro W
    rw [run_make (P := Try.prog) W _ _ i0 (.int .u8 0) Try.underlying23 hi hz0 .i64 .i64 n n (by omega) (Int.le_refl _) (by rw [hz2]; omega) (by omega)]
    rw [hz1, Nat.mul_one, Int.toNat_natCast]
    have e := congrArg List.toArray (made_bytes n)
    simp only [Array.toArray_toList] at e
    show Result.ok _ (W.alloc (.cells (madeCells #[Value.int .u8 0] n) _)) = _
    rw [e]
    simp [bVals, St.fresh]
  have hmU : ∀ W : World, (Instr.makeSlice 40 (.int .i64 (n : Int)) (.int .i64 (n : Int))).run Try.prog W = .ok (.slice (some ⟨W.heap.size, 0, none⟩) n n) (W.alloc (.cells (uVals (St.fresh n)).toArray 4)) := by
    intro W
    rw [run_make (P := Try.prog) W _ _ i1 (.bool false) Try.underlying40 hj hy0 .i64 .i64 n n (by omega) (Int.le_refl _) (by rw [hy2]; omega) (by omega)]
    rw [hy1, Nat.mul_one, Int.toNat_natCast]
    have e := congrArg List.toArray (made_bools n)
    simp only [Array.toArray_toList] at e
    show Result.ok _ (W.alloc (.cells (madeCells #[Value.bool false] n) _)) = _
    rw [e]
    simp [uVals, St.fresh]
  have HX : Hid ((uVals (St.fresh n)).toArray = (uVals (St.fresh n)).toArray ∧ (bVals (St.fresh n)).toArray = (bVals (St.fresh n)).toArray) := ⟨rfl, rfl⟩
  obtain ⟨B, hB⟩ : ∃ B, (bVals (St.fresh n)).toArray = B := ⟨_, rfl⟩
  obtain ⟨U, hU⟩ : ∃ U, (uVals (St.fresh n)).toArray = U := ⟨_, rfl⟩
  rw [hB] at hmB
  rw [hU] at hmU
  have HB := Lib.hid hB
  have HU := Lib.hid hU
  clear hB hU HX hi hz0 hz1 hz2 hj hy0 hy1 hy2
  go_enter Try.func18, Try.ntmps18
  go_wp2
  go_region
  all_goals
    go_wp2
    go_ret
    rw [← HB.out, ← HU.out]
  · obtain ⟨q1, q2, q3⟩ := heap3 w (.cells (bVals (St.fresh n)).toArray 5) (.cells (uVals (St.fresh n)).toArray 4) (.cells #[.slice (some ⟨w.heap.size, 0, none⟩) n n, .slice (some ⟨w.heap.size + 1, 0, none⟩) n n, .int .i64 (-1), .int .u8 0, .bool false, .bool false] 47)
    exact ⟨⟨w.heap.size + 1 + 1, w.heap.size, w.heap.size + 1⟩, rfl, (ref_mem h1 h2 q1 q2 q3 (by omega) (by omega) (by omega)).drew, ((((Grow.refl w).alloc _).alloc _).alloc _).drew, by show w.heap.size ≤ w.heap.size + 1 + 1; omega, Nat.le_refl _, by show w.heap.size ≤ w.heap.size + 1; omega⟩
  · obtain ⟨q1, q2, q3⟩ := heap3 w (.cells (uVals (St.fresh n)).toArray 4) (.cells (bVals (St.fresh n)).toArray 5) (.cells #[.slice (some ⟨w.heap.size + 1, 0, none⟩) n n, .slice (some ⟨w.heap.size, 0, none⟩) n n, .int .i64 (-1), .int .u8 0, .bool false, .bool false] 47)
    exact ⟨⟨w.heap.size + 1 + 1, w.heap.size + 1, w.heap.size⟩, rfl, (ref_mem h1 h2 q2 q1 q3 (by omega) (by omega) (by omega)).drew, ((((Grow.refl w).alloc _).alloc _).alloc _).drew, by show w.heap.size ≤ w.heap.size + 1 + 1; omega, by show w.heap.size ≤ w.heap.size + 1; omega, Nat.le_refl _⟩
end Go.Proofs.Ytajmfgadbphjbaa
