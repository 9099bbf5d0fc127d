/- The contract of Read. -/
import Derived.Test.YtajmfgadbphjbaaStNew
set_option linter.unusedVariables false
namespace Go.Proofs.Ytajmfgadbphjbaa
open Go.RowKit

/-- The bytes from 'k' on, so many. -/
def part (st : St) (k m : Nat) : List (Int × Bool) := (st.cells.drop k).take m

theorem part_length {st : St} {k m : Nat} (h : k + m ≤ st.cells.length) : (part st k m).length = m := by simp [part]; omega
theorem part_getD {st : St} {k m i : Nat} (h : k + m ≤ st.cells.length) (hi : i < m) : (part st k m).getD i (0, false) = st.cells.getD (k + i) (0, false) := by
  simp only [part, List.getD_eq_getElem?_getD, List.getElem?_take, List.getElem?_drop]
  rw [if_pos hi]

/-- What Read answers where it may: bytes, or that one can't be read. -/
def readRes (st : St) (k m : Nat) (v : Value) (err : Int) (w' : World) : Prop :=
  if (part st k m).any (·.2) then v = .slice none 0 0 ∧ err = 8 else err = 0 ∧ BytesV w' v ((part st k m).map (·.1))

def SomeRead (st : St) (k m : Nat) (w : World) (e : Ending) (w' : World) : Prop :=
  ∃ v err, e = .returned (.tuple #[v, .int .i64 err]) ∧ readRes st k m v err w' ∧ Grow w w'

theorem infoByte : (Try.prog.info? 5).map (fun i => (i.zero, i.size, i.bytes)) = some (some (.int .u8 0), 1, 1) := by kernel_rfl

theorem read_bad {w : World} {P g : Nat} {st : St} (h : StoreV w P g st) (a n : Int) (ha : -9223372036854775808 ≤ a ∧ a ≤ 9223372036854775807) (hn : -9223372036854775808 ≤ n ∧ n ≤ 9223372036854775807) (hw : wrongOf st a n ≠ 0) :
    Calls Try.prog 16 #[.pointer (some ⟨P, 0, none⟩), .int .i64 a, .int .i64 n] w fun e w' => e = .returned (.tuple #[.slice none 0 0, .int .i64 (wrongOf st a n)]) ∧ w = w' := by
  have HW := Lib.hid (wrong_any h a n ha hn)
  have hb : (wrongOf st a n != 0) = true := by simpa using hw
  clear h ha hn
  generalize wrongOf st a n = q at *
  go_enter Try.func16, Try.ntmps16
  go_wp2_with (go_at_call 31; refine HW.out.mono ?_; rintro e w' ⟨rfl, rfl⟩)
  go_ret2
  exact ⟨rfl, rfl⟩

theorem take_any_false {α : Type} {l : List α} {p : α → Bool} {i : Nat} (d : α) (hi : i < l.length) (h1 : (l.take i).any p = false) (h2 : p (l.getD i d) = false) : (l.take (i + 1)).any p = false := by
  have : l.take (i + 1) = l.take i ++ [l.getD i d] := by rw [List.take_succ_eq_append_getElem hi]; simp [hi]
  rw [this, List.any_append, h1]; simpa using h2

theorem any_of_at {α : Type} {l : List α} {p : α → Bool} {i : Nat} (d : α) (hi : i < l.length) (h : p (l.getD i d) = true) : l.any p = true := by
  rw [List.any_eq_true]
  exact ⟨l[i], List.getElem_mem hi, by simpa [hi] using h⟩

set_option maxHeartbeats 400000 in
theorem read_any {w : World} {P g : Nat} {st : St} (h : StoreV w P g st) (k m : Nat) (hk : k + m ≤ st.cells.length) (hd : st.dead = false) :
    Calls Try.prog 16 #[.pointer (some ⟨P, 0, none⟩), .int .i64 k, .int .i64 m] w (SomeRead st k m w) := by
  obtain ⟨i0, hi, hz0, hz1, hz2⟩ := info_parts infoByte
  have hl := h.le
  have hq : wrongOf st k m = 0 := by unfold wrongOf; rw [if_neg (by omega), hd]; rfl
  have hwr := wrong_any h k m (by omega) (by omega)
  rw [hq] at hwr
  have HW := Lib.hid hwr
  obtain ⟨hc, ⟨hc1, hc2⟩, c0, c1, c2, c3, c4, hf⟩ := h.cellsP
  have HS := Lib.hid h
  clear hf c1 c2 c3 c4 hwr hq h hd
  generalize hlen : st.cells.length = n at *
  have HN := Lib.hid hlen
  clear hlen
  by_cases hm : m = 0
  · subst hm
    go_enter Try.func16, Try.ntmps16
    go_wp2_with (go_at_call 31; refine HW.out.mono ?_; rintro e w' ⟨rfl, rfl⟩)
    all_goals
      refine wp_loop_rounds 1 ?_
      rw [rounds_succ]
      go_wp2
      go_ret2
      exact ⟨_, _, rfl, by simp [readRes, part]; exact ⟨Bytes.nil, Or.inl ⟨rfl, none, 0, rfl, Nat.zero_le _, fun _ => rfl⟩⟩, Grow.refl _⟩
  · have hne : ¬ hc = k := by omega
    have hm0 : (0 : Int) < (m : Int) := by omega
    have hkm : k + m - k = m := by omega
    go_enter Try.func16, Try.ntmps16
    go_wp2_with (go_at_call 31; refine HW.out.mono ?_; rintro e w' ⟨rfl, rfl⟩)
    go_loopw [9, 29] (fun v i wr => ∃ j : Nat, j ≤ m ∧ i = .int .i64 j ∧ wr.ownsRow w.heap.size 5 1 v ((part st k m).take j).length ((((part st k m).take j).map (·.1)).map (Value.int .u8)) ∧ Hid (((part st k m).take j).any (·.2) = false) ∧ Grow w wr)
      (fun _ i _ => m - (intOf i).toNat)
    case atStart => exact ⟨0, Nat.zero_le _, rfl, World.ownsRow_nil _ _ _ _, rfl, Grow.refl _⟩
    case round =>
      obtain ⟨j, hj, rfl, hown, HU, hg⟩ := hrel
      by_cases hlt : j < m
      · obtain ⟨g0, g1, gf0, gf1⟩ := HS.out.cellsG (k + j) (by have := HN.out; omega)
        have hb := HS.out.byteAt (k + j)
        have hlp : (part st k m).length = m := part_length (by have := HN.out; omega)
        have hpd := part_getD (st := st) (k := k) (m := m) (i := j) (by have := HN.out; omega) hlt
        have e1 : (k + j) * 2 = k * 2 + j * 2 := by omega
        rw [e1] at g0 g1
        have d0 := (hg.cell (block_lt g0)).trans g0
        have d1 := (hg.cell (block_lt g1)).trans g1
        clear g0 g1 gf0 gf1 e1
        have HX : Hid ((part st k m).getD j (0, false) = st.cells.getD (k + j) (0, false)) := hpd
        have HLP := Lib.hid hlp
        clear hpd hlp
        generalize st.cells.getD (k + j) (0, false) = c at *
        obtain ⟨x, u⟩ := c
        dsimp only at d0 d1 hb
        cases u
        · have HT : Hid (((part st k m).take (j + 1)).any (·.2) = false) := take_any_false (0, false) (by have := HLP.out; omega) HU.out (by rw [HX.out])
          have HL : Hid (((part st k m).take j).length = j) := by show ((part st k m).take j).length = j; have := HLP.out; simp; omega
          have HNX : Hid ((part st k m).take (j + 1) = (part st k m).take j ++ [(x, false)]) := by
            show (part st k m).take (j + 1) = _
            rw [List.take_succ_eq_append_getElem (by have := HLP.out; omega), ← HX.out]
            congr 2
            have := HLP.out
            simp [show j < (part st k m).length by omega]
          have HV1 : Hid (IntsV .u8 ((wr.alloc (.cells #[.int .u8 x, .bool false] 60)).alloc (.cells #[.int .u8 x] 5)) (.slice (some ⟨wr.heap.size + 1, 0, none⟩) 1 1) [x]) := by
            have := (bytes_new (w := wr.alloc (.cells #[.int .u8 x, .bool false] 60)) [.int .u8 x] [x] 5 rfl (fun z hz => by simp at hz; subst hz; exact hb) (by simp [maxLen])).2
            rwa [World.size_alloc] at this
          clear hb
          generalize (part st k m).take j = pre at *
          go_wp2_with (at_builtin; refine wpList_append_ints (k := .u8) rfl _ _ 23 rfl w.heap.size 5 i0 1 Try.underlying23 hi hz0 hz1 hz2 _ _ _ rfl ((hown.alloc (.cells #[.int .u8 x, .bool false] 60)).alloc (.cells #[.int .u8 x] 5)) _ [x] rfl HV1.out ?c3 ?c4 ?c5 ?_)
          case c3 => rw [HL.out]; unfold maxLen; simp; omega
          case c4 => rw [HL.out]; simp; omega
          case c5 => have := hg.size; simp; omega
          · intro v' w1 hown' hgrow
            have hg1 : Grow w w1 := grow_by ((hg.alloc _).alloc _) ((hown.alloc _).alloc _) hgrow
            have HO : Hid (w1.ownsRow w.heap.size 5 1 v' ((part st k m).take (j + 1)).length ((((part st k m).take (j + 1)).map (·.1)).map (Value.int .u8)) ∧ Grow w w1) := by
              refine ⟨?_, hg1⟩
              rw [HNX.out]
              simpa using hown'
            clear hown' hgrow hown hg hg1
            go_wp2
            go_roundw
            case rel => first | exact ⟨j + 1, by omega, by go_num, HO.out.1, HT.out, HO.out.2⟩ | ((repeat apply Exists.intro); refine ⟨⟨j + 1, by omega, by go_num, HO.out.1, HT.out, HO.out.2⟩, ?_⟩; rw [Nat.add_sub_cancel_left]; rfl)
            case measure => simp [intOf]; omega
        · go_wp2
          go_ret2
          exact ⟨_, _, rfl, by rw [readRes, if_pos (any_of_at (0, false) (i := j) (by have := HLP.out; omega) (by rw [HX.out]))]; exact ⟨rfl, rfl⟩, hg.alloc _⟩
      · have hjm : j = m := by omega
        subst hjm
        have hfull : (part st k j).take j = part st k j := List.take_of_length_le (by rw [part_length (by have := HN.out; omega)]; exact Nat.le_refl _)
        rw [hfull] at hown HU
        have hv : BytesV wr u9 ((part st k j).map (·.1)) := ⟨fun z hz => by
          obtain ⟨c, hc, rfl⟩ := List.mem_map.1 hz
          exact HS.out.byte c (List.mem_of_mem_drop (List.mem_of_mem_take hc)), ints_of_owns hown⟩
        have HV := Lib.hid hv
        obtain ⟨ao, c, rfl, _, _⟩ := hv.shape
        clear hv hown hfull
        go_wp2
        go_ret2
        exact ⟨_, _, rfl, by rw [readRes, if_neg (by rw [HU.out]; decide)]; exact ⟨rfl, HV.out⟩, hg⟩
end Go.Proofs.Ytajmfgadbphjbaa
