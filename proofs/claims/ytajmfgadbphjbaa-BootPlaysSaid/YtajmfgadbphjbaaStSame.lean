/- Are two stores the same? -/
import Derived.Test.YtajmfgadbphjbaaStCopy
set_option linter.unusedVariables false
namespace Go.Proofs.Ytajmfgadbphjbaa
open Go.RowKit

def sameB (a b : List (Int × Bool)) : Bool := decide (a = b)

theorem StoreV.drewN {w : World} {P g : Nat} {st : St} (h : StoreV w P g st) (n : Nat) : StoreV (w.drewN n) P g st := ⟨h.head, h.body, h.ne, h.pos, h.le, h.fuse, h.byte, h.torn⟩

theorem take_differ {l m : List (Int × Bool)} {k : Nat} (h1 : k < l.length) (h2 : k < m.length) (h : l.getD k (0, false) ≠ m.getD k (0, false)) : l ≠ m := fun e => h (by rw [e])

theorem take_next {l m : List (Int × Bool)} {k : Nat} (h1 : k < l.length) (h2 : k < m.length) (ht : l.take k = m.take k) (h : l.getD k (0, false) = m.getD k (0, false)) : l.take (k + 1) = m.take (k + 1) := by
  rw [List.take_succ_eq_append_getElem h1, List.take_succ_eq_append_getElem h2, ht]
  congr 2
  simpa [h1, h2] using h

set_option maxHeartbeats 1000000 in
theorem equal_any {w : World} {P g P2 g2 c c' : Nat} {st s2 : St} (h : StoreV w P g st) (h2 : StoreV w P2 g2 s2) :
    Calls Try.prog 36 #[.slice (some ⟨g, 0, none⟩) st.cells.length c, .slice (some ⟨g2, 0, none⟩) s2.cells.length c'] w fun e w' => e = .returned (.bool (sameB st.cells s2.cells)) ∧ ∃ n, w' = w.drewN n := by
  have HS := Lib.hid h
  have HS2 := Lib.hid h2
  have hl := h.le
  have hl2 := h2.le
  have hp := h.pos
  clear h h2
  by_cases hn : st.cells.length = s2.cells.length
  · have HN := Lib.hid hn
    generalize hm : st.cells.length = n at *
    have HM := Lib.hid hm
    rw [← hn]
    clear hm hn hl2
    go_enter Try.func36, Try.ntmps36
    go_wp2_with fail
    go_loopw [13] (fun i wr => ∃ k : Nat, k ≤ n ∧ i = .int .i64 k ∧ Hid (st.cells.take k = s2.cells.take k) ∧ Hid (∃ q, wr = w.drewN q)) (fun i _ => n - (intOf i).toNat)
    case atStart => exact ⟨0, Nat.zero_le _, rfl, rfl, ⟨0, rfl⟩⟩
    case round =>
      obtain ⟨k, hk, rfl, HT, HW⟩ := hrel
      obtain ⟨q, hq⟩ := HW.out
      subst hq
      by_cases hlt : k < n
      · obtain ⟨g0, g1, _, _⟩ := HS.out.cellsG k (by have := HM.out; omega)
        obtain ⟨b0, b1, _, _⟩ := HS2.out.cellsG k (by have := HM.out; have := HN.out; omega)
        have HX : Hid (st.cells.getD k (0, false) = st.cells.getD k (0, false) ∧ s2.cells.getD k (0, false) = s2.cells.getD k (0, false)) := ⟨rfl, rfl⟩
        obtain ⟨x, hx⟩ : ∃ x, st.cells.getD k (0, false) = x := ⟨_, rfl⟩
        obtain ⟨y, hy⟩ : ∃ y, s2.cells.getD k (0, false) = y := ⟨_, rfl⟩
        rw [hx] at g0 g1
        rw [hy] at b0 b1
        have HE1 := Lib.hid hx
        have HE2 := Lib.hid hy
        clear hx hy HX
        obtain ⟨x1, x2⟩ := x
        obtain ⟨y1, y2⟩ := y
        dsimp only at g0 g1 b0 b1
        by_cases he : x1 = y1 ∧ x2 = y2
        · obtain ⟨rfl, rfl⟩ := he
          have HNX : Hid (st.cells.take (k + 1) = s2.cells.take (k + 1)) := take_next (by have := HM.out; omega) (by have := HM.out; have := HN.out; omega) HT.out (by rw [HE1.out, HE2.out])
          go_wp2_with fail
          go_quiet (fail)
          go_wp2_with fail
          go_roundw
          case rel => exact ⟨k + 1, by omega, by go_num, HNX.out, ⟨_, rfl⟩⟩
          case measure => simp [intOf]; omega
        · have HR : Hid (sameB st.cells s2.cells = false) := by
            show sameB _ _ = false
            unfold sameB
            exact decide_eq_false (take_differ (l := st.cells) (m := s2.cells) (k := k) (by have := HM.out; omega) (by have := HM.out; have := HN.out; omega) (by rw [HE1.out, HE2.out]; intro hh; exact he ⟨congrArg Prod.fst hh, congrArg Prod.snd hh⟩))
          by_cases he1 : x1 = y1
          · subst he1
            have he2 : (x2 == y2) = false := by simp; exact fun h => he ⟨rfl, h⟩
            clear he
            go_wp2_with fail
            go_quiet (fail)
            go_wp2_with fail
            go_ret
            exact ⟨congrArg (fun x => Ending.returned (.bool x)) HR.out.symm, _, World.drewN_drewN _ _ _⟩
          · have he2 : (x1 == y1) = false := by simpa using he1
            clear he he1
            go_wp2_with fail
            go_quiet (fail)
            go_wp2_with fail
            go_ret
            exact ⟨congrArg (fun x => Ending.returned (.bool x)) HR.out.symm, _, World.drewN_drewN _ _ _⟩
      · have hkn : k = n := by omega
        subst hkn
        have HR : Hid (sameB st.cells s2.cells = true) := by
          show sameB _ _ = true
          unfold sameB
          have := HT.out
          rw [List.take_of_length_le (by rw [HM.out]; exact Nat.le_refl _), List.take_of_length_le (by rw [← HN.out]; exact Nat.le_refl _)] at this
          exact decide_eq_true this
        go_wp2_with fail
        go_ret
        exact ⟨congrArg (fun x => Ending.returned (.bool x)) HR.out.symm, _, rfl⟩
  · have hn' : ((st.cells.length : Int) != (s2.cells.length : Int)) = true := by simp; omega
    have HR : Hid (sameB st.cells s2.cells = false) := by
      show sameB _ _ = false
      unfold sameB
      exact decide_eq_false fun e => hn (by rw [e])
    clear hn
    go_enter Try.func36, Try.ntmps36
    go_wp2_with fail
    go_ret
    exact ⟨congrArg (fun x => Ending.returned (.bool x)) HR.out.symm, 0, rfl⟩

set_option maxHeartbeats 400000 in
theorem same_any {w : World} {P g P2 g2 : Nat} {st s2 : St} (h : StoreV w P g st) (h2 : StoreV w P2 g2 s2) :
    Calls Try.prog 22 #[.pointer (some ⟨P, 0, none⟩), .pointer (some ⟨P2, 0, none⟩)] w fun e w' => e = .returned (.bool (sameB st.cells s2.cells)) ∧ ∃ n, w' = w.drewN n := by
  have HL := Lib.hid (len_any h)
  have HL2 := Lib.hid (len_any h2)
  obtain ⟨hc, ⟨hc1, hc2⟩, c0, _⟩ := h.cellsP
  obtain ⟨hd, ⟨hd1, hd2⟩, d0, _⟩ := h2.cellsP
  have hp := h.pos
  have hp2 := h2.pos
  have hz : ((st.cells.length : Int) == 0) = false := by simp; intro hh; rw [hh] at hp; simp at hp
  have hz2 : ((s2.cells.length : Int) == 0) = false := by simp; intro hh; rw [hh] at hp2; simp at hp2
  obtain ⟨r, hr⟩ : ∃ r, sameB st.cells s2.cells = r := ⟨_, rfl⟩
  have HEQ : Hid (∀ n, Calls Try.prog 36 #[.slice (some ⟨g, 0, none⟩) st.cells.length hc, .slice (some ⟨g2, 0, none⟩) s2.cells.length hd] (w.drewN n) fun e w' => e = .returned (.bool r) ∧ ∃ m, w' = (w.drewN n).drewN m) := by
    intro n
    rw [← hr]
    exact equal_any (h.drewN n) (h2.drewN n)
  rw [hr]
  clear h h2 hr
  go_enter Try.func22, Try.ntmps22
  go_wp2_with (go_at_call 33; first | ((with_reducible refine HL.out.mono ?_); rintro e w' ⟨rfl, rfl⟩) | ((with_reducible refine HL2.out.mono ?_); rintro e w' ⟨rfl, rfl⟩))
  go_quiet ((go_at_call 36; exact Calls.quiet_of (HEQ.out _)))
  go_wp2_with fail
  go_ret
  exact ⟨rfl, _, rfl⟩
end Go.Proofs.Ytajmfgadbphjbaa
