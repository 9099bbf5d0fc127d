/- The contracts of a store's small methods. -/
import Derived.Test.YtajmfgadbphjbaaRows
import Derived.Test.YtajmfgadbphjbaaStBase
import Derived.LoopTactic
import Derived.WalkLawsBesides
import Derived.WalkSpells
import Derived.Deep.QuietTactic
import Derived.BigQuiet
set_option linter.unusedVariables false
namespace Go.Proofs.Ytajmfgadbphjbaa
open Go.RowKit

theorem st_ret_int {k : IntKind} {a b : Int} (h : a = b) : Ending.returned (.int k a) = .returned (.int k b) := by rw [h]

theorem len_any {w : World} {P g : Nat} {st : St} (h : StoreV w P g st) :
    Calls Try.prog 33 #[.pointer (some ⟨P, 0, none⟩)] w fun e w' => e = .returned (.int .i64 st.cells.length) ∧ w = w' := by
  obtain ⟨hc, ⟨hc1, hc2⟩, c0, c1, c2, c3, c4, hf⟩ := h.cellsP
  clear hf c1 c2 c3 c4
  have hl := h.le
  clear h
  go_enter Try.func33, Try.ntmps33
  go_wp2
  go_ret
  exact ⟨rfl, rfl⟩

theorem len_nil (w : World) : Calls Try.prog 33 #[.pointer none] w fun e w' => e = .returned (.int .i64 0) ∧ w = w' := by
  go_enter Try.func33, Try.ntmps33
  go_wp2
  go_ret
  exact ⟨rfl, rfl⟩

/-- Why bytes can't be had: 0: they can. -/
def wrongOf (st : St) (at' n : Int) : Int :=
  if at' < 0 ∨ n < 0 ∨ (st.cells.length : Int) < at' ∨ (st.cells.length : Int) - at' < n then 2 else if st.dead then 7 else 0

theorem wrong_any {w : World} {P g : Nat} {st : St} (h : StoreV w P g st) (a n : Int) (ha : -9223372036854775808 ≤ a ∧ a ≤ 9223372036854775807) (hn : -9223372036854775808 ≤ n ∧ n ≤ 9223372036854775807) :
    Calls Try.prog 31 #[.pointer (some ⟨P, 0, none⟩), .int .i64 a, .int .i64 n] w fun e w' => e = .returned (.int .i64 (wrongOf st a n)) ∧ w = w' := by
  have hlen := len_any h
  obtain ⟨hc, ⟨hc1, hc2⟩, c0, c1, c2, c3, c4, hf⟩ := h.cellsP
  clear hf c1 c2 c3
  have hl := h.le
  have hp := h.pos
  have hl0 : 0 ≤ (st.cells.length : Int) := by omega
  have hz : ((st.cells.length : Int) == 0) = false := by simp; intro hh; rw [hh] at hp; simp at hp
  have HL := Lib.hid hlen
  clear hlen h
  by_cases h1 : a < 0
  · have HR : Hid (wrongOf st a n = 2) := by show wrongOf st a n = 2; unfold wrongOf; rw [if_pos (Or.inl h1)]
    go_enter Try.func31, Try.ntmps31
    go_wp2_with (go_at_call 33; refine HL.out.mono ?_; rintro e w' ⟨rfl, rfl⟩)
    go_ret
    exact ⟨st_ret_int HR.out.symm, rfl⟩
  by_cases h2 : n < 0
  · have HR : Hid (wrongOf st a n = 2) := by show wrongOf st a n = 2; unfold wrongOf; rw [if_pos (Or.inr (Or.inl h2))]
    go_enter Try.func31, Try.ntmps31
    go_wp2_with (go_at_call 33; refine HL.out.mono ?_; rintro e w' ⟨rfl, rfl⟩)
    go_ret
    exact ⟨st_ret_int HR.out.symm, rfl⟩
  by_cases h3 : (st.cells.length : Int) < a
  · have HR : Hid (wrongOf st a n = 2) := by show wrongOf st a n = 2; unfold wrongOf; rw [if_pos (Or.inr (Or.inr (Or.inl h3)))]
    go_enter Try.func31, Try.ntmps31
    go_wp2_with (go_at_call 33; refine HL.out.mono ?_; rintro e w' ⟨rfl, rfl⟩)
    go_ret
    exact ⟨st_ret_int HR.out.symm, rfl⟩
  by_cases h4 : (st.cells.length : Int) - a < n
  · have HR : Hid (wrongOf st a n = 2) := by show wrongOf st a n = 2; unfold wrongOf; rw [if_pos (Or.inr (Or.inr (Or.inr h4)))]
    go_enter Try.func31, Try.ntmps31
    go_wp2_with (go_at_call 33; refine HL.out.mono ?_; rintro e w' ⟨rfl, rfl⟩)
    go_ret
    exact ⟨st_ret_int HR.out.symm, rfl⟩
  have HR : Hid (wrongOf st a n = if st.dead then 7 else 0) := by
    show wrongOf st a n = _
    unfold wrongOf
    rw [if_neg (by omega)]
  generalize st.dead = dd at *
  cases dd
  · go_enter Try.func31, Try.ntmps31
    go_wp2_with (go_at_call 33; refine HL.out.mono ?_; rintro e w' ⟨rfl, rfl⟩)
    go_ret
    exact ⟨st_ret_int HR.out.symm, rfl⟩
  · go_enter Try.func31, Try.ntmps31
    go_wp2_with (go_at_call 33; refine HL.out.mono ?_; rintro e w' ⟨rfl, rfl⟩)
    go_ret
    exact ⟨st_ret_int HR.out.symm, rfl⟩
end Go.Proofs.Ytajmfgadbphjbaa
