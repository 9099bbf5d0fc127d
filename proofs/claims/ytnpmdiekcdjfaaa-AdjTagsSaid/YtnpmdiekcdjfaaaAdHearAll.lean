/- The contract of Hear, whole; the other small methods of an adjacency. -/
import Derived.Test.YtnpmdiekcdjfaaaAdHear
import Derived.Test.YtnpmdiekcdjfaaaAdHearB
import Derived.Test.YtnpmdiekcdjfaaaAdHearC
import Derived.Test.YtnpmdiekcdjfaaaAdHearD
set_option linter.unusedVariables false
set_option linter.unusedSimpArgs false
namespace Go.Proofs.Ytnpmdiekcdjfaaa
open Go.RowKit

theorem hear_ok {w : World} {P : Nat} {a : Ad} (h : AdV w P a) (x : Hl) (hx : HlOk x) (hb : ¬ x.bad) (hm : a.mt < 18446744073709551615) :
    Calls Try.prog 13 #[.pointer (some ⟨P, 0, none⟩), x.val] w (AdHeard P w (a.hear1 x) 0) := by
  unfold Ad.hear1
  by_cases h1 : x.node = a.node
  · rw [if_pos h1]; exact hear_own h x hx hb h1
  rw [if_neg h1]
  by_cases h2 : a.state = 0
  · rw [if_pos h2]; exact hear_down h x hx hb h1 h2
  rw [if_neg h2]
  by_cases h3 : x.node ≠ a.other
  · rw [if_pos h3]; exact hear_other h x hx hb h1 h2 h3 hm
  rw [if_neg h3]
  have h3' : x.node = a.other := Classical.byContradiction h3
  cases h4 : elderB x.mb x.mt a.tb a.tt
  · rw [if_neg (by decide)]
    have hst := h.ok.state
    have hs : a.state = 1 ∨ a.state = 2 := by omega
    by_cases h5 : x.mb = a.tb ∧ x.mt = a.tt
    · rw [if_neg (fun hh => hh h5)]
      rcases hs with hs | hs
      · exact hear_same1 h x hx hb h1 hs h3' h4 h5
      · exact hear_same2 h x hx hb h1 hs h3' h4 h5
    · rw [if_pos h5]
      by_cases h6 : x.mb = a.tb
      · have h7 : x.mb = a.tb ∧ x.mt ≠ a.tt := ⟨h6, fun h => h5 ⟨h6, h⟩⟩
        rcases hs with hs | hs
        · exact hear_new1t h x hx hb h1 hs h3' h4 h7
        · exact hear_new2t h x hx hb h1 hs h3' h4 h7
      · rcases hs with hs | hs
        · exact hear_new1b h x hx hb h1 hs h3' h4 h6
        · exact hear_new2b h x hx hb h1 hs h3' h4 h6
  · rw [if_pos rfl]; exact hear_elder h x hx hb h1 h2 h3' h4

/-! ### Words for what is written -/

def setObj (i : Nat) (v : Value) : Obj → Obj
  | .cells cs t fr => .cells (cs.setIfInBounds i v) t fr
  | o => o

theorem heap_put (w : World) (P i : Nat) (v : Value) : (w.setCell ⟨P, i, none⟩ v).heap[P]? = (w.heap[P]?).map (setObj i v) := by
  unfold World.setCell
  simp only [Array.getElem?_modify, if_true]
  cases w.heap[P]? with
  | none => rfl
  | some o => cases o <;> rfl
theorem heap_dr (w : World) : w.drew.heap = w.heap := rfl
theorem heap_dn (w : World) (n : Nat) : (w.drewN n).heap = w.heap := rfl
theorem setObj_cells (i : Nat) (v : Value) (cs : Array Value) (t : TypeId) (fr : Nat × Nat) : setObj i v (.cells cs t fr) = .cells (cs.setIfInBounds i v) t fr := rfl

section
variable {M : Nat → Prop} {w w' : World} {P : Nat}
theorem but_dr : GrowBut M w w'.drew ↔ GrowBut M w w' := ⟨fun h => ⟨h.os, h.tape, h.output, h.size, h.block⟩, GrowBut.drew⟩
theorem but_dn {n : Nat} : GrowBut M w (w'.drewN n) ↔ GrowBut M w w' := ⟨fun h => ⟨h.os, h.tape, h.output, h.size, h.block⟩, fun h => h.drewN n⟩
theorem but_put {i : Nat} {v : Value} : GrowBut (One P) w (w'.setCell ⟨P, i, none⟩ v) ↔ GrowBut (One P) w w' :=
  ⟨fun h => ⟨h.os, h.tape, h.output, by simpa [World.setCell] using h.size, fun k hk hn => (Below.heap_setCell _ _ _ _ (show k ≠ P from fun e => hn e)).symm.trans (h.block k hk hn)⟩, fun h => grow_one h i v⟩
end

/-! ### The small methods -/

theorem drop_any {w : World} {P : Nat} {a : Ad} (h : AdV w P a) (hm : a.mt < 18446744073709551615) :
    Calls Try.prog 15 #[.pointer (some ⟨P, 0, none⟩)] w (AdAfter P w a.lost a.anew) := by
  have HT := Lib.hid (there_any h)
  have HA := Lib.hid (anew_any h hm)
  clear h hm
  go_enter Try.func15, Try.ntmps15
  go_wp2_with (first | (go_at_call 22; refine HT.out.mono ?_; rintro e w' ⟨rfl, rfl⟩) | (go_at_call 23; refine HA.out.mono ?_; rintro e w' ⟨rfl, h1, h2⟩; have H1 := Lib.hid h1; have H2 := Lib.hid h2; clear h1 h2))
  go_ret
  exact ⟨rfl, H1.out, H2.out⟩

/-- What a tick does to what is told next. -/
def Ad.told (a : Ad) : Ad := { a with said := (if a.said = 0 then a.every else a.said) - 1 }
def Ad.tick (a : Ad) : Ad × Int :=
  if a.state = 0 then (a.told, 0) else if a.dead ≤ a.silent + 1 then ({ a.told with silent := a.silent + 1 }.anew, a.lost) else ({ a.told with silent := a.silent + 1 }, 0)

def AdTicked (P : Nat) (w : World) (r : Ad × Int) (due : Bool) (e : Ending) (w' : World) : Prop :=
  e = .returned (.tuple #[.int .i64 r.2, .bool due]) ∧ AdV w' P r.1 ∧ GrowBut (One P) w w'

theorem Ad.told_ok {a : Ad} (h : AdOk a) : AdOk a.told :=
  ⟨h.node, h.every, h.dead, h.state, h.mb, h.mt, h.tb, h.tt, h.other, by
    have h1 := h.said; have h2 := h.every
    show 0 ≤ (if a.said = 0 then a.every else a.said) - 1 ∧ (if a.said = 0 then a.every else a.said) - 1 ≤ 100
    split <;> omega, h.silent⟩


/-- A tick that leaves it in its state. -/
theorem Ad.quiet_ok {a : Ad} (h : AdOk a) (hs : a.silent < a.dead) (h2 : ¬ a.dead ≤ a.silent + 1) : AdOk { a.told with silent := a.silent + 1 } :=
  ⟨h.node, h.every, h.dead, h.state, h.mb, h.mt, h.tb, h.tt, h.other, (Ad.told_ok h).said, by
    have h1 := h.silent; have h3 := h.dead
    show 0 ≤ a.silent + 1 ∧ a.silent + 1 ≤ 100
    omega⟩
theorem Ad.late_ok {a : Ad} (h : AdOk a) (hs : a.silent < a.dead) : AdOk { a.told with silent := a.silent + 1 } :=
  ⟨h.node, h.every, h.dead, h.state, h.mb, h.mt, h.tb, h.tt, h.other, (Ad.told_ok h).said, by
    have h1 := h.silent; have h3 := h.dead
    show 0 ≤ a.silent + 1 ∧ a.silent + 1 ≤ 100
    omega⟩

set_option maxHeartbeats 1000000 in
theorem tick_down0 {w : World} {P : Nat} {a : Ad} (h : AdV w P a) (hm : a.mt < 18446744073709551615) (hsl : a.silent < a.dead) (h0 : a.said = 0) (h1 : a.state = 0) :
    Calls Try.prog 14 #[.pointer (some ⟨P, 0, none⟩)] w (AdTicked P w a.tick (decide (a.said = 0))) := by
  have HT := Lib.hid (there_any h)
  obtain ⟨⟨c0, c1, c2⟩, c3, _, _, c9, c10, hf⟩ := h.cells
  have f9 := hf 9
  have f10 := hf 10
  have HS := Lib.hid h
  have HM := Lib.hid hm
  have he := h.ok.every
  have hd := h.ok.dead
  have hsa := h.ok.said
  have hsi := h.ok.silent
  have hst := h.ok.state
  have HOK := Lib.hid (Ad.told_ok h.ok)
  clear hf h c0 hm
  rw [h0] at c9
  have HD : Hid (decide (a.said = 0) = true) := by show decide _ = true; simp [h0]
  have HTO : Hid (a.told = { a with said := a.every - 1 }) := by show a.told = _; unfold Ad.told; rw [if_pos h0]
  have HR : Hid (a.tick = (a.told, 0)) := by show a.tick = _; unfold Ad.tick; rw [if_pos h1]
  rw [h1] at c3
  clear h1
  rw [HD.out, HR.out]
  clear h0
  go_enter Try.func14, Try.ntmps14
  go_wp2_with (go_at_call 22; refine HT.out.mono ?_; rintro e w' ⟨rfl, rfl⟩)
  go_ret2
  refine ⟨rfl, ⟨?_, HOK.out⟩, ?_⟩
  · simp only [heap_put, heap_dr, heap_dn, HS.out.head, Option.map_some, setObj_cells, HTO.out]; simp [adVals]
  · simp only [but_put, but_dr, but_dn]; exact GrowBut.refl _ _

set_option maxHeartbeats 1000000 in
theorem tick_quiet0 {w : World} {P : Nat} {a : Ad} (h : AdV w P a) (hm : a.mt < 18446744073709551615) (hsl : a.silent < a.dead) (h0 : a.said = 0) (h1 : a.state ≠ 0) (h2 : ¬ a.dead ≤ a.silent + 1) :
    Calls Try.prog 14 #[.pointer (some ⟨P, 0, none⟩)] w (AdTicked P w a.tick (decide (a.said = 0))) := by
  have HT := Lib.hid (there_any h)
  obtain ⟨⟨c0, c1, c2⟩, c3, _, _, c9, c10, hf⟩ := h.cells
  have f9 := hf 9
  have f10 := hf 10
  have HS := Lib.hid h
  have HM := Lib.hid hm
  have he := h.ok.every
  have hd := h.ok.dead
  have hsa := h.ok.said
  have hsi := h.ok.silent
  have hst := h.ok.state
  have HOK := Lib.hid (Ad.quiet_ok h.ok hsl h2)
  clear hf h c0 hm
  rw [h0] at c9
  have HD : Hid (decide (a.said = 0) = true) := by show decide _ = true; simp [h0]
  have HTO : Hid (a.told = { a with said := a.every - 1 }) := by show a.told = _; unfold Ad.told; rw [if_pos h0]
  have HR : Hid (a.tick = ({ a.told with silent := a.silent + 1 }, 0)) := by show a.tick = _; unfold Ad.tick; rw [if_neg h1, if_neg h2]
  have h1' : (a.state == 0) = false := by simpa using h1
  have h2' : decide (a.dead ≤ a.silent + 1) = false := by simpa using h2
  clear h1 h2
  rw [HD.out, HR.out]
  clear h0
  go_enter Try.func14, Try.ntmps14
  go_wp2_with (go_at_call 22; refine HT.out.mono ?_; rintro e w' ⟨rfl, rfl⟩)
  go_quiet (fail)
  go_wp2_with fail
  go_ret2
  refine ⟨rfl, ⟨?_, HOK.out⟩, ?_⟩
  · simp only [heap_put, heap_dr, heap_dn, HS.out.head, Option.map_some, setObj_cells, HTO.out]; simp [adVals]
  · simp only [but_put, but_dr, but_dn]; exact GrowBut.refl _ _

set_option maxHeartbeats 1000000 in
theorem tick_late0 {w : World} {P : Nat} {a : Ad} (h : AdV w P a) (hm : a.mt < 18446744073709551615) (hsl : a.silent < a.dead) (h0 : a.said = 0) (h1 : a.state ≠ 0) (h2 : a.dead ≤ a.silent + 1) :
    Calls Try.prog 14 #[.pointer (some ⟨P, 0, none⟩)] w (AdTicked P w a.tick (decide (a.said = 0))) := by
  have HT := Lib.hid (there_any h)
  obtain ⟨⟨c0, c1, c2⟩, c3, _, _, c9, c10, hf⟩ := h.cells
  have f9 := hf 9
  have f10 := hf 10
  have HS := Lib.hid h
  have HM := Lib.hid hm
  have he := h.ok.every
  have hd := h.ok.dead
  have hsa := h.ok.said
  have hsi := h.ok.silent
  have hst := h.ok.state
  have HOK := Lib.hid (Ad.late_ok h.ok hsl)
  clear hf h c0 hm
  rw [h0] at c9
  have HD : Hid (decide (a.said = 0) = true) := by show decide _ = true; simp [h0]
  have HTO : Hid (a.told = { a with said := a.every - 1 }) := by show a.told = _; unfold Ad.told; rw [if_pos h0]
  have HR : Hid (a.tick = ({ a.told with silent := a.silent + 1 }.anew, a.lost)) := by show a.tick = _; unfold Ad.tick; rw [if_neg h1, if_pos h2]
  have h1' : (a.state == 0) = false := by simpa using h1
  have h2' : decide (a.dead ≤ a.silent + 1) = true := by simpa using h2
  clear h1 h2
  rw [HD.out, HR.out]
  clear h0
  go_enter Try.func14, Try.ntmps14
  go_wp2_with (go_at_call 22; refine HT.out.mono ?_; rintro e w' ⟨rfl, rfl⟩)
  go_quiet (fail)
  go_wp2_with fail
  refine (anew_any (a := { a.told with silent := a.silent + 1 }) ⟨by simp only [heap_put, heap_dr, heap_dn, HS.out.head, Option.map_some, setObj_cells, HTO.out]; simp [adVals], HOK.out⟩ HM.out).mono ?_
  rintro e w2 ⟨rfl, ha, hg⟩
  have HA := Lib.hid ha
  have HG : Hid (GrowBut (One P) w w2) := by
    refine GrowBut.trans ?_ hg
    simp only [but_put, but_dr, but_dn]; exact GrowBut.refl _ _
  clear ha hg
  go_wp2_with fail
  go_ret2
  exact ⟨rfl, HA.out, HG.out⟩

set_option maxHeartbeats 1000000 in
theorem tick_down1 {w : World} {P : Nat} {a : Ad} (h : AdV w P a) (hm : a.mt < 18446744073709551615) (hsl : a.silent < a.dead) (h0 : a.said ≠ 0) (h1 : a.state = 0) :
    Calls Try.prog 14 #[.pointer (some ⟨P, 0, none⟩)] w (AdTicked P w a.tick (decide (a.said = 0))) := by
  have HT := Lib.hid (there_any h)
  obtain ⟨⟨c0, c1, c2⟩, c3, _, _, c9, c10, hf⟩ := h.cells
  have f9 := hf 9
  have f10 := hf 10
  have HS := Lib.hid h
  have HM := Lib.hid hm
  have he := h.ok.every
  have hd := h.ok.dead
  have hsa := h.ok.said
  have hsi := h.ok.silent
  have hst := h.ok.state
  have HOK := Lib.hid (Ad.told_ok h.ok)
  clear hf h c0 hm
  have h0' : (a.said == 0) = false := by simpa using h0
  have HD : Hid (decide (a.said = 0) = false) := by show decide _ = false; simp [h0]
  have HTO : Hid (a.told = { a with said := a.said - 1 }) := by show a.told = _; unfold Ad.told; rw [if_neg h0]
  have HR : Hid (a.tick = (a.told, 0)) := by show a.tick = _; unfold Ad.tick; rw [if_pos h1]
  rw [h1] at c3
  clear h1
  rw [HD.out, HR.out]
  clear h0
  go_enter Try.func14, Try.ntmps14
  go_wp2_with (go_at_call 22; refine HT.out.mono ?_; rintro e w' ⟨rfl, rfl⟩)
  go_ret2
  refine ⟨rfl, ⟨?_, HOK.out⟩, ?_⟩
  · simp only [heap_put, heap_dr, heap_dn, HS.out.head, Option.map_some, setObj_cells, HTO.out]; simp [adVals]
  · simp only [but_put, but_dr, but_dn]; exact GrowBut.refl _ _

set_option maxHeartbeats 1000000 in
theorem tick_quiet1 {w : World} {P : Nat} {a : Ad} (h : AdV w P a) (hm : a.mt < 18446744073709551615) (hsl : a.silent < a.dead) (h0 : a.said ≠ 0) (h1 : a.state ≠ 0) (h2 : ¬ a.dead ≤ a.silent + 1) :
    Calls Try.prog 14 #[.pointer (some ⟨P, 0, none⟩)] w (AdTicked P w a.tick (decide (a.said = 0))) := by
  have HT := Lib.hid (there_any h)
  obtain ⟨⟨c0, c1, c2⟩, c3, _, _, c9, c10, hf⟩ := h.cells
  have f9 := hf 9
  have f10 := hf 10
  have HS := Lib.hid h
  have HM := Lib.hid hm
  have he := h.ok.every
  have hd := h.ok.dead
  have hsa := h.ok.said
  have hsi := h.ok.silent
  have hst := h.ok.state
  have HOK := Lib.hid (Ad.quiet_ok h.ok hsl h2)
  clear hf h c0 hm
  have h0' : (a.said == 0) = false := by simpa using h0
  have HD : Hid (decide (a.said = 0) = false) := by show decide _ = false; simp [h0]
  have HTO : Hid (a.told = { a with said := a.said - 1 }) := by show a.told = _; unfold Ad.told; rw [if_neg h0]
  have HR : Hid (a.tick = ({ a.told with silent := a.silent + 1 }, 0)) := by show a.tick = _; unfold Ad.tick; rw [if_neg h1, if_neg h2]
  have h1' : (a.state == 0) = false := by simpa using h1
  have h2' : decide (a.dead ≤ a.silent + 1) = false := by simpa using h2
  clear h1 h2
  rw [HD.out, HR.out]
  clear h0
  go_enter Try.func14, Try.ntmps14
  go_wp2_with (go_at_call 22; refine HT.out.mono ?_; rintro e w' ⟨rfl, rfl⟩)
  go_quiet (fail)
  go_wp2_with fail
  go_ret2
  refine ⟨rfl, ⟨?_, HOK.out⟩, ?_⟩
  · simp only [heap_put, heap_dr, heap_dn, HS.out.head, Option.map_some, setObj_cells, HTO.out]; simp [adVals]
  · simp only [but_put, but_dr, but_dn]; exact GrowBut.refl _ _

set_option maxHeartbeats 1000000 in
theorem tick_late1 {w : World} {P : Nat} {a : Ad} (h : AdV w P a) (hm : a.mt < 18446744073709551615) (hsl : a.silent < a.dead) (h0 : a.said ≠ 0) (h1 : a.state ≠ 0) (h2 : a.dead ≤ a.silent + 1) :
    Calls Try.prog 14 #[.pointer (some ⟨P, 0, none⟩)] w (AdTicked P w a.tick (decide (a.said = 0))) := by
  have HT := Lib.hid (there_any h)
  obtain ⟨⟨c0, c1, c2⟩, c3, _, _, c9, c10, hf⟩ := h.cells
  have f9 := hf 9
  have f10 := hf 10
  have HS := Lib.hid h
  have HM := Lib.hid hm
  have he := h.ok.every
  have hd := h.ok.dead
  have hsa := h.ok.said
  have hsi := h.ok.silent
  have hst := h.ok.state
  have HOK := Lib.hid (Ad.late_ok h.ok hsl)
  clear hf h c0 hm
  have h0' : (a.said == 0) = false := by simpa using h0
  have HD : Hid (decide (a.said = 0) = false) := by show decide _ = false; simp [h0]
  have HTO : Hid (a.told = { a with said := a.said - 1 }) := by show a.told = _; unfold Ad.told; rw [if_neg h0]
  have HR : Hid (a.tick = ({ a.told with silent := a.silent + 1 }.anew, a.lost)) := by show a.tick = _; unfold Ad.tick; rw [if_neg h1, if_pos h2]
  have h1' : (a.state == 0) = false := by simpa using h1
  have h2' : decide (a.dead ≤ a.silent + 1) = true := by simpa using h2
  clear h1 h2
  rw [HD.out, HR.out]
  clear h0
  go_enter Try.func14, Try.ntmps14
  go_wp2_with (go_at_call 22; refine HT.out.mono ?_; rintro e w' ⟨rfl, rfl⟩)
  go_quiet (fail)
  go_wp2_with fail
  refine (anew_any (a := { a.told with silent := a.silent + 1 }) ⟨by simp only [heap_put, heap_dr, heap_dn, HS.out.head, Option.map_some, setObj_cells, HTO.out]; simp [adVals], HOK.out⟩ HM.out).mono ?_
  rintro e w2 ⟨rfl, ha, hg⟩
  have HA := Lib.hid ha
  have HG : Hid (GrowBut (One P) w w2) := by
    refine GrowBut.trans ?_ hg
    simp only [but_put, but_dr, but_dn]; exact GrowBut.refl _ _
  clear ha hg
  go_wp2_with fail
  go_ret2
  exact ⟨rfl, HA.out, HG.out⟩

theorem tick_any {w : World} {P : Nat} {a : Ad} (h : AdV w P a) (hm : a.mt < 18446744073709551615) (hsl : a.silent < a.dead) :
    Calls Try.prog 14 #[.pointer (some ⟨P, 0, none⟩)] w (AdTicked P w a.tick (decide (a.said = 0))) := by
  by_cases h0 : a.said = 0
  · by_cases h1 : a.state = 0
    · exact tick_down0 h hm hsl h0 h1
    · by_cases h2 : a.dead ≤ a.silent + 1
      · exact tick_late0 h hm hsl h0 h1 h2
      · exact tick_quiet0 h hm hsl h0 h1 h2
  · by_cases h1 : a.state = 0
    · exact tick_down1 h hm hsl h0 h1
    · by_cases h2 : a.dead ≤ a.silent + 1
      · exact tick_late1 h hm hsl h0 h1 h2
      · exact tick_quiet1 h hm hsl h0 h1 h2
end Go.Proofs.Ytnpmdiekcdjfaaa
