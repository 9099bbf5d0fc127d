/- The contract of the document's Tick. -/
import Derived.Test.YtnpmdiekcdjfaaaRad
set_option linter.unusedVariables false
set_option linter.unusedSimpArgs false
namespace Go.Proofs.Ytnpmdiekcdjfaaa
open Go.RowKit

/-- What a tick does, but for what is told. -/
def Ad.rest (a : Ad) : Ad × Int :=
  if a.state = 0 then (a, 0) else if a.dead ≤ a.silent + 1 then ({ a with silent := a.silent + 1 }.anew, a.lost) else ({ a with silent := a.silent + 1 }, 0)

theorem Ad.tick_rest (a : Ad) : a.tick = a.told.rest := by
  unfold Ad.tick Ad.rest
  rfl

theorem Ad.said_ok {a : Ad} (h : AdOk a) {s : Int} (hs : 0 ≤ s ∧ s ≤ 100) : AdOk { a with said := s } := ⟨h.node, h.every, h.dead, h.state, h.mb, h.mt, h.tb, h.tt, h.other, hs, h.silent⟩
theorem Ad.more_ok {a : Ad} (h : AdOk a) (hs : a.silent < a.dead) : AdOk { a with silent := a.silent + 1 } :=
  ⟨h.node, h.every, h.dead, h.state, h.mb, h.mt, h.tb, h.tt, h.other, h.said, by
    have h1 := h.silent; have h3 := h.dead
    show 0 ≤ a.silent + 1 ∧ a.silent + 1 ≤ 100
    omega⟩

/-- What is told next, in the document's words. -/
def rsaid (a : Ad) (sd : Bool) : Int := if sd = true ∧ a.said ≠ a.every then a.said + 1 else 1
theorem rsaid_bd {a : Ad} {sd : Bool} (h : AdOk a) (hs : a.said ≤ a.every) : 1 ≤ rsaid a sd ∧ rsaid a sd ≤ a.every := by
  have h1 := h.said; have h2 := h.every
  unfold rsaid
  split
  · rename_i hh; have := hh.2; omega
  · omega

def RadTicked (P : Nat) (w : World) (r : Ad × Int) (e : Ending) (w' : World) : Prop :=
  ∃ due : Bool, e = .returned (.tuple #[.int .i64 r.2, .bool due]) ∧ RadV w' P r.1 true ∧ GrowBut (One P) w w'

set_option maxRecDepth 20000 in
set_option maxHeartbeats 1000000 in
theorem rtick_downa {w : World} {P : Nat} {a : Ad} {sd : Bool} (h : RadV w P a sd) (hm : a.mt < 18446744073709551615) (hsl : a.silent < a.dead) (hse : a.said ≤ a.every) (hd0 : sd = false) (h1 : a.state = 0) :
    Calls Try.prog 20 #[.pointer (some ⟨P, 0, none⟩)] w (RadTicked P w ({ a with said := rsaid a sd } : Ad).rest) := by
  obtain ⟨⟨c0, c1, c2⟩, c3, _, _, c9, c10, c11, hf⟩ := h.cells
  have f9 := hf 9
  have f10 := hf 10
  have f11 := hf 11
  have HS := Lib.hid h
  have HM := Lib.hid hm
  have he := h.ok.every
  have hd := h.ok.dead
  have hsa := h.ok.said
  have hsi := h.ok.silent
  have hst := h.ok.state
  have HSB := Lib.hid (rsaid_bd (sd := sd) h.ok hse)
  have HSO : Hid (AdOk { a with said := rsaid a sd }) := Ad.said_ok h.ok ⟨by have := HSB.out; omega, by have := HSB.out; omega⟩
  subst hd0
  clear hf h c0 hm
  have HRS : Hid (rsaid a false = 1) := by show rsaid a false = 1; unfold rsaid; rw [if_neg (by simp)]
  rw [HRS.out] at HSO ⊢
  have HR : Hid (({ a with said := 1 } : Ad).rest = (({ a with said := 1 } : Ad), 0)) := by show Ad.rest _ = _; unfold Ad.rest; rw [if_pos h1]
  rw [h1] at c3
  clear h1
  rw [HR.out]
  go_enter Try.func20, Try.ntmps20
  go_wp2_with fail
  go_quiet (fail)
  go_wp2_with fail
  go_ret2
  refine ⟨_, rfl, ⟨?_, HSO.out⟩, ?_⟩
  · simp only [heap_put, heap_dr, heap_dn, HS.out.head, Option.map_some, setObj_cells]; simp [radVals]
  · simp only [but_put, but_dr, but_dn]; exact GrowBut.refl _ _

set_option maxRecDepth 20000 in
set_option maxHeartbeats 1000000 in
theorem rtick_quieta {w : World} {P : Nat} {a : Ad} {sd : Bool} (h : RadV w P a sd) (hm : a.mt < 18446744073709551615) (hsl : a.silent < a.dead) (hse : a.said ≤ a.every) (hd0 : sd = false) (h1 : a.state ≠ 0) (h2 : ¬ a.dead ≤ a.silent + 1) :
    Calls Try.prog 20 #[.pointer (some ⟨P, 0, none⟩)] w (RadTicked P w ({ a with said := rsaid a sd } : Ad).rest) := by
  obtain ⟨⟨c0, c1, c2⟩, c3, _, _, c9, c10, c11, hf⟩ := h.cells
  have f9 := hf 9
  have f10 := hf 10
  have f11 := hf 11
  have HS := Lib.hid h
  have HM := Lib.hid hm
  have he := h.ok.every
  have hd := h.ok.dead
  have hsa := h.ok.said
  have hsi := h.ok.silent
  have hst := h.ok.state
  have HSB := Lib.hid (rsaid_bd (sd := sd) h.ok hse)
  have HSO : Hid (AdOk { a with said := rsaid a sd }) := Ad.said_ok h.ok ⟨by have := HSB.out; omega, by have := HSB.out; omega⟩
  subst hd0
  clear hf h c0 hm
  have HRS : Hid (rsaid a false = 1) := by show rsaid a false = 1; unfold rsaid; rw [if_neg (by simp)]
  rw [HRS.out] at HSO ⊢
  have HOK := Lib.hid (Ad.more_ok HSO.out hsl)
  have HR : Hid (({ a with said := 1 } : Ad).rest = ({ a with said := 1, silent := a.silent + 1 }, 0)) := by show Ad.rest _ = _; unfold Ad.rest; rw [if_neg h1, if_neg h2]
  have h1' : (a.state == 0) = false := by simpa using h1
  have h2' : decide (a.silent + 1 < a.dead) = true := by simp; omega
  clear h1 h2
  rw [HR.out]
  go_enter Try.func20, Try.ntmps20
  go_wp2_with fail
  go_quiet (fail)
  go_wp2_with fail
  go_quiet (fail)
  go_wp2_with fail
  go_ret2
  refine ⟨_, rfl, ⟨?_, HOK.out⟩, ?_⟩
  · simp only [heap_put, heap_dr, heap_dn, HS.out.head, Option.map_some, setObj_cells]; simp [radVals]
  · simp only [but_put, but_dr, but_dn]; exact GrowBut.refl _ _

set_option maxRecDepth 20000 in
set_option maxHeartbeats 1000000 in
theorem rtick_late1a {w : World} {P : Nat} {a : Ad} {sd : Bool} (h : RadV w P a sd) (hm : a.mt < 18446744073709551615) (hsl : a.silent < a.dead) (hse : a.said ≤ a.every) (hd0 : sd = false) (h1 : a.state ≠ 0) (h3 : a.state ≠ 2) (h2 : a.dead ≤ a.silent + 1) :
    Calls Try.prog 20 #[.pointer (some ⟨P, 0, none⟩)] w (RadTicked P w ({ a with said := rsaid a sd } : Ad).rest) := by
  obtain ⟨⟨c0, c1, c2⟩, c3, _, _, c9, c10, c11, hf⟩ := h.cells
  have f9 := hf 9
  have f10 := hf 10
  have f11 := hf 11
  have HS := Lib.hid h
  have HM := Lib.hid hm
  have he := h.ok.every
  have hd := h.ok.dead
  have hsa := h.ok.said
  have hsi := h.ok.silent
  have hst := h.ok.state
  have HSB := Lib.hid (rsaid_bd (sd := sd) h.ok hse)
  have HSO : Hid (AdOk { a with said := rsaid a sd }) := Ad.said_ok h.ok ⟨by have := HSB.out; omega, by have := HSB.out; omega⟩
  subst hd0
  clear hf h c0 hm
  have HRS : Hid (rsaid a false = 1) := by show rsaid a false = 1; unfold rsaid; rw [if_neg (by simp)]
  rw [HRS.out] at HSO ⊢
  have HOK := Lib.hid (Ad.more_ok HSO.out hsl)
  have HR : Hid (({ a with said := 1 } : Ad).rest = (({ a with said := 1, silent := a.silent + 1 } : Ad).anew, a.lost)) := by show Ad.rest _ = _; unfold Ad.rest; rw [if_neg h1, if_pos h2]; rfl
  have h1' : (a.state == 0) = false := by simpa using h1
  have h2' : decide (a.silent + 1 < a.dead) = false := by simp; omega
  have HLO : Hid (a.lost = 0) := by show a.lost = _; unfold Ad.lost; rw [if_neg h3]
  have h3' : (a.state == 2) = false := by simpa using h3
  clear h1 h2 h3
  rw [HR.out]
  go_enter Try.func20, Try.ntmps20
  go_wp2_with fail
  go_quiet (fail)
  go_wp2_with fail
  go_quiet (fail)
  go_wp2_with fail
  refine (ranew_any (a := { a with said := 1, silent := a.silent + 1 }) (sd := true) ⟨by simp only [heap_put, heap_dr, heap_dn, HS.out.head, Option.map_some, setObj_cells]; simp [radVals], HOK.out⟩ HM.out).mono ?_
  rintro e w2 ⟨rfl, ha, hg⟩
  have HA := Lib.hid ha
  have HG : Hid (GrowBut (One P) w w2) := by
    refine GrowBut.trans ?_ hg
    simp only [but_put, but_dr, but_dn]; exact GrowBut.refl _ _
  clear ha hg
  go_wp2_with fail
  go_ret2
  exact ⟨_, by rw [HLO.out]; rfl, HA.out, HG.out⟩

set_option maxRecDepth 20000 in
set_option maxHeartbeats 1000000 in
theorem rtick_late2a {w : World} {P : Nat} {a : Ad} {sd : Bool} (h : RadV w P a sd) (hm : a.mt < 18446744073709551615) (hsl : a.silent < a.dead) (hse : a.said ≤ a.every) (hd0 : sd = false) (h3 : a.state = 2) (h2 : a.dead ≤ a.silent + 1) :
    Calls Try.prog 20 #[.pointer (some ⟨P, 0, none⟩)] w (RadTicked P w ({ a with said := rsaid a sd } : Ad).rest) := by
  obtain ⟨⟨c0, c1, c2⟩, c3, _, _, c9, c10, c11, hf⟩ := h.cells
  have f9 := hf 9
  have f10 := hf 10
  have f11 := hf 11
  have HS := Lib.hid h
  have HM := Lib.hid hm
  have he := h.ok.every
  have hd := h.ok.dead
  have hsa := h.ok.said
  have hsi := h.ok.silent
  have hst := h.ok.state
  have HSB := Lib.hid (rsaid_bd (sd := sd) h.ok hse)
  have HSO : Hid (AdOk { a with said := rsaid a sd }) := Ad.said_ok h.ok ⟨by have := HSB.out; omega, by have := HSB.out; omega⟩
  subst hd0
  clear hf h c0 hm
  have HRS : Hid (rsaid a false = 1) := by show rsaid a false = 1; unfold rsaid; rw [if_neg (by simp)]
  rw [HRS.out] at HSO ⊢
  have h1 : a.state ≠ 0 := by omega
  have HOK := Lib.hid (Ad.more_ok HSO.out hsl)
  have HR : Hid (({ a with said := 1 } : Ad).rest = (({ a with said := 1, silent := a.silent + 1 } : Ad).anew, a.lost)) := by show Ad.rest _ = _; unfold Ad.rest; rw [if_neg h1, if_pos h2]; rfl
  have h1' : (a.state == 0) = false := by simpa using h1
  have h2' : decide (a.silent + 1 < a.dead) = false := by simp; omega
  have HLO : Hid (a.lost = 2) := by show a.lost = _; unfold Ad.lost; rw [if_pos h3]
  have h3' : (a.state == 2) = true := by simpa using h3
  clear h1 h2 h3
  rw [HR.out]
  go_enter Try.func20, Try.ntmps20
  go_wp2_with fail
  go_quiet (fail)
  go_wp2_with fail
  go_quiet (fail)
  go_wp2_with fail
  refine (ranew_any (a := { a with said := 1, silent := a.silent + 1 }) (sd := true) ⟨by simp only [heap_put, heap_dr, heap_dn, HS.out.head, Option.map_some, setObj_cells]; simp [radVals], HOK.out⟩ HM.out).mono ?_
  rintro e w2 ⟨rfl, ha, hg⟩
  have HA := Lib.hid ha
  have HG : Hid (GrowBut (One P) w w2) := by
    refine GrowBut.trans ?_ hg
    simp only [but_put, but_dr, but_dn]; exact GrowBut.refl _ _
  clear ha hg
  go_wp2_with fail
  go_ret2
  exact ⟨_, by rw [HLO.out]; rfl, HA.out, HG.out⟩

set_option maxRecDepth 20000 in
set_option maxHeartbeats 1000000 in
theorem rtick_downb {w : World} {P : Nat} {a : Ad} {sd : Bool} (h : RadV w P a sd) (hm : a.mt < 18446744073709551615) (hsl : a.silent < a.dead) (hse : a.said ≤ a.every) (hd0 : sd = true) (hd1 : a.said = a.every) (h1 : a.state = 0) :
    Calls Try.prog 20 #[.pointer (some ⟨P, 0, none⟩)] w (RadTicked P w ({ a with said := rsaid a sd } : Ad).rest) := by
  obtain ⟨⟨c0, c1, c2⟩, c3, _, _, c9, c10, c11, hf⟩ := h.cells
  have f9 := hf 9
  have f10 := hf 10
  have f11 := hf 11
  have HS := Lib.hid h
  have HM := Lib.hid hm
  have he := h.ok.every
  have hd := h.ok.dead
  have hsa := h.ok.said
  have hsi := h.ok.silent
  have hst := h.ok.state
  have HSB := Lib.hid (rsaid_bd (sd := sd) h.ok hse)
  have HSO : Hid (AdOk { a with said := rsaid a sd }) := Ad.said_ok h.ok ⟨by have := HSB.out; omega, by have := HSB.out; omega⟩
  subst hd0
  clear hf h c0 hm
  have HRS : Hid (rsaid a true = 1) := by show rsaid a true = 1; unfold rsaid; rw [if_neg (by simp [hd1])]
  rw [hd1] at c9
  clear hd1
  rw [HRS.out] at HSO ⊢
  have HR : Hid (({ a with said := 1 } : Ad).rest = (({ a with said := 1 } : Ad), 0)) := by show Ad.rest _ = _; unfold Ad.rest; rw [if_pos h1]
  rw [h1] at c3
  clear h1
  rw [HR.out]
  go_enter Try.func20, Try.ntmps20
  go_wp2_with fail
  go_quiet (fail)
  go_wp2_with fail
  go_ret2
  refine ⟨_, rfl, ⟨?_, HSO.out⟩, ?_⟩
  · simp only [heap_put, heap_dr, heap_dn, HS.out.head, Option.map_some, setObj_cells]; simp [radVals]
  · simp only [but_put, but_dr, but_dn]; exact GrowBut.refl _ _

set_option maxRecDepth 20000 in
set_option maxHeartbeats 1000000 in
theorem rtick_quietb {w : World} {P : Nat} {a : Ad} {sd : Bool} (h : RadV w P a sd) (hm : a.mt < 18446744073709551615) (hsl : a.silent < a.dead) (hse : a.said ≤ a.every) (hd0 : sd = true) (hd1 : a.said = a.every) (h1 : a.state ≠ 0) (h2 : ¬ a.dead ≤ a.silent + 1) :
    Calls Try.prog 20 #[.pointer (some ⟨P, 0, none⟩)] w (RadTicked P w ({ a with said := rsaid a sd } : Ad).rest) := by
  obtain ⟨⟨c0, c1, c2⟩, c3, _, _, c9, c10, c11, hf⟩ := h.cells
  have f9 := hf 9
  have f10 := hf 10
  have f11 := hf 11
  have HS := Lib.hid h
  have HM := Lib.hid hm
  have he := h.ok.every
  have hd := h.ok.dead
  have hsa := h.ok.said
  have hsi := h.ok.silent
  have hst := h.ok.state
  have HSB := Lib.hid (rsaid_bd (sd := sd) h.ok hse)
  have HSO : Hid (AdOk { a with said := rsaid a sd }) := Ad.said_ok h.ok ⟨by have := HSB.out; omega, by have := HSB.out; omega⟩
  subst hd0
  clear hf h c0 hm
  have HRS : Hid (rsaid a true = 1) := by show rsaid a true = 1; unfold rsaid; rw [if_neg (by simp [hd1])]
  rw [hd1] at c9
  clear hd1
  rw [HRS.out] at HSO ⊢
  have HOK := Lib.hid (Ad.more_ok HSO.out hsl)
  have HR : Hid (({ a with said := 1 } : Ad).rest = ({ a with said := 1, silent := a.silent + 1 }, 0)) := by show Ad.rest _ = _; unfold Ad.rest; rw [if_neg h1, if_neg h2]
  have h1' : (a.state == 0) = false := by simpa using h1
  have h2' : decide (a.silent + 1 < a.dead) = true := by simp; omega
  clear h1 h2
  rw [HR.out]
  go_enter Try.func20, Try.ntmps20
  go_wp2_with fail
  go_quiet (fail)
  go_wp2_with fail
  go_quiet (fail)
  go_wp2_with fail
  go_ret2
  refine ⟨_, rfl, ⟨?_, HOK.out⟩, ?_⟩
  · simp only [heap_put, heap_dr, heap_dn, HS.out.head, Option.map_some, setObj_cells]; simp [radVals]
  · simp only [but_put, but_dr, but_dn]; exact GrowBut.refl _ _

set_option maxRecDepth 20000 in
set_option maxHeartbeats 1000000 in
theorem rtick_late1b {w : World} {P : Nat} {a : Ad} {sd : Bool} (h : RadV w P a sd) (hm : a.mt < 18446744073709551615) (hsl : a.silent < a.dead) (hse : a.said ≤ a.every) (hd0 : sd = true) (hd1 : a.said = a.every) (h1 : a.state ≠ 0) (h3 : a.state ≠ 2) (h2 : a.dead ≤ a.silent + 1) :
    Calls Try.prog 20 #[.pointer (some ⟨P, 0, none⟩)] w (RadTicked P w ({ a with said := rsaid a sd } : Ad).rest) := by
  obtain ⟨⟨c0, c1, c2⟩, c3, _, _, c9, c10, c11, hf⟩ := h.cells
  have f9 := hf 9
  have f10 := hf 10
  have f11 := hf 11
  have HS := Lib.hid h
  have HM := Lib.hid hm
  have he := h.ok.every
  have hd := h.ok.dead
  have hsa := h.ok.said
  have hsi := h.ok.silent
  have hst := h.ok.state
  have HSB := Lib.hid (rsaid_bd (sd := sd) h.ok hse)
  have HSO : Hid (AdOk { a with said := rsaid a sd }) := Ad.said_ok h.ok ⟨by have := HSB.out; omega, by have := HSB.out; omega⟩
  subst hd0
  clear hf h c0 hm
  have HRS : Hid (rsaid a true = 1) := by show rsaid a true = 1; unfold rsaid; rw [if_neg (by simp [hd1])]
  rw [hd1] at c9
  clear hd1
  rw [HRS.out] at HSO ⊢
  have HOK := Lib.hid (Ad.more_ok HSO.out hsl)
  have HR : Hid (({ a with said := 1 } : Ad).rest = (({ a with said := 1, silent := a.silent + 1 } : Ad).anew, a.lost)) := by show Ad.rest _ = _; unfold Ad.rest; rw [if_neg h1, if_pos h2]; rfl
  have h1' : (a.state == 0) = false := by simpa using h1
  have h2' : decide (a.silent + 1 < a.dead) = false := by simp; omega
  have HLO : Hid (a.lost = 0) := by show a.lost = _; unfold Ad.lost; rw [if_neg h3]
  have h3' : (a.state == 2) = false := by simpa using h3
  clear h1 h2 h3
  rw [HR.out]
  go_enter Try.func20, Try.ntmps20
  go_wp2_with fail
  go_quiet (fail)
  go_wp2_with fail
  go_quiet (fail)
  go_wp2_with fail
  refine (ranew_any (a := { a with said := 1, silent := a.silent + 1 }) (sd := true) ⟨by simp only [heap_put, heap_dr, heap_dn, HS.out.head, Option.map_some, setObj_cells]; simp [radVals], HOK.out⟩ HM.out).mono ?_
  rintro e w2 ⟨rfl, ha, hg⟩
  have HA := Lib.hid ha
  have HG : Hid (GrowBut (One P) w w2) := by
    refine GrowBut.trans ?_ hg
    simp only [but_put, but_dr, but_dn]; exact GrowBut.refl _ _
  clear ha hg
  go_wp2_with fail
  go_ret2
  exact ⟨_, by rw [HLO.out]; rfl, HA.out, HG.out⟩

set_option maxRecDepth 20000 in
set_option maxHeartbeats 1000000 in
theorem rtick_late2b {w : World} {P : Nat} {a : Ad} {sd : Bool} (h : RadV w P a sd) (hm : a.mt < 18446744073709551615) (hsl : a.silent < a.dead) (hse : a.said ≤ a.every) (hd0 : sd = true) (hd1 : a.said = a.every) (h3 : a.state = 2) (h2 : a.dead ≤ a.silent + 1) :
    Calls Try.prog 20 #[.pointer (some ⟨P, 0, none⟩)] w (RadTicked P w ({ a with said := rsaid a sd } : Ad).rest) := by
  obtain ⟨⟨c0, c1, c2⟩, c3, _, _, c9, c10, c11, hf⟩ := h.cells
  have f9 := hf 9
  have f10 := hf 10
  have f11 := hf 11
  have HS := Lib.hid h
  have HM := Lib.hid hm
  have he := h.ok.every
  have hd := h.ok.dead
  have hsa := h.ok.said
  have hsi := h.ok.silent
  have hst := h.ok.state
  have HSB := Lib.hid (rsaid_bd (sd := sd) h.ok hse)
  have HSO : Hid (AdOk { a with said := rsaid a sd }) := Ad.said_ok h.ok ⟨by have := HSB.out; omega, by have := HSB.out; omega⟩
  subst hd0
  clear hf h c0 hm
  have HRS : Hid (rsaid a true = 1) := by show rsaid a true = 1; unfold rsaid; rw [if_neg (by simp [hd1])]
  rw [hd1] at c9
  clear hd1
  rw [HRS.out] at HSO ⊢
  have h1 : a.state ≠ 0 := by omega
  have HOK := Lib.hid (Ad.more_ok HSO.out hsl)
  have HR : Hid (({ a with said := 1 } : Ad).rest = (({ a with said := 1, silent := a.silent + 1 } : Ad).anew, a.lost)) := by show Ad.rest _ = _; unfold Ad.rest; rw [if_neg h1, if_pos h2]; rfl
  have h1' : (a.state == 0) = false := by simpa using h1
  have h2' : decide (a.silent + 1 < a.dead) = false := by simp; omega
  have HLO : Hid (a.lost = 2) := by show a.lost = _; unfold Ad.lost; rw [if_pos h3]
  have h3' : (a.state == 2) = true := by simpa using h3
  clear h1 h2 h3
  rw [HR.out]
  go_enter Try.func20, Try.ntmps20
  go_wp2_with fail
  go_quiet (fail)
  go_wp2_with fail
  go_quiet (fail)
  go_wp2_with fail
  refine (ranew_any (a := { a with said := 1, silent := a.silent + 1 }) (sd := true) ⟨by simp only [heap_put, heap_dr, heap_dn, HS.out.head, Option.map_some, setObj_cells]; simp [radVals], HOK.out⟩ HM.out).mono ?_
  rintro e w2 ⟨rfl, ha, hg⟩
  have HA := Lib.hid ha
  have HG : Hid (GrowBut (One P) w w2) := by
    refine GrowBut.trans ?_ hg
    simp only [but_put, but_dr, but_dn]; exact GrowBut.refl _ _
  clear ha hg
  go_wp2_with fail
  go_ret2
  exact ⟨_, by rw [HLO.out]; rfl, HA.out, HG.out⟩

set_option maxRecDepth 20000 in
set_option maxHeartbeats 1000000 in
theorem rtick_downc {w : World} {P : Nat} {a : Ad} {sd : Bool} (h : RadV w P a sd) (hm : a.mt < 18446744073709551615) (hsl : a.silent < a.dead) (hse : a.said ≤ a.every) (hd0 : sd = true) (hd1 : a.said ≠ a.every) (h1 : a.state = 0) :
    Calls Try.prog 20 #[.pointer (some ⟨P, 0, none⟩)] w (RadTicked P w ({ a with said := rsaid a sd } : Ad).rest) := by
  obtain ⟨⟨c0, c1, c2⟩, c3, _, _, c9, c10, c11, hf⟩ := h.cells
  have f9 := hf 9
  have f10 := hf 10
  have f11 := hf 11
  have HS := Lib.hid h
  have HM := Lib.hid hm
  have he := h.ok.every
  have hd := h.ok.dead
  have hsa := h.ok.said
  have hsi := h.ok.silent
  have hst := h.ok.state
  have HSB := Lib.hid (rsaid_bd (sd := sd) h.ok hse)
  have HSO : Hid (AdOk { a with said := rsaid a sd }) := Ad.said_ok h.ok ⟨by have := HSB.out; omega, by have := HSB.out; omega⟩
  subst hd0
  clear hf h c0 hm
  have HRS : Hid (rsaid a true = a.said + 1) := by show rsaid a true = _; unfold rsaid; rw [if_pos ⟨rfl, hd1⟩]
  have hd2 : (a.said == a.every) = false := by simpa using hd1
  clear hd1
  rw [HRS.out] at HSO ⊢
  have HR : Hid (({ a with said := (a.said + 1) } : Ad).rest = (({ a with said := (a.said + 1) } : Ad), 0)) := by show Ad.rest _ = _; unfold Ad.rest; rw [if_pos h1]
  rw [h1] at c3
  clear h1
  rw [HR.out]
  go_enter Try.func20, Try.ntmps20
  go_wp2_with fail
  go_quiet (fail)
  go_wp2_with fail
  go_ret2
  refine ⟨_, rfl, ⟨?_, HSO.out⟩, ?_⟩
  · simp only [heap_put, heap_dr, heap_dn, HS.out.head, Option.map_some, setObj_cells]; simp [radVals]
  · simp only [but_put, but_dr, but_dn]; exact GrowBut.refl _ _

set_option maxRecDepth 20000 in
set_option maxHeartbeats 1000000 in
theorem rtick_quietc {w : World} {P : Nat} {a : Ad} {sd : Bool} (h : RadV w P a sd) (hm : a.mt < 18446744073709551615) (hsl : a.silent < a.dead) (hse : a.said ≤ a.every) (hd0 : sd = true) (hd1 : a.said ≠ a.every) (h1 : a.state ≠ 0) (h2 : ¬ a.dead ≤ a.silent + 1) :
    Calls Try.prog 20 #[.pointer (some ⟨P, 0, none⟩)] w (RadTicked P w ({ a with said := rsaid a sd } : Ad).rest) := by
  obtain ⟨⟨c0, c1, c2⟩, c3, _, _, c9, c10, c11, hf⟩ := h.cells
  have f9 := hf 9
  have f10 := hf 10
  have f11 := hf 11
  have HS := Lib.hid h
  have HM := Lib.hid hm
  have he := h.ok.every
  have hd := h.ok.dead
  have hsa := h.ok.said
  have hsi := h.ok.silent
  have hst := h.ok.state
  have HSB := Lib.hid (rsaid_bd (sd := sd) h.ok hse)
  have HSO : Hid (AdOk { a with said := rsaid a sd }) := Ad.said_ok h.ok ⟨by have := HSB.out; omega, by have := HSB.out; omega⟩
  subst hd0
  clear hf h c0 hm
  have HRS : Hid (rsaid a true = a.said + 1) := by show rsaid a true = _; unfold rsaid; rw [if_pos ⟨rfl, hd1⟩]
  have hd2 : (a.said == a.every) = false := by simpa using hd1
  clear hd1
  rw [HRS.out] at HSO ⊢
  have HOK := Lib.hid (Ad.more_ok HSO.out hsl)
  have HR : Hid (({ a with said := (a.said + 1) } : Ad).rest = ({ a with said := (a.said + 1), silent := a.silent + 1 }, 0)) := by show Ad.rest _ = _; unfold Ad.rest; rw [if_neg h1, if_neg h2]
  have h1' : (a.state == 0) = false := by simpa using h1
  have h2' : decide (a.silent + 1 < a.dead) = true := by simp; omega
  clear h1 h2
  rw [HR.out]
  go_enter Try.func20, Try.ntmps20
  go_wp2_with fail
  go_quiet (fail)
  go_wp2_with fail
  go_quiet (fail)
  go_wp2_with fail
  go_ret2
  refine ⟨_, rfl, ⟨?_, HOK.out⟩, ?_⟩
  · simp only [heap_put, heap_dr, heap_dn, HS.out.head, Option.map_some, setObj_cells]; simp [radVals]
  · simp only [but_put, but_dr, but_dn]; exact GrowBut.refl _ _

set_option maxRecDepth 20000 in
set_option maxHeartbeats 1000000 in
theorem rtick_late1c {w : World} {P : Nat} {a : Ad} {sd : Bool} (h : RadV w P a sd) (hm : a.mt < 18446744073709551615) (hsl : a.silent < a.dead) (hse : a.said ≤ a.every) (hd0 : sd = true) (hd1 : a.said ≠ a.every) (h1 : a.state ≠ 0) (h3 : a.state ≠ 2) (h2 : a.dead ≤ a.silent + 1) :
    Calls Try.prog 20 #[.pointer (some ⟨P, 0, none⟩)] w (RadTicked P w ({ a with said := rsaid a sd } : Ad).rest) := by
  obtain ⟨⟨c0, c1, c2⟩, c3, _, _, c9, c10, c11, hf⟩ := h.cells
  have f9 := hf 9
  have f10 := hf 10
  have f11 := hf 11
  have HS := Lib.hid h
  have HM := Lib.hid hm
  have he := h.ok.every
  have hd := h.ok.dead
  have hsa := h.ok.said
  have hsi := h.ok.silent
  have hst := h.ok.state
  have HSB := Lib.hid (rsaid_bd (sd := sd) h.ok hse)
  have HSO : Hid (AdOk { a with said := rsaid a sd }) := Ad.said_ok h.ok ⟨by have := HSB.out; omega, by have := HSB.out; omega⟩
  subst hd0
  clear hf h c0 hm
  have HRS : Hid (rsaid a true = a.said + 1) := by show rsaid a true = _; unfold rsaid; rw [if_pos ⟨rfl, hd1⟩]
  have hd2 : (a.said == a.every) = false := by simpa using hd1
  clear hd1
  rw [HRS.out] at HSO ⊢
  have HOK := Lib.hid (Ad.more_ok HSO.out hsl)
  have HR : Hid (({ a with said := (a.said + 1) } : Ad).rest = (({ a with said := (a.said + 1), silent := a.silent + 1 } : Ad).anew, a.lost)) := by show Ad.rest _ = _; unfold Ad.rest; rw [if_neg h1, if_pos h2]; rfl
  have h1' : (a.state == 0) = false := by simpa using h1
  have h2' : decide (a.silent + 1 < a.dead) = false := by simp; omega
  have HLO : Hid (a.lost = 0) := by show a.lost = _; unfold Ad.lost; rw [if_neg h3]
  have h3' : (a.state == 2) = false := by simpa using h3
  clear h1 h2 h3
  rw [HR.out]
  go_enter Try.func20, Try.ntmps20
  go_wp2_with fail
  go_quiet (fail)
  go_wp2_with fail
  go_quiet (fail)
  go_wp2_with fail
  refine (ranew_any (a := { a with said := (a.said + 1), silent := a.silent + 1 }) (sd := true) ⟨by simp only [heap_put, heap_dr, heap_dn, HS.out.head, Option.map_some, setObj_cells]; simp [radVals], HOK.out⟩ HM.out).mono ?_
  rintro e w2 ⟨rfl, ha, hg⟩
  have HA := Lib.hid ha
  have HG : Hid (GrowBut (One P) w w2) := by
    refine GrowBut.trans ?_ hg
    simp only [but_put, but_dr, but_dn]; exact GrowBut.refl _ _
  clear ha hg
  go_wp2_with fail
  go_ret2
  exact ⟨_, by rw [HLO.out]; rfl, HA.out, HG.out⟩

set_option maxRecDepth 20000 in
set_option maxHeartbeats 1000000 in
theorem rtick_late2c {w : World} {P : Nat} {a : Ad} {sd : Bool} (h : RadV w P a sd) (hm : a.mt < 18446744073709551615) (hsl : a.silent < a.dead) (hse : a.said ≤ a.every) (hd0 : sd = true) (hd1 : a.said ≠ a.every) (h3 : a.state = 2) (h2 : a.dead ≤ a.silent + 1) :
    Calls Try.prog 20 #[.pointer (some ⟨P, 0, none⟩)] w (RadTicked P w ({ a with said := rsaid a sd } : Ad).rest) := by
  obtain ⟨⟨c0, c1, c2⟩, c3, _, _, c9, c10, c11, hf⟩ := h.cells
  have f9 := hf 9
  have f10 := hf 10
  have f11 := hf 11
  have HS := Lib.hid h
  have HM := Lib.hid hm
  have he := h.ok.every
  have hd := h.ok.dead
  have hsa := h.ok.said
  have hsi := h.ok.silent
  have hst := h.ok.state
  have HSB := Lib.hid (rsaid_bd (sd := sd) h.ok hse)
  have HSO : Hid (AdOk { a with said := rsaid a sd }) := Ad.said_ok h.ok ⟨by have := HSB.out; omega, by have := HSB.out; omega⟩
  subst hd0
  clear hf h c0 hm
  have HRS : Hid (rsaid a true = a.said + 1) := by show rsaid a true = _; unfold rsaid; rw [if_pos ⟨rfl, hd1⟩]
  have hd2 : (a.said == a.every) = false := by simpa using hd1
  clear hd1
  rw [HRS.out] at HSO ⊢
  have h1 : a.state ≠ 0 := by omega
  have HOK := Lib.hid (Ad.more_ok HSO.out hsl)
  have HR : Hid (({ a with said := (a.said + 1) } : Ad).rest = (({ a with said := (a.said + 1), silent := a.silent + 1 } : Ad).anew, a.lost)) := by show Ad.rest _ = _; unfold Ad.rest; rw [if_neg h1, if_pos h2]; rfl
  have h1' : (a.state == 0) = false := by simpa using h1
  have h2' : decide (a.silent + 1 < a.dead) = false := by simp; omega
  have HLO : Hid (a.lost = 2) := by show a.lost = _; unfold Ad.lost; rw [if_pos h3]
  have h3' : (a.state == 2) = true := by simpa using h3
  clear h1 h2 h3
  rw [HR.out]
  go_enter Try.func20, Try.ntmps20
  go_wp2_with fail
  go_quiet (fail)
  go_wp2_with fail
  go_quiet (fail)
  go_wp2_with fail
  refine (ranew_any (a := { a with said := (a.said + 1), silent := a.silent + 1 }) (sd := true) ⟨by simp only [heap_put, heap_dr, heap_dn, HS.out.head, Option.map_some, setObj_cells]; simp [radVals], HOK.out⟩ HM.out).mono ?_
  rintro e w2 ⟨rfl, ha, hg⟩
  have HA := Lib.hid ha
  have HG : Hid (GrowBut (One P) w w2) := by
    refine GrowBut.trans ?_ hg
    simp only [but_put, but_dr, but_dn]; exact GrowBut.refl _ _
  clear ha hg
  go_wp2_with fail
  go_ret2
  exact ⟨_, by rw [HLO.out]; rfl, HA.out, HG.out⟩

theorem rtick_any {w : World} {P : Nat} {a : Ad} {sd : Bool} (h : RadV w P a sd) (hm : a.mt < 18446744073709551615) (hsl : a.silent < a.dead) (hse : a.said ≤ a.every) :
    Calls Try.prog 20 #[.pointer (some ⟨P, 0, none⟩)] w (RadTicked P w ({ a with said := rsaid a sd } : Ad).rest) := by
  by_cases h1 : a.state = 0
  · by_cases hd0 : sd = false
    · exact rtick_downa h hm hsl hse hd0 h1
    · by_cases hd1 : a.said = a.every
      · exact rtick_downb h hm hsl hse (by simpa using hd0) hd1 h1
      · exact rtick_downc h hm hsl hse (by simpa using hd0) hd1 h1
  by_cases h2 : a.dead ≤ a.silent + 1
  · by_cases h3 : a.state = 2
    · by_cases hd0 : sd = false
      · exact rtick_late2a h hm hsl hse hd0 h3 h2
      · by_cases hd1 : a.said = a.every
        · exact rtick_late2b h hm hsl hse (by simpa using hd0) hd1 h3 h2
        · exact rtick_late2c h hm hsl hse (by simpa using hd0) hd1 h3 h2
    · by_cases hd0 : sd = false
      · exact rtick_late1a h hm hsl hse hd0 h1 h3 h2
      · by_cases hd1 : a.said = a.every
        · exact rtick_late1b h hm hsl hse (by simpa using hd0) hd1 h1 h3 h2
        · exact rtick_late1c h hm hsl hse (by simpa using hd0) hd1 h1 h3 h2
  · by_cases hd0 : sd = false
    · exact rtick_quieta h hm hsl hse hd0 h1 h2
    · by_cases hd1 : a.said = a.every
      · exact rtick_quietb h hm hsl hse (by simpa using hd0) hd1 h1 h2
      · exact rtick_quietc h hm hsl hse (by simpa using hd0) hd1 h1 h2
end Go.Proofs.Ytnpmdiekcdjfaaa
