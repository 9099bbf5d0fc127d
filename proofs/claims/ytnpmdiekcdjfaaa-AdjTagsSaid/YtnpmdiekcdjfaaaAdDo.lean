/- What an act does, by both. -/
import Derived.Test.YtnpmdiekcdjfaaaRHear
import Derived.Test.YtnpmdiekcdjfaaaRHearB
import Derived.Test.YtnpmdiekcdjfaaaRHearC
import Derived.Test.YtnpmdiekcdjfaaaRHearD
import Derived.Test.YtnpmdiekcdjfaaaRTick
set_option linter.unusedVariables false
set_option linter.unusedSimpArgs false
namespace Go.Proofs.Ytnpmdiekcdjfaaa
open Go.RowKit

theorem rhear_any {w : World} {P : Nat} {a : Ad} {sd : Bool} (h : RadV w P a sd) (x : Hl) (hx : HlOk x) (hb : ¬ x.bad) (hm : a.mt < 18446744073709551615) :
    Calls Try.prog 19 #[.pointer (some ⟨P, 0, none⟩), x.val] w (RadAfter P w (.int .i64 (a.hear1 x).2) (a.hear1 x).1 sd) := by
  unfold Ad.hear1
  by_cases h1 : x.node = a.node
  · rw [if_pos h1]; exact rhear_own h x h1
  rw [if_neg h1]
  by_cases h2 : a.state = 0
  · rw [if_pos h2]; exact rhear_down h x hx hb h1 h2
  rw [if_neg h2]
  have hst := h.ok.state
  have hs : a.state = 1 ∨ a.state = 2 := by omega
  by_cases h3 : x.node ≠ a.other
  · rw [if_pos h3]
    rcases hs with hs | hs
    · exact rhear_other1 h x hx hb h1 hs h3 hm
    · exact rhear_other2 h x hx hb h1 hs h3 hm
  rw [if_neg h3]
  have h3' : x.node = a.other := Classical.byContradiction h3
  by_cases h4 : x.mb < a.tb ∨ x.mb = a.tb ∧ x.mt < a.tt
  · rw [if_pos (by unfold elderB; exact decide_eq_true h4)]
    rcases h4 with h4 | ⟨h4, h5⟩
    · exact rhear_elder1 h x hx hb h1 h2 h3' h4
    · exact rhear_elder2 h x hx hb h1 h2 h3' h4 h5
  · rw [if_neg (by unfold elderB; simpa using h4)]
    by_cases h5 : x.mb = a.tb ∧ x.mt = a.tt
    · rw [if_neg (fun hh => hh h5)]
      rcases hs with hs | hs
      · exact rhear_same1 h x hx hb h1 hs h3' h5.1 h5.2
      · exact rhear_same2 h x hx hb h1 hs h3' h5.1 h5.2
    · rw [if_pos h5]
      by_cases h6 : x.mb = a.tb
      · rcases hs with hs | hs
        · exact rhear_new1t h x hx hb h1 hs h3' h6 (by omega)
        · exact rhear_new2t h x hx hb h1 hs h3' h6 (by omega)
      · rcases hs with hs | hs
        · exact rhear_new1b h x hx hb h1 hs h3' (by omega)
        · exact rhear_new2b h x hx hb h1 hs h3' (by omega)

/-- An act in plain words. -/
structure ActA where
  kind : Int
  h : Hl

structure ActAOk (x : ActA) : Prop where
  kind : -9223372036854775808 ≤ x.kind ∧ x.kind ≤ 9223372036854775807
  h : HlOk x.h

def ActA.cells (x : ActA) : Array Value := #[.int .i64 x.kind, .int .i64 x.h.node, .int .u64 x.h.mb, .int .u64 x.h.mt, .int .u64 x.h.hb, .int .u64 x.h.ht]
def ActA.val (x : ActA) : Value := .agg x.cells

/-- What an adjacency is behind an act; what the document's. -/
def Ad.act (a : Ad) (x : ActA) : Ad := if x.kind = 1 then (a.hear x.h).1 else if x.kind = 2 then a.tick.1 else if x.kind = 3 then a.anew else a
def Ad.ract (a : Ad) (sd : Bool) (x : ActA) : Ad := if x.kind = 1 then (a.hear x.h).1 else if x.kind = 2 then ({ a with said := rsaid a sd } : Ad).rest.1 else if x.kind = 3 then a.anew else a
def ractSd (sd : Bool) (x : ActA) : Bool := if x.kind = 2 then true else sd

/-- Both lie in memory; elder memory stands. -/
structure Pair (w0 w : World) (P Q : Nat) (a r : Ad) (sd : Bool) : Prop where
  a : AdV w P a
  r : RadV w Q r sd
  below : Below w0.heap.size w0 w
  hP : w0.heap.size ≤ P
  hQ : w0.heap.size ≤ Q
  ne : P ≠ Q

def POwn (P Q : Nat) : Nat → Prop := fun k => k = P ∨ k = Q

theorem below_but {M : Nat → Prop} {w0 w w' : World} (hb : Below w0.heap.size w0 w) (hw : GrowBut M w w') (hm : ∀ k, M k → w0.heap.size ≤ k) : Below w0.heap.size w0 w' :=
  ⟨hw.os.trans hb.os, hw.tape.trans hb.tape, hw.output.trans hb.output, Nat.le_trans hb.size hw.size, fun k hk => (hw.block k (Nat.lt_of_lt_of_le hk hb.size) (fun h => by have := hm k h; omega)).trans (hb.block k hk)⟩

section
variable {w0 w w' : World} {P Q : Nat} {a r a' r' : Ad} {sd sd' : Bool}
theorem Pair.turnA (h : Pair w0 w P Q a r sd) (hs : AdV w' P a') (hw : GrowBut (One P) w w') : Pair w0 w' P Q a' r sd :=
  ⟨hs, h.r.stay hw (fun e => h.ne e.symm), below_but h.below hw (fun k hk => by unfold One at hk; rw [hk]; exact h.hP), h.hP, h.hQ, h.ne⟩
theorem Pair.turnR (h : Pair w0 w P Q a r sd) (hs : RadV w' Q r' sd') (hw : GrowBut (One Q) w w') : Pair w0 w' P Q a r' sd' :=
  ⟨h.a.stay hw (fun e => h.ne e), hs, below_but h.below hw (fun k hk => by unfold One at hk; rw [hk]; exact h.hQ), h.hP, h.hQ, h.ne⟩
theorem Pair.grow (h : Pair w0 w P Q a r sd) (hw : Grow w w') : Pair w0 w' P Q a r sd :=
  ⟨h.a.stay (M := NoBlock) (GrowBut.of_below hw) (fun h => h), h.r.stay (M := NoBlock) (GrowBut.of_below hw) (fun h => h), h.below.trans (Below.mono hw h.below.size), h.hP, h.hQ, h.ne⟩
theorem Pair.alloc (h : Pair w0 w P Q a r sd) (o : Obj) : Pair w0 (w.alloc o) P Q a r sd := h.grow ((Grow.refl w).alloc o)
theorem Pair.noteP (h : Pair w0 w P Q a r sd) : ¬ One P w.heap.size := fun e => by have := h.a.ltP; unfold One at e; omega
theorem Pair.noteQ (h : Pair w0 w P Q a r sd) : ¬ One Q w.heap.size := fun e => by have := h.r.ltP; unfold One at e; omega
end

theorem growP {w w' : World} {P Q : Nat} (h : GrowBut (One P) w w') : GrowBut (POwn P Q) w w' := h.weaken fun _ h => Or.inl h
theorem growQ {w w' : World} {P Q : Nat} (h : GrowBut (One Q) w w') : GrowBut (POwn P Q) w w' := h.weaken fun _ h => Or.inr h

/-- An act in a box stays. -/
theorem acta_cells {M : Nat → Prop} {w1 w2 : World} {B : Nat} {x : ActA} (h1 : w1.heap[B]? = some (.cells x.cells 37 (0, 0))) (hg : GrowBut M w1 w2) (hm : ¬ M B) :
    w2.cell? ⟨B, 1, none⟩ = some (.int .i64 x.h.node) ∧ w2.cell? ⟨B, 2, none⟩ = some (.int .u64 x.h.mb) ∧ w2.cell? ⟨B, 3, none⟩ = some (.int .u64 x.h.mt) ∧ w2.cell? ⟨B, 4, none⟩ = some (.int .u64 x.h.hb) ∧ w2.cell? ⟨B, 5, none⟩ = some (.int .u64 x.h.ht) := by
  have e := (hg.block B (lt_of_block h1) hm).trans h1
  refine ⟨?_, ?_, ?_, ?_, ?_⟩ <;> simp [World.cell?, e, ActA.cells]

def DoneA (w0 : World) (P Q : Nat) (a r : Ad) (sd : Bool) (w : World) (e : Ending) (w' : World) : Prop :=
  ∃ b : Bool, e = .returned (.bool b) ∧ Pair w0 w' P Q a r sd ∧ GrowBut (POwn P Q) w w'

theorem do_other {w0 w : World} {P Q : Nat} {a r : Ad} {sd : Bool} (h : Pair w0 w P Q a r sd) (x : ActA) (h1 : x.kind ≠ 1) (h2 : x.kind ≠ 2) (h3 : x.kind ≠ 3) :
    Calls Try.prog 10 #[.pointer (some ⟨P, 0, none⟩), .pointer (some ⟨Q, 0, none⟩), x.val] w (DoneA w0 P Q a r sd w) := by
  obtain ⟨kd, n, b, t, hb, ht⟩ := x
  simp only [ActA.val, ActA.cells]
  dsimp only at h1 h2 h3
  have HB := Lib.hid h
  have e1 : (kd == 1) = false := by simpa using h1
  have e2 : (kd == 2) = false := by simpa using h2
  have e3 : (kd == 3) = false := by simpa using h3
  clear h h1 h2 h3
  go_enter Try.func10, Try.ntmps10
  go_wp2_with fail
  go_ret
  exact ⟨_, rfl, HB.out.alloc _, (GrowBut.refl _ _).alloc _⟩

theorem do_drop {w0 w : World} {P Q : Nat} {a r : Ad} {sd : Bool} (h : Pair w0 w P Q a r sd) (x : ActA) (h3 : x.kind = 3) (hm : a.mt < 18446744073709551615) (hm2 : r.mt < 18446744073709551615) :
    Calls Try.prog 10 #[.pointer (some ⟨P, 0, none⟩), .pointer (some ⟨Q, 0, none⟩), x.val] w (DoneA w0 P Q a.anew r.anew sd w) := by
  obtain ⟨kd, n, b, t, hb, ht⟩ := x
  dsimp only at h3
  subst h3
  simp only [ActA.val, ActA.cells]
  have HB := Lib.hid h
  have HM := Lib.hid hm
  have HM2 := Lib.hid hm2
  clear h hm hm2
  go_enter Try.func10, Try.ntmps10
  go_wp2_with fail
  refine (drop_any (HB.out.alloc _).a HM.out).mono ?_
  rintro e w2 ⟨rfl, hs, hg⟩
  have HB2 := Lib.hid ((HB.out.alloc _).turnA hs hg)
  have HG2 : Hid (GrowBut (POwn P Q) w w2) := ((GrowBut.refl _ _).alloc _).trans (growP hg)
  clear hs hg HB
  go_wp2_with fail
  refine (rdrop_any HB2.out.r HM2.out).mono ?_
  rintro e w3 ⟨rfl, hs, hg⟩
  have HB3 := Lib.hid (HB2.out.turnR hs hg)
  have HG3 : Hid (GrowBut (POwn P Q) w w3) := HG2.out.trans (growQ hg)
  clear hs hg HB2
  go_wp2_with fail
  go_ret
  exact ⟨_, rfl, HB3.out, HG3.out⟩

theorem do_tick {w0 w : World} {P Q : Nat} {a r : Ad} {sd : Bool} (h : Pair w0 w P Q a r sd) (x : ActA) (h2 : x.kind = 2) (hm : a.mt < 18446744073709551615) (hm2 : r.mt < 18446744073709551615) (hs1 : a.silent < a.dead) (hs2 : r.silent < r.dead) (hse : r.said ≤ r.every) :
    Calls Try.prog 10 #[.pointer (some ⟨P, 0, none⟩), .pointer (some ⟨Q, 0, none⟩), x.val] w (DoneA w0 P Q a.tick.1 ({ r with said := rsaid r sd } : Ad).rest.1 true w) := by
  obtain ⟨kd, n, b, t, hb, ht⟩ := x
  dsimp only at h2
  subst h2
  simp only [ActA.val, ActA.cells]
  have HB := Lib.hid h
  have HM := Lib.hid hm
  have HM2 : Hid (r.mt < 18446744073709551615 ∧ a.silent < a.dead ∧ r.silent < r.dead ∧ r.said ≤ r.every) := ⟨hm2, hs1, hs2, hse⟩
  clear h hm hm2 hs1 hs2 hse
  go_enter Try.func10, Try.ntmps10
  go_wp2_with fail
  refine (tick_any (HB.out.alloc _).a HM.out HM2.out.2.1).mono ?_
  rintro e w2 ⟨rfl, hs, hg⟩
  have HB2 := Lib.hid ((HB.out.alloc _).turnA hs hg)
  have HG2 : Hid (GrowBut (POwn P Q) w w2) := ((GrowBut.refl _ _).alloc _).trans (growP hg)
  clear hs hg HB
  generalize a.tick.2 = e1 at *
  generalize decide (a.said = 0) = d1 at *
  go_wp2_with fail
  refine (rtick_any HB2.out.r HM2.out.1 HM2.out.2.2.1 HM2.out.2.2.2).mono ?_
  rintro e w3 ⟨due, rfl, hs, hg⟩
  have HB3 := Lib.hid (HB2.out.turnR hs hg)
  have HG3 : Hid (GrowBut (POwn P Q) w w3) := HG2.out.trans (growQ hg)
  clear hs hg HB2
  generalize ({ r with said := rsaid r sd } : Ad).rest.2 = e2 at *
  by_cases he : e1 = e2
  · subst he
    go_wp2_with fail
    go_ret
    exact ⟨_, rfl, HB3.out, HG3.out⟩
  · have he' : (e1 == e2) = false := by simpa using he
    clear he
    go_wp2_with fail
    go_ret
    exact ⟨_, rfl, HB3.out, HG3.out⟩

theorem do_hear_bad {w0 w : World} {P Q : Nat} {a r : Ad} {sd : Bool} (h : Pair w0 w P Q a r sd) (x : ActA) (hx : ActAOk x) (h1 : x.kind = 1) (hb : x.h.bad) :
    Calls Try.prog 10 #[.pointer (some ⟨P, 0, none⟩), .pointer (some ⟨Q, 0, none⟩), x.val] w (DoneA w0 P Q a r sd w) := by
  have HX := Lib.hid hx.h
  have HBD := Lib.hid hb
  have HMAY : Hid (decide (¬ x.h.bad) = false) := by show decide _ = false; exact decide_eq_false (fun hh => hh hb)
  obtain ⟨kd, n, b, t, hb', ht⟩ := x
  dsimp only at h1 HX HBD HMAY
  subst h1
  simp only [ActA.val, ActA.cells]
  have HB := Lib.hid h
  have HNE := Lib.hid h.noteP
  clear h hx hb
  go_enter Try.func10, Try.ntmps10
  go_wp2_with fail
  refine (hear_bad (HB.out.alloc _).a ⟨n, b, t, hb', ht⟩ HX.out HBD.out).mono ?_
  rintro e w2 ⟨rfl, hs, hg⟩
  have HB2 := Lib.hid ((HB.out.alloc _).turnA hs hg)
  have HG2 : Hid (GrowBut (POwn P Q) w w2) := ((GrowBut.refl _ _).alloc _).trans (growP hg)
  obtain ⟨b1, b2, b3, b4, b5⟩ := acta_cells (x := ⟨1, n, b, t, hb', ht⟩) (heap_alloc_new w _) hg HNE.out
  dsimp only at b1 b2 b3 b4 b5
  clear hs hg HB
  go_wp2_with fail
  have hmay := rmay_any ⟨n, b, t, hb', ht⟩ w2
  rw [HMAY.out] at hmay
  refine hmay.mono ?_
  rintro e w3 ⟨rfl, hg⟩
  have HB3 := Lib.hid (HB2.out.grow hg)
  have HG3 : Hid (GrowBut (POwn P Q) w w3) := HG2.out.trans (GrowBut.of_below hg)
  clear hg HB2 b1 b2 b3 b4 b5
  go_wp2_with fail
  go_ret
  exact ⟨_, rfl, HB3.out, HG3.out⟩

theorem do_hear {w0 w : World} {P Q : Nat} {a r : Ad} {sd : Bool} (h : Pair w0 w P Q a r sd) (x : ActA) (hx : ActAOk x) (h1 : x.kind = 1) (hb : ¬ x.h.bad) (hm : a.mt < 18446744073709551615) (hm2 : r.mt < 18446744073709551615) :
    Calls Try.prog 10 #[.pointer (some ⟨P, 0, none⟩), .pointer (some ⟨Q, 0, none⟩), x.val] w (DoneA w0 P Q (a.hear1 x.h).1 (r.hear1 x.h).1 sd w) := by
  have HX := Lib.hid hx.h
  have HBD := Lib.hid hb
  have HMAY : Hid (decide (¬ x.h.bad) = true) := by show decide _ = true; exact decide_eq_true hb
  obtain ⟨kd, n, b, t, hb', ht⟩ := x
  dsimp only at h1 HX HBD HMAY
  subst h1
  simp only [ActA.val, ActA.cells]
  have HB := Lib.hid h
  have HNE := Lib.hid h.noteP
  have HM : Hid (a.mt < 18446744073709551615 ∧ r.mt < 18446744073709551615) := ⟨hm, hm2⟩
  clear h hx hb hm hm2
  obtain ⟨A, hA⟩ : ∃ A, a.hear1 ⟨n, b, t, hb', ht⟩ = A := ⟨_, rfl⟩
  obtain ⟨Rr, hR⟩ : ∃ A, r.hear1 ⟨n, b, t, hb', ht⟩ = A := ⟨_, rfl⟩
  rw [hA, hR]
  have HA := Lib.hid hA
  have HR := Lib.hid hR
  clear hA hR
  obtain ⟨A1, A2⟩ := A
  obtain ⟨R1, R2⟩ := Rr
  go_enter Try.func10, Try.ntmps10
  go_wp2_with fail
  have hh := fun o => hear_ok (HB.out.alloc o).a ⟨n, b, t, hb', ht⟩ HX.out HBD.out HM.out.1
  rw [HA.out] at hh
  refine (hh _).mono ?_
  clear hh
  rintro e w2 ⟨rfl, hs, hg⟩
  have HB2 := Lib.hid ((HB.out.alloc _).turnA hs hg)
  have HG2 : Hid (GrowBut (POwn P Q) w w2) := ((GrowBut.refl _ _).alloc _).trans (growP hg)
  obtain ⟨b1, b2, b3, b4, b5⟩ := acta_cells (x := ⟨1, n, b, t, hb', ht⟩) (heap_alloc_new w _) hg HNE.out
  dsimp only at b1 b2 b3 b4 b5
  have HBX : Hid (w2.heap[w.heap.size]? = some (.cells (ActA.cells ⟨1, n, b, t, hb', ht⟩) 37 (0, 0))) := (hg.block _ (by simp) HNE.out).trans (heap_alloc_new w _)
  clear hs hg HB
  go_wp2_with fail
  have hmay := rmay_any ⟨n, b, t, hb', ht⟩ w2
  rw [HMAY.out] at hmay
  refine hmay.mono ?_
  rintro e w3 ⟨rfl, hg⟩
  have HB3 := Lib.hid (HB2.out.grow hg)
  have HG3 : Hid (GrowBut (POwn P Q) w w3) := HG2.out.trans (GrowBut.of_below hg)
  obtain ⟨d1, d2, d3, d4, d5⟩ := acta_cells (x := ⟨1, n, b, t, hb', ht⟩) HBX.out (GrowBut.of_below (M := NoBlock) hg) (fun h => h)
  dsimp only at d1 d2 d3 d4 d5
  clear hg hmay HB2 b1 b2 b3 b4 b5
  go_wp2_with fail
  have hh := rhear_any HB3.out.r ⟨n, b, t, hb', ht⟩ HX.out HBD.out HM.out.2
  rw [HR.out] at hh
  refine hh.mono ?_
  clear hh
  rintro e w4 ⟨rfl, hs, hg⟩
  have HB4 := Lib.hid (HB3.out.turnR hs hg)
  have HG4 : Hid (GrowBut (POwn P Q) w w4) := HG3.out.trans (growQ hg)
  clear hs hg HB3 d1 d2 d3 d4 d5
  go_wp2_with fail
  go_ret
  exact ⟨_, rfl, HB4.out, HG4.out⟩

theorem do_any {w0 w : World} {P Q : Nat} {a r : Ad} {sd : Bool} (h : Pair w0 w P Q a r sd) (x : ActA) (hx : ActAOk x) (hm : a.mt < 18446744073709551615) (hm2 : r.mt < 18446744073709551615) (hs1 : a.silent < a.dead) (hs2 : r.silent < r.dead) (hse : r.said ≤ r.every) :
    Calls Try.prog 10 #[.pointer (some ⟨P, 0, none⟩), .pointer (some ⟨Q, 0, none⟩), x.val] w (DoneA w0 P Q (a.act x) (r.ract sd x) (ractSd sd x) w) := by
  unfold Ad.act Ad.ract ractSd
  by_cases h1 : x.kind = 1
  · rw [if_pos h1, if_pos h1, if_neg (by omega)]
    unfold Ad.hear
    by_cases hb : x.h.bad
    · rw [if_pos hb, if_pos hb]; exact do_hear_bad h x hx h1 hb
    · rw [if_neg hb, if_neg hb]; exact do_hear h x hx h1 hb hm hm2
  rw [if_neg h1, if_neg h1]
  by_cases h2 : x.kind = 2
  · rw [if_pos h2, if_pos h2, if_pos h2]; exact do_tick h x h2 hm hm2 hs1 hs2 hse
  rw [if_neg h2, if_neg h2, if_neg h2]
  by_cases h3 : x.kind = 3
  · rw [if_pos h3, if_pos h3]; exact do_drop h x h3 hm hm2
  rw [if_neg h3, if_neg h3]
  exact do_other h x h1 h2 h3
end Go.Proofs.Ytnpmdiekcdjfaaa
