/- What an act does, by both. -/
import Derived.Test.YteakedikmaobfaaStRef3
import Derived.Test.YteakedikmaobfaaStSame
set_option linter.unusedVariables false
namespace Go.Proofs.Yteakedikmaobfaa
open Go.RowKit

/-- An act in plain words; its bytes as a value, too. -/
structure ActP where
  kind : Int
  at' : Int
  n : Int
  by' : Int
  un : Bool
  v : Value
  zs : List Int

structure ActOk (w : World) (x : ActP) : Prop where
  kind : -9223372036854775808 ≤ x.kind ∧ x.kind ≤ 9223372036854775807
  at' : -9223372036854775808 ≤ x.at' ∧ x.at' ≤ 9223372036854775807
  n : -9223372036854775808 ≤ x.n ∧ x.n ≤ 9223372036854775807
  by' : 0 ≤ x.by' ∧ x.by' < 256
  bytes : BytesV w x.v x.zs

def ActP.cells (x : ActP) : Array Value := #[.int .i64 x.kind, .int .i64 x.at', .int .i64 x.n, .int .u8 x.by', .bool x.un, x.v]
def ActP.val (x : ActP) : Value := .agg x.cells

/-- What a store is behind an act. -/
def doSt (st : St) (x : ActP) : St :=
  if x.kind = 1 then (if wrongOf st x.at' x.zs.length = 0 then wrote st x.at'.toNat x.zs else st)
  else if x.kind = 3 then { st with fuse := max x.n (-1), tb := x.by', tu := x.un }
  else if x.kind = 4 then { st with dead := false, fuse := -1 }
  else if x.kind = 5 then (if 0 ≤ x.at' ∧ x.at' < st.cells.length then { st with cells := st.cells.set x.at'.toNat (x.by', x.un) } else st)
  else st

/-- A store and the document's one; elder memory stands. -/
structure Both (w0 w : World) (P g : Nat) (R : RAt) (st s2 : St) : Prop where
  s : StoreV w P g st
  r : RefV w R s2
  below : Below w0.heap.size w0 w
  hP : w0.heap.size ≤ P
  hg : w0.heap.size ≤ g
  hp : w0.heap.size ≤ R.p
  hb : w0.heap.size ≤ R.b
  hu : w0.heap.size ≤ R.u
  ap : (P ≠ R.p ∧ P ≠ R.b ∧ P ≠ R.u) ∧ g ≠ R.p ∧ g ≠ R.b ∧ g ≠ R.u

theorem below_but {M : Nat → Prop} {w0 w w' : World} (hb : Below w0.heap.size w0 w) (hw : GrowBut M w w') (hm : ∀ k, M k → w0.heap.size ≤ k) : Below w0.heap.size w0 w' :=
  ⟨hw.os.trans hb.os, hw.tape.trans hb.tape, hw.output.trans hb.output, Nat.le_trans hb.size hw.size, fun k hk => (hw.block k (Nat.lt_of_lt_of_le hk hb.size) (fun h => by have := hm k h; omega)).trans (hb.block k hk)⟩

def BOwn (P g : Nat) (R : RAt) : Nat → Prop := fun k => Own P g k ∨ ROwn R k

section
variable {w0 w w' : World} {P g : Nat} {R : RAt} {st s2 s' : St}
theorem Both.turnS (h : Both w0 w P g R st s2) (hs : StoreV w' P g s') (hw : GrowBut (Own P g) w w') : Both w0 w' P g R s' s2 := by
  have h1 := h.hP; have h2 := h.hg
  have ⟨⟨a1, a2, a3⟩, a4, a5, a6⟩ := h.ap
  exact ⟨hs, h.r.stay hw (by simp only [Own]; omega) (by simp only [Own]; omega) (by simp only [Own]; omega), below_but h.below hw (fun k hk => by simp only [Own] at hk; omega), h1, h2, h.hp, h.hb, h.hu, h.ap⟩
theorem Both.turnR (h : Both w0 w P g R st s2) (hs : RefV w' R s') (hw : GrowBut (ROwn R) w w') : Both w0 w' P g R st s' := by
  have h1 := h.hp; have h2 := h.hb; have h3 := h.hu
  have ⟨⟨a1, a2, a3⟩, a4, a5, a6⟩ := h.ap
  exact ⟨h.s.stay hw (by simp only [ROwn]; omega) (by simp only [ROwn]; omega), hs, below_but h.below hw (fun k hk => by simp only [ROwn] at hk; omega), h.hP, h.hg, h1, h2, h3, h.ap⟩
theorem Both.grow (h : Both w0 w P g R st s2) (hw : Grow w w') : Both w0 w' P g R st s2 :=
  ⟨h.s.stay (M := NoBlock) (GrowBut.of_below hw) (fun h => h) (fun h => h), h.r.stay (M := NoBlock) (GrowBut.of_below hw) (fun h => h) (fun h => h) (fun h => h), h.below.trans (Below.mono hw h.below.size), h.hP, h.hg, h.hp, h.hb, h.hu, h.ap⟩
theorem Both.alloc (h : Both w0 w P g R st s2) (o : Obj) : Both w0 (w.alloc o) P g R st s2 := h.grow ((Grow.refl w).alloc o)
theorem Both.drewN (h : Both w0 w P g R st s2) (n : Nat) : Both w0 (w.drewN n) P g R st s2 := ⟨h.s.drewN n, ⟨h.r.head, h.r.rowB, h.r.rowU, h.r.ne1, h.r.ne2, h.r.ne3, h.r.pos, h.r.le, h.r.fuse, h.r.byte, h.r.torn⟩, ⟨h.below.os, h.below.tape, h.below.output, h.below.size, h.below.block⟩, h.hP, h.hg, h.hp, h.hb, h.hu, h.ap⟩
theorem Both.drew (h : Both w0 w P g R st s2) : Both w0 w.drew P g R st s2 := ⟨h.s.drew, h.r.drew, ⟨h.below.os, h.below.tape, h.below.output, h.below.size, h.below.block⟩, h.hP, h.hg, h.hp, h.hb, h.hu, h.ap⟩
theorem Both.held (h : Both w0 w P g R st s2) {v : Value} {zs : List Int} (hv : BytesV w0 v zs) : Held P g w v zs := held_of hv h.below h.hP h.hg
theorem Both.heldR (h : Both w0 w P g R st s2) {v : Value} {zs : List Int} (hv : BytesV w0 v zs) : HeldR R w v zs := heldR_of hv h.below h.hp h.hb h.hu
theorem Both.lts (h : Both w0 w P g R st s2) : P < w.heap.size ∧ g < w.heap.size ∧ R.p < w.heap.size ∧ R.b < w.heap.size ∧ R.u < w.heap.size :=
  ⟨h.s.ltP, h.s.ltG, h.r.lts.1, h.r.lts.2.1, h.r.lts.2.2⟩
end

/-- An act in a box stays. -/
theorem act_cells {M : Nat → Prop} {w1 w2 : World} {B : Nat} {x : ActP} (h1 : w1.heap[B]? = some (.cells x.cells 40 (0, 0))) (hg : GrowBut M w1 w2) (hm : ¬ M B) :
    w2.cell? ⟨B, 0, none⟩ = some (.int .i64 x.kind) ∧ w2.cell? ⟨B, 1, none⟩ = some (.int .i64 x.at') ∧ w2.cell? ⟨B, 2, none⟩ = some (.int .i64 x.n) ∧ w2.cell? ⟨B, 3, none⟩ = some (.int .u8 x.by') ∧ w2.cell? ⟨B, 4, none⟩ = some (.bool x.un) ∧ w2.cell? ⟨B, 5, none⟩ = some x.v := by
  have e := (hg.block B (lt_of_block h1) hm).trans h1
  refine ⟨?_, ?_, ?_, ?_, ?_, ?_⟩ <;> simp [World.cell?, e, ActP.cells]

def DoneAct (w0 : World) (P g : Nat) (R : RAt) (st' : St) (w : World) (e : Ending) (w' : World) : Prop :=
  e = .returned (.bool true) ∧ Both w0 w' P g R st' st' ∧ GrowBut (BOwn P g R) w w'

theorem growS {w w' : World} {P g : Nat} {R : RAt} (h : GrowBut (Own P g) w w') : GrowBut (BOwn P g R) w w' := h.weaken fun _ h => Or.inl h
theorem growR {w w' : World} {P g : Nat} {R : RAt} (h : GrowBut (ROwn R) w w') : GrowBut (BOwn P g R) w w' := h.weaken fun _ h => Or.inr h

/-- Kinds that do nothing. -/
theorem do_other {w0 w : World} {P g : Nat} {R : RAt} {st : St} (h : Both w0 w P g R st st) (x : ActP) (h1 : x.kind ≠ 1) (h2 : x.kind ≠ 2) (h3 : x.kind ≠ 3) (h4 : x.kind ≠ 4) (h5 : x.kind ≠ 5) :
    Calls Try.prog 16 #[.pointer (some ⟨P, 0, none⟩), .pointer (some ⟨R.p, 0, none⟩), x.val] w (DoneAct w0 P g R st w) := by
  obtain ⟨kd, at', n, by', un, v, zs⟩ := x
  simp only [ActP.val, ActP.cells]
  have HB := Lib.hid h
  have e1 : (kd == 1) = false := by simpa using h1
  have e2 : (kd == 2) = false := by simpa using h2
  have e3 : (kd == 3) = false := by simpa using h3
  have e4 : (kd == 4) = false := by simpa using h4
  have e5 : (kd == 5) = false := by simpa using h5
  clear h h1 h2 h3 h4 h5
  go_enter Try.func16, Try.ntmps16
  go_wp2_with fail
  go_ret
  exact ⟨rfl, HB.out.alloc _, (GrowBut.refl _ _).alloc _⟩

theorem do_raise {w0 w : World} {P g : Nat} {R : RAt} {st : St} (h : Both w0 w P g R st st) (x : ActP) (h4 : x.kind = 4) :
    Calls Try.prog 16 #[.pointer (some ⟨P, 0, none⟩), .pointer (some ⟨R.p, 0, none⟩), x.val] w (DoneAct w0 P g R { st with dead := false, fuse := -1 } w) := by
  obtain ⟨kd, at', n, by', un, v, zs⟩ := x
  dsimp only at h4
  subst h4
  simp only [ActP.val, ActP.cells]
  have HB := Lib.hid h
  clear h
  go_enter Try.func16, Try.ntmps16
  go_wp2_with fail
  refine (raise_any (HB.out.alloc _).s).mono ?_
  rintro e w2 ⟨rfl, hs, hg⟩
  have HB2 := Lib.hid ((HB.out.alloc _).turnS hs hg)
  have HG2 : Hid (GrowBut (BOwn P g R) w w2) := ((GrowBut.refl _ _).alloc _).trans (growS hg)
  clear hs hg HB
  go_wp2_with fail
  refine (rraise_any HB2.out.r).mono ?_
  rintro e w3 ⟨rfl, hs, hg⟩
  have HB3 := Lib.hid (HB2.out.turnR hs hg)
  have HG3 : Hid (GrowBut (BOwn P g R) w w3) := HG2.out.trans (growR hg)
  clear hs hg HB2
  go_wp2_with fail
  go_ret
  exact ⟨rfl, HB3.out, HG3.out⟩

theorem do_fuse {w0 w : World} {P g : Nat} {R : RAt} {st : St} (h : Both w0 w P g R st st) (x : ActP) (hx : ActOk w0 x) (h3 : x.kind = 3) :
    Calls Try.prog 16 #[.pointer (some ⟨P, 0, none⟩), .pointer (some ⟨R.p, 0, none⟩), x.val] w (DoneAct w0 P g R { st with fuse := max x.n (-1), tb := x.by', tu := x.un } w) := by
  have HN := Lib.hid hx.n
  have HY := Lib.hid hx.by'
  obtain ⟨l1, l2, l3, l4, l5⟩ := h.lts
  have HNE : Hid (¬ Own P g w.heap.size) := fun e => by simp only [Own] at e; omega
  obtain ⟨kd, at', n, by', un, v, zs⟩ := x
  dsimp only at h3 HN HY
  subst h3
  simp only [ActP.val, ActP.cells]
  have HB := Lib.hid h
  clear h l1 l2 l3 l4 l5 hx
  go_enter Try.func16, Try.ntmps16
  go_wp2_with fail
  refine (fuse_any (HB.out.alloc _).s _ _ _ HN.out HY.out).mono ?_
  rintro e w2 ⟨rfl, hs, hg⟩
  have HB2 := Lib.hid ((HB.out.alloc _).turnS hs hg)
  have HG2 : Hid (GrowBut (BOwn P g R) w w2) := ((GrowBut.refl _ _).alloc _).trans (growS hg)
  obtain ⟨b0, b1, b2, b3, b4, b5⟩ := act_cells (x := ⟨3, at', n, by', un, v, zs⟩) (heap_alloc_new w _) hg HNE.out
  dsimp only at b0 b1 b2 b3 b4 b5
  clear hs hg HB
  go_wp2_with fail
  refine (rfuse_any HB2.out.r _ _ _ HN.out HY.out).mono ?_
  rintro e w3 ⟨rfl, hs, hg⟩
  have HB3 := Lib.hid (HB2.out.turnR hs hg)
  have HG3 : Hid (GrowBut (BOwn P g R) w w3) := HG2.out.trans (growR hg)
  clear hs hg HB2 b0 b1 b2 b3 b4 b5
  go_wp2_with fail
  go_ret
  exact ⟨rfl, HB3.out, HG3.out⟩
end Go.Proofs.Yteakedikmaobfaa
