/- An adjacency: what it is, in plain words and in memory; its small methods. -/
import Derived.Test.YtnpmdiekcdjfaaaRows
import Derived.Test.YtnpmdiekcdjfaaaGrow
import Derived.WalkKit
import Derived.LoopTactic
import Derived.WalkLawsBesides
import Derived.WalkSpells
import Derived.Deep.QuietTactic
import Derived.BigQuiet
import Derived.RegionTactic
import Derived.ChangeAlike
import Derived.BigRegion
import Derived.WalkMore
import Derived.Laws.StructEq
set_option linter.unusedVariables false
namespace Go.Proofs.Ytnpmdiekcdjfaaa
open Go.RowKit

/-- An adjacency in plain words. -/
structure Ad where
  node : Int
  every : Int
  dead : Int
  state : Int
  mb : Int
  mt : Int
  tb : Int
  tt : Int
  other : Int
  said : Int
  silent : Int

def adVals (a : Ad) : Array Value :=
  #[.int .i64 a.node, .int .i64 a.every, .int .i64 a.dead, .int .i64 a.state, .int .u64 a.mb, .int .u64 a.mt, .int .u64 a.tb, .int .u64 a.tt, .int .i64 a.other, .int .i64 a.said, .int .i64 a.silent]

def U64 (x : Int) : Prop := 0 ≤ x ∧ x < 18446744073709551616

structure AdOk (a : Ad) : Prop where
  node : 1 ≤ a.node ∧ a.node ≤ 16
  every : 1 ≤ a.every ∧ a.every ≤ 100
  dead : 1 ≤ a.dead ∧ a.dead ≤ 100
  state : 0 ≤ a.state ∧ a.state ≤ 2
  mb : U64 a.mb
  mt : U64 a.mt
  tb : U64 a.tb
  tt : U64 a.tt
  other : 0 ≤ a.other ∧ a.other ≤ 16
  said : 0 ≤ a.said ∧ a.said ≤ 100
  silent : 0 ≤ a.silent ∧ a.silent ≤ 100

/-- It lies in memory, in block P. -/
structure AdV (w : World) (P : Nat) (a : Ad) : Prop where
  head : w.heap[P]? = some (.cells (adVals a) 59 (0, 0))
  ok : AdOk a

def One (P : Nat) : Nat → Prop := fun k => k = P

theorem AdV.stay {w w' : World} {P : Nat} {a : Ad} {M : Nat → Prop} (h : AdV w P a) (hg : GrowBut M w w') (h1 : ¬ M P) : AdV w' P a :=
  ⟨(hg.block P (lt_of_block h.head) h1).trans h.head, h.ok⟩
theorem AdV.ltP {w : World} {P : Nat} {a : Ad} (h : AdV w P a) : P < w.heap.size := lt_of_block h.head
theorem AdV.drew {w : World} {P : Nat} {a : Ad} (h : AdV w P a) : AdV w.drew P a := ⟨h.head, h.ok⟩
theorem AdV.drewN {w : World} {P : Nat} {a : Ad} (h : AdV w P a) (n : Nat) : AdV (w.drewN n) P a := ⟨h.head, h.ok⟩

theorem AdV.cells {w : World} {P : Nat} {a : Ad} (h : AdV w P a) :
    (w.cell? ⟨P, 0, none⟩ = some (.int .i64 a.node) ∧ w.cell? ⟨P, 1, none⟩ = some (.int .i64 a.every) ∧ w.cell? ⟨P, 2, none⟩ = some (.int .i64 a.dead)) ∧ w.cell? ⟨P, 3, none⟩ = some (.int .i64 a.state) ∧
    (w.cell? ⟨P, 4, none⟩ = some (.int .u64 a.mb) ∧ w.cell? ⟨P, 5, none⟩ = some (.int .u64 a.mt) ∧ w.cell? ⟨P, 6, none⟩ = some (.int .u64 a.tb) ∧ w.cell? ⟨P, 7, none⟩ = some (.int .u64 a.tt)) ∧
    w.cell? ⟨P, 8, none⟩ = some (.int .i64 a.other) ∧ w.cell? ⟨P, 9, none⟩ = some (.int .i64 a.said) ∧ w.cell? ⟨P, 10, none⟩ = some (.int .i64 a.silent) ∧ ∀ i, w.frozen? ⟨P, i, none⟩ = false := by
  have e := h.head
  refine ⟨⟨?_, ?_, ?_⟩, ?_, ⟨?_, ?_, ?_, ?_⟩, ?_, ?_, ?_, fun i => ?_⟩
  all_goals simp [World.cell?, World.frozen?, e, adVals]

/-- A cell is written. -/
theorem head_put {w : World} {P : Nat} {T : TypeId} {cs : Array Value} (h : w.heap[P]? = some (.cells cs T (0, 0))) (i : Nat) (v : Value) : (w.setCell ⟨P, i, none⟩ v).heap[P]? = some (.cells (cs.setIfInBounds i v) T (0, 0)) :=
  heap_setCell_same w P i _ _ v h

theorem grow_one {P : Nat} {w w' : World} (h : GrowBut (One P) w w') (i : Nat) (v : Value) : GrowBut (One P) w (w'.setCell ⟨P, i, none⟩ v) := h.setCell (a := ⟨P, i, none⟩) (show One P P from rfl) v

theorem there_any {w : World} {P : Nat} {a : Ad} (h : AdV w P a) :
    Calls Try.prog 22 #[.pointer (some ⟨P, 0, none⟩)] w fun e w' => e = .returned (.bool true) ∧ w = w' := by
  obtain ⟨⟨c0, _, _⟩, _⟩ := h.cells
  have hn : (a.node != 0) = true := by have := h.ok.node; simp; omega
  clear h
  generalize a.node = x at *
  go_enter Try.func22, Try.ntmps22
  go_wp2
  go_ret
  exact ⟨rfl, rfl⟩

theorem there_nil (w : World) :
    Calls Try.prog 22 #[.pointer none] w fun e w' => e = .returned (.bool false) ∧ w = w' := by
  go_enter Try.func22, Try.ntmps22
  go_wp2
  go_ret
  exact ⟨rfl, rfl⟩

/-- Is a tag elder? -/
def elderB (b1 t1 b2 t2 : Int) : Bool := decide (b1 < b2 ∨ b1 = b2 ∧ t1 < t2)

theorem elder_any (b1 t1 b2 t2 : Int) (w : World) :
    Calls Try.prog 24 #[.agg #[.int .u64 b1, .int .u64 t1], .agg #[.int .u64 b2, .int .u64 t2]] w fun e w' => e = .returned (.bool (elderB b1 t1 b2 t2)) ∧ Grow w w' := by
  have HG : Hid (Grow w ((w.alloc (.cells #[.int .u64 b1, .int .u64 t1] 25)).alloc (.cells #[.int .u64 b2, .int .u64 t2] 25))) := ((Grow.refl w).alloc _).alloc _
  by_cases h1 : b1 < b2
  · have HR : Hid (elderB b1 t1 b2 t2 = true) := by show elderB b1 t1 b2 t2 = true; simp [elderB, h1]
    go_enter Try.func24, Try.ntmps24
    go_wp2
    go_ret
    exact ⟨congrArg (fun x => Ending.returned (.bool x)) HR.out.symm, HG.out⟩
  by_cases h2 : b1 = b2
  · subst h2
    by_cases h3 : t1 < t2
    · have HR : Hid (elderB b1 t1 b1 t2 = true) := by show elderB b1 t1 b1 t2 = true; simp [elderB, h3]
      go_enter Try.func24, Try.ntmps24
      go_wp2
      go_ret
      exact ⟨congrArg (fun x => Ending.returned (.bool x)) HR.out.symm, HG.out⟩
    · have HR : Hid (elderB b1 t1 b1 t2 = false) := by show elderB b1 t1 b1 t2 = false; simp [elderB]; omega
      go_enter Try.func24, Try.ntmps24
      go_wp2
      go_ret
      exact ⟨congrArg (fun x => Ending.returned (.bool x)) HR.out.symm, HG.out⟩
  · have HR : Hid (elderB b1 t1 b2 t2 = false) := by show elderB b1 t1 b2 t2 = false; simp [elderB, h2]; omega
    have h4 : (b1 == b2) = false := by simpa using h2
    go_enter Try.func24, Try.ntmps24
    go_wp2
    go_ret
    exact ⟨congrArg (fun x => Ending.returned (.bool x)) HR.out.symm, HG.out⟩

/-- It tries anew. -/
def Ad.anew (a : Ad) : Ad := { a with state := 0, mt := a.mt + 1, tb := 0, tt := 0, other := 0, silent := 0 }
def Ad.lost (a : Ad) : Int := if a.state = 2 then 2 else 0

theorem Ad.anew_ok {a : Ad} (h : AdOk a) (hm : a.mt < 18446744073709551615) : AdOk a.anew :=
  ⟨h.node, h.every, h.dead, ⟨Int.le_refl _, by show (0 : Int) ≤ 2; omega⟩, h.mb, ⟨by have := h.mt.1; show 0 ≤ a.mt + 1; omega, by show a.mt + 1 < _; omega⟩, ⟨Int.le_refl _, by show (0 : Int) < _; omega⟩, ⟨Int.le_refl _, by show (0 : Int) < _; omega⟩,
    ⟨Int.le_refl _, by show (0 : Int) ≤ 16; omega⟩, h.said, ⟨Int.le_refl _, by show (0 : Int) ≤ 100; omega⟩⟩

def AdAfter (P : Nat) (w : World) (r : Int) (a' : Ad) (e : Ending) (w' : World) : Prop := e = .returned (.int .i64 r) ∧ AdV w' P a' ∧ GrowBut (One P) w w'

set_option maxHeartbeats 400000 in
theorem anew_any {w : World} {P : Nat} {a : Ad} (h : AdV w P a) (hm : a.mt < 18446744073709551615) :
    Calls Try.prog 23 #[.pointer (some ⟨P, 0, none⟩)] w (AdAfter P w a.lost a.anew) := by
  obtain ⟨⟨c0, c1, c2⟩, c3, ⟨c4, c5, c6, c7⟩, c8, c9, c10, hf⟩ := h.cells
  have f3 := hf 3
  have f4 := hf 4
  have f5 := hf 5
  have f6 := hf 6
  have f7 := hf 7
  have f8 := hf 8
  have f10 := hf 10
  have hmt := h.ok.mt.1
  have HS := Lib.hid h
  have HM := Lib.hid hm
  have hst := h.ok.state
  have HL : Hid (a.lost = if a.state = 2 then 2 else 0) := rfl
  clear hf c0 c1 c2 c9 h
  have HF : Hid (∀ (w' : World) (cs : Array Value), w'.heap[P]? = some (.cells cs 59 (0, 0)) → cs = adVals a.anew → AdV w' P a.anew) := fun w' cs e e' => ⟨by rw [e, e'], Ad.anew_ok HS.out.ok HM.out⟩
  by_cases h2 : a.state = 2
  · rw [h2] at c3
    go_enter Try.func23, Try.ntmps23
    go_wp2
    go_region
    go_wp2
    go_ret
    refine ⟨?_, AdV.drew (HF.out _ _ (head_put (head_put (head_put (head_put (head_put (head_put (head_put (HS.out.head) _ _) _ _) _ _) _ _) _ _) _ _) _ _) (by simp [adVals, Ad.anew])), GrowBut.drew (grow_one (grow_one (grow_one (grow_one (grow_one (grow_one (grow_one (GrowBut.refl _ _) _ _) _ _) _ _) _ _) _ _) _ _) _ _)⟩
    rw [HL.out, if_pos h2]; rfl
  · have hne : (a.state == 2) = false := by simpa using h2
    go_enter Try.func23, Try.ntmps23
    go_wp2
    go_region
    go_wp2
    go_ret
    refine ⟨?_, AdV.drew (HF.out _ _ (head_put (head_put (head_put (head_put (head_put (head_put (head_put (HS.out.head) _ _) _ _) _ _) _ _) _ _) _ _) _ _) (by simp [adVals, Ad.anew])), GrowBut.drew (grow_one (grow_one (grow_one (grow_one (grow_one (grow_one (grow_one (GrowBut.refl _ _) _ _) _ _) _ _) _ _) _ _) _ _) _ _)⟩
    rw [HL.out, if_neg h2]; rfl
end Go.Proofs.Ytnpmdiekcdjfaaa
