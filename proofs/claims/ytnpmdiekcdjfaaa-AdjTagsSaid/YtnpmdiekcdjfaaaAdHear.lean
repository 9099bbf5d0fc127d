/- The contract of Hear. -/
import Derived.Test.YtnpmdiekcdjfaaaAdBase
import Derived.Test.YtnpmdiekcdjfaaaDrawnUse
import Derived.Laws.NewBlocks
set_option linter.unusedVariables false
namespace Go.Proofs.Ytnpmdiekcdjfaaa
open Go.RowKit

/-- A hello in plain words. -/
structure Hl where
  node : Int
  mb : Int
  mt : Int
  hb : Int
  ht : Int

structure HlOk (h : Hl) : Prop where
  node : -9223372036854775808 ≤ h.node ∧ h.node ≤ 9223372036854775807
  mb : U64 h.mb
  mt : U64 h.mt
  hb : U64 h.hb
  ht : U64 h.ht

def Hl.val (h : Hl) : Value := .agg #[.int .i64 h.node, .int .u64 h.mb, .int .u64 h.mt, .int .u64 h.hb, .int .u64 h.ht]

def Hl.bad (h : Hl) : Prop := h.node < 1 ∨ 16 < h.node ∨ h.mb = 0 ∨ h.mt = 0
instance (h : Hl) : Decidable h.bad := by unfold Hl.bad; infer_instance

/-- What stands behind a hello that was heard. -/
def Ad.fin (a : Ad) (h : Hl) (ev : Int) : Ad × Int := if (h.hb = a.mb ∧ h.ht = a.mt) ∧ a.state = 1 then ({ a with state := 2 }, 1) else (a, ev)
def Ad.greet (a : Ad) (h : Hl) : Ad := { a with state := 1, tb := h.mb, tt := h.mt, other := h.node, silent := 0 }
def Ad.again (a : Ad) (h : Hl) : Ad := { a with state := 1, tb := h.mb, tt := h.mt, silent := 0 }
def Ad.still (a : Ad) : Ad := { a with silent := 0 }

/-- A hello that may be, of another one. -/
def Ad.hear1 (a : Ad) (h : Hl) : Ad × Int :=
  if h.node = a.node then (a, 0)
  else if a.state = 0 then (a.greet h).fin h 0
  else if h.node ≠ a.other then (a.anew.greet h).fin h a.lost
  else if elderB h.mb h.mt a.tb a.tt then (a, 0)
  else if ¬ (h.mb = a.tb ∧ h.mt = a.tt) then (a.again h).fin h a.lost
  else a.still.fin h 0
def Ad.hear (a : Ad) (h : Hl) : Ad × Int := if h.bad then (a, 0) else a.hear1 h

def AdHeard (P : Nat) (w : World) (r : Ad × Int) (err : Int) (e : Ending) (w' : World) : Prop :=
  e = .returned (.tuple #[.int .i64 r.2, .int .i64 err]) ∧ AdV w' P r.1 ∧ GrowBut (One P) w w'

theorem AdV.alloc {w : World} {P : Nat} {a : Ad} (h : AdV w P a) (o : Obj) : AdV (w.alloc o) P a := ⟨(Below.heap_alloc _ _ _ h.ltP).trans h.head, h.ok⟩
theorem grow_alloc {P : Nat} (w : World) (o : Obj) : GrowBut (One P) w (w.alloc o) := (GrowBut.refl _ w).alloc o

theorem one02 : (0 : Int) ≤ 1 ∧ (1 : Int) ≤ 2 := by decide
theorem two02 : (0 : Int) ≤ 2 ∧ (2 : Int) ≤ 2 := by decide
theorem nought : (0 : Int) ≤ 0 ∧ (0 : Int) ≤ 100 := by decide
theorem Ad.greet_ok {a : Ad} {h : Hl} (ha : AdOk a) (hh : HlOk h) (hb : ¬ h.bad) : AdOk (a.greet h) := by
  unfold Hl.bad at hb
  exact ⟨ha.node, ha.every, ha.dead, one02, ha.mb, ha.mt, hh.mb, hh.mt, by show 0 ≤ h.node ∧ h.node ≤ 16; omega, ha.said, nought⟩
theorem Ad.again_ok {a : Ad} {h : Hl} (ha : AdOk a) (hh : HlOk h) : AdOk (a.again h) :=
  ⟨ha.node, ha.every, ha.dead, one02, ha.mb, ha.mt, hh.mb, hh.mt, ha.other, ha.said, nought⟩
theorem Ad.still_ok {a : Ad} (ha : AdOk a) : AdOk a.still :=
  ⟨ha.node, ha.every, ha.dead, ha.state, ha.mb, ha.mt, ha.tb, ha.tt, ha.other, ha.said, nought⟩
theorem Ad.up_ok {a : Ad} (ha : AdOk a) : AdOk { a with state := 2 } :=
  ⟨ha.node, ha.every, ha.dead, two02, ha.mb, ha.mt, ha.tb, ha.tt, ha.other, ha.said, ha.silent⟩

theorem fin_yes (a : Ad) (x : Hl) (ev : Int) (h1 : x.hb = a.mb ∧ x.ht = a.mt) (h2 : a.state = 1) : a.fin x ev = ({ a with state := 2 }, 1) := if_pos ⟨h1, h2⟩
theorem fin_no (a : Ad) (x : Hl) (ev : Int) (h1 : ¬ (x.hb = a.mb ∧ x.ht = a.mt)) : a.fin x ev = (a, ev) := if_neg fun h => h1 h.1
theorem fin_no2 (a : Ad) (x : Hl) (ev : Int) (h1 : a.state ≠ 1) : a.fin x ev = (a, ev) := if_neg fun h => h1 h.2

theorem head_dn {w : World} {P : Nat} {o : Obj} (h : w.heap[P]? = some o) (n : Nat) : (w.drewN n).heap[P]? = some o := h
theorem head_dr {w : World} {P : Nat} {o : Obj} (h : w.heap[P]? = some o) : w.drew.heap[P]? = some o := h
theorem adv_of {w : World} {P : Nat} {cs : Array Value} {a : Ad} (h : w.heap[P]? = some (.cells cs 59 (0, 0))) (e : cs = adVals a) (ok : AdOk a) : AdV w P a := ⟨by rw [h, e], ok⟩

/-- A hello in a box stays. -/
theorem hello_cells {M : Nat → Prop} {w1 w2 : World} {n b t hb ht : Int} {B : Nat} (h1 : w1.heap[B]? = some (.cells #[.int .i64 n, .int .u64 b, .int .u64 t, .int .u64 hb, .int .u64 ht] 35 (0, 0))) (hg : GrowBut M w1 w2) (hm : ¬ M B) :
    w2.cell? ⟨B, 0, none⟩ = some (.int .i64 n) ∧ w2.cell? ⟨B, 1, none⟩ = some (.int .u64 b) ∧ w2.cell? ⟨B, 2, none⟩ = some (.int .u64 t) ∧ w2.cell? ⟨B, 3, none⟩ = some (.int .u64 hb) ∧ w2.cell? ⟨B, 4, none⟩ = some (.int .u64 ht) := by
  have e := (hg.block B (lt_of_block h1) hm).trans h1
  refine ⟨?_, ?_, ?_, ?_, ?_⟩ <;> simp [World.cell?, e]

/-- A hello that may not be. -/
theorem hear_bad {w : World} {P : Nat} {a : Ad} (h : AdV w P a) (x : Hl) (hx : HlOk x) (hb : x.bad) :
    Calls Try.prog 13 #[.pointer (some ⟨P, 0, none⟩), x.val] w (AdHeard P w (a, 0) 2) := by
  obtain ⟨n, b, t, hb', ht'⟩ := x
  unfold Hl.bad at hb
  simp only [Hl.val]
  dsimp only at hb
  have hh := hx.node
  dsimp only at hh
  have HS := Lib.hid h
  clear h hx
  by_cases h1 : n < 1
  · clear hb
    go_enter Try.func13, Try.ntmps13
    go_wp2_with (go_at_call 22; refine (there_any (AdV.alloc HS.out _)).mono ?_; rintro e w' ⟨rfl, rfl⟩)
    go_ret2
    exact ⟨rfl, AdV.alloc HS.out _, grow_alloc _ _⟩
  by_cases h2 : 16 < n
  · clear hb
    go_enter Try.func13, Try.ntmps13
    go_wp2_with (go_at_call 22; refine (there_any (AdV.alloc HS.out _)).mono ?_; rintro e w' ⟨rfl, rfl⟩)
    go_ret2
    exact ⟨rfl, AdV.alloc HS.out _, grow_alloc _ _⟩
  by_cases h3 : b = 0
  · subst h3
    clear hb
    go_enter Try.func13, Try.ntmps13
    go_wp2_with (go_at_call 22; refine (there_any (AdV.alloc HS.out _)).mono ?_; rintro e w' ⟨rfl, rfl⟩)
    go_ret2
    exact ⟨rfl, AdV.alloc HS.out _, grow_alloc _ _⟩
  have h4 : t = 0 := by omega
  have h3' : (b == 0) = false := by simpa using h3
  subst h4
  clear hb
  go_enter Try.func13, Try.ntmps13
  go_wp2_with (go_at_call 22; refine (there_any (AdV.alloc HS.out _)).mono ?_; rintro e w' ⟨rfl, rfl⟩)
  go_ret2
  exact ⟨rfl, AdV.alloc HS.out _, grow_alloc _ _⟩

theorem hear_own {w : World} {P : Nat} {a : Ad} (h : AdV w P a) (x : Hl) (hx : HlOk x) (hb : ¬ x.bad) (ho : x.node = a.node) :
    Calls Try.prog 13 #[.pointer (some ⟨P, 0, none⟩), x.val] w (AdHeard P w (a, 0) 0) := by
  obtain ⟨n, b, t, hb', ht'⟩ := x
  unfold Hl.bad at hb
  simp only [Hl.val]
  dsimp only at hb ho
  obtain ⟨⟨c0, c1, c2⟩, _⟩ := h.cells
  rw [← ho] at c0
  have hn1 : 1 ≤ n := by omega
  have hn2 : n ≤ 16 := by omega
  have h3 : (b == 0) = false := by simp; omega
  have h4 : (t == 0) = false := by simp; omega
  have HS := Lib.hid h
  have hlt := HS.out.ltP
  clear h hx c1 c2 hb ho
  go_enter Try.func13, Try.ntmps13
  go_wp2_with (go_at_call 22; refine (there_any (AdV.alloc HS.out _)).mono ?_; rintro e w' ⟨rfl, rfl⟩)
  go_quiet (fail)
  go_wp2_with fail
  go_ret2
  exact ⟨rfl, AdV.drewN (AdV.alloc HS.out _) _, GrowBut.drewN (grow_alloc _ _) _⟩

set_option maxRecDepth 20000 in
set_option maxHeartbeats 1000000 in
theorem hear_down {w : World} {P : Nat} {a : Ad} (h : AdV w P a) (x : Hl) (hx : HlOk x) (hb : ¬ x.bad) (ho : x.node ≠ a.node) (hs : a.state = 0) :
    Calls Try.prog 13 #[.pointer (some ⟨P, 0, none⟩), x.val] w (AdHeard P w ((a.greet x).fin x 0) 0) := by
  have HOK := Lib.hid (Ad.greet_ok h.ok hx hb)
  obtain ⟨n, b, t, hb', ht'⟩ := x
  unfold Hl.bad at hb
  simp only [Hl.val]
  dsimp only at hb ho
  have hh := hx.node
  dsimp only at hh
  obtain ⟨⟨c0, c1, c2⟩, c3, ⟨c4, c5, c6, c7⟩, c8, c9, c10, hf⟩ := h.cells
  have f3 := hf 3
  have f6 := hf 6
  have f7 := hf 7
  have f8 := hf 8
  have f10 := hf 10
  have hn1 : 1 ≤ n := by omega
  have hn2 : n ≤ 16 := by omega
  have h3 : (b == 0) = false := by simp; omega
  have h4 : (t == 0) = false := by simp; omega
  have h5 : (n == a.node) = false := by simpa using ho
  have HS := Lib.hid h
  have hlt := h.ltP
  have hpb : ¬ P = w.heap.size := by omega
  have hbp : ¬ w.heap.size = P := by omega
  rw [hs] at c3
  clear h hx c1 c2 hb ho hf c9 hs hh
  by_cases hm : hb' = a.mb ∧ ht' = a.mt
  · rw [fin_yes (a.greet ⟨n, b, t, hb', ht'⟩) ⟨n, b, t, hb', ht'⟩ 0 hm rfl]
    obtain ⟨rfl, rfl⟩ := hm
    have HOK2 := Lib.hid (Ad.up_ok HOK.out)
    go_enter Try.func13, Try.ntmps13
    go_wp2_with (go_at_call 22; refine (there_any (AdV.alloc HS.out _)).mono ?_; rintro e w' ⟨rfl, rfl⟩)
    go_quiet (fail)
    go_wp2_with fail
    go_region
    go_wp2_with fail
    go_quiet (fail)
    go_wp2_with fail
    go_ret2
    exact ⟨rfl, adv_of (head_put (head_dn (head_put (head_put (head_put (head_put (head_put (head_dn (AdV.alloc HS.out _).head _) _ _) _ _) _ _) _ _) _ _) _) _ _) (by simp [adVals, Ad.greet]) HOK2.out, (grow_one (GrowBut.drewN (grow_one (grow_one (grow_one (grow_one (grow_one (GrowBut.drewN (grow_alloc _ _) _) _ _) _ _) _ _) _ _) _ _) _) _ _)⟩
  · rw [fin_no (a.greet ⟨n, b, t, hb', ht'⟩) ⟨n, b, t, hb', ht'⟩ 0 hm]
    have hm1 : ¬ (hb' = a.mb ∧ ht' = a.mt) := hm
    clear hm
    by_cases hm2 : hb' = a.mb
    · have e2 : (ht' == a.mt) = false := by simp; exact fun h => hm1 ⟨hm2, h⟩
      subst hm2
      clear hm1
      go_enter Try.func13, Try.ntmps13
      go_wp2_with (go_at_call 22; refine (there_any (AdV.alloc HS.out _)).mono ?_; rintro e w' ⟨rfl, rfl⟩)
      go_quiet (fail)
      go_wp2_with fail
      go_region
      go_wp2_with fail
      go_quiet (fail)
      go_wp2_with fail
      go_ret2
      exact ⟨rfl, adv_of (head_dn (head_put (head_put (head_put (head_put (head_put (head_dn (AdV.alloc HS.out _).head _) _ _) _ _) _ _) _ _) _ _) _) (by simp [adVals, Ad.greet]) HOK.out, (GrowBut.drewN (grow_one (grow_one (grow_one (grow_one (grow_one (GrowBut.drewN (grow_alloc _ _) _) _ _) _ _) _ _) _ _) _ _) _)⟩
    · have e1 : (hb' == a.mb) = false := by simpa using hm2
      clear hm1 hm2
      go_enter Try.func13, Try.ntmps13
      go_wp2_with (go_at_call 22; refine (there_any (AdV.alloc HS.out _)).mono ?_; rintro e w' ⟨rfl, rfl⟩)
      go_quiet (fail)
      go_wp2_with fail
      go_region
      go_wp2_with fail
      go_quiet (fail)
      go_wp2_with fail
      go_ret2
      exact ⟨rfl, adv_of (head_dn (head_put (head_put (head_put (head_put (head_put (head_dn (AdV.alloc HS.out _).head _) _ _) _ _) _ _) _ _) _ _) _) (by simp [adVals, Ad.greet]) HOK.out, (GrowBut.drewN (grow_one (grow_one (grow_one (grow_one (grow_one (GrowBut.drewN (grow_alloc _ _) _) _ _) _ _) _ _) _ _) _ _) _)⟩
end Go.Proofs.Ytnpmdiekcdjfaaa
