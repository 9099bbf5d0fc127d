/- The document's adjacency: what it is in memory, and the contracts of its methods. -/
import Derived.Test.YtnpmdiekcdjfaaaAdOps
set_option linter.unusedVariables false
set_option linter.unusedSimpArgs false
namespace Go.Proofs.Ytnpmdiekcdjfaaa
open Go.RowKit

def radVals (a : Ad) (sd : Bool) : Array Value :=
  #[.int .i64 a.node, .int .i64 a.every, .int .i64 a.dead, .int .i64 a.state, .int .u64 a.mb, .int .u64 a.mt, .int .u64 a.tb, .int .u64 a.tt, .int .i64 a.other, .int .i64 a.said, .bool sd, .int .i64 a.silent]

/-- The document's one lies in block P. -/
structure RadV (w : World) (P : Nat) (a : Ad) (sd : Bool) : Prop where
  head : w.heap[P]? = some (.cells (radVals a sd) 44 (0, 0))
  ok : AdOk a

section
variable {w w' : World} {P : Nat} {a : Ad} {sd : Bool}
theorem RadV.stay {M : Nat → Prop} (h : RadV w P a sd) (hg : GrowBut M w w') (h1 : ¬ M P) : RadV w' P a sd := ⟨(hg.block P (lt_of_block h.head) h1).trans h.head, h.ok⟩
theorem RadV.ltP (h : RadV w P a sd) : P < w.heap.size := lt_of_block h.head
theorem RadV.drew (h : RadV w P a sd) : RadV w.drew P a sd := ⟨h.head, h.ok⟩
theorem RadV.drewN (h : RadV w P a sd) (n : Nat) : RadV (w.drewN n) P a sd := ⟨h.head, h.ok⟩
theorem RadV.alloc (h : RadV w P a sd) (o : Obj) : RadV (w.alloc o) P a sd := ⟨(Below.heap_alloc _ _ _ h.ltP).trans h.head, h.ok⟩
theorem RadV.cells (h : RadV w P a sd) :
    (w.cell? ⟨P, 0, none⟩ = some (.int .i64 a.node) ∧ w.cell? ⟨P, 1, none⟩ = some (.int .i64 a.every) ∧ w.cell? ⟨P, 2, none⟩ = some (.int .i64 a.dead)) ∧ w.cell? ⟨P, 3, none⟩ = some (.int .i64 a.state) ∧
    (w.cell? ⟨P, 4, none⟩ = some (.int .u64 a.mb) ∧ w.cell? ⟨P, 5, none⟩ = some (.int .u64 a.mt) ∧ w.cell? ⟨P, 6, none⟩ = some (.int .u64 a.tb) ∧ w.cell? ⟨P, 7, none⟩ = some (.int .u64 a.tt)) ∧
    w.cell? ⟨P, 8, none⟩ = some (.int .i64 a.other) ∧ w.cell? ⟨P, 9, none⟩ = some (.int .i64 a.said) ∧ w.cell? ⟨P, 10, none⟩ = some (.bool sd) ∧ w.cell? ⟨P, 11, none⟩ = some (.int .i64 a.silent) ∧ ∀ i, w.frozen? ⟨P, i, none⟩ = false := by
  have e := h.head
  refine ⟨⟨?_, ?_, ?_⟩, ?_, ⟨?_, ?_, ?_, ?_⟩, ?_, ?_, ?_, ?_, fun i => ?_⟩
  all_goals simp [World.cell?, World.frozen?, e, radVals]
end

def SomeRad (w : World) (a : Ad) (e : Ending) (w' : World) : Prop := ∃ P : Nat, e = .returned (.pointer (some ⟨P, 0, none⟩)) ∧ RadV w' P a false ∧ Grow w w' ∧ w.heap.size ≤ P

theorem rnew_any (n b e d : Int) (w : World) (hn : 1 ≤ n ∧ n ≤ 16) (hb : 1 ≤ b ∧ b < 18446744073709551616) (he : 1 ≤ e ∧ e ≤ 100) (hd : 1 ≤ d ∧ d ≤ 100) :
    Calls Try.prog 9 #[.int .i64 n, .int .u64 b, .int .i64 e, .int .i64 d] w (SomeRad w (Ad.fresh n b e d)) := by
  have hok : AdOk (Ad.fresh n b e d) := ⟨hn, he, hd, ⟨Int.le_refl _, by show (0 : Int) ≤ 2; omega⟩, ⟨by show 0 ≤ b; omega, hb.2⟩, ⟨by show (0 : Int) ≤ 1; omega, by show (1 : Int) < _; omega⟩, ⟨Int.le_refl _, by show (0 : Int) < _; omega⟩, ⟨Int.le_refl _, by show (0 : Int) < _; omega⟩,
    ⟨Int.le_refl _, by show (0 : Int) ≤ 16; omega⟩, nought, nought⟩
  have HOK := Lib.hid hok
  clear hok
  go_enter Try.func9, Try.ntmps9
  go_wp2
  go_ret
  exact ⟨w.heap.size, rfl, ⟨heap_alloc_new w _, HOK.out⟩, (Grow.refl w).alloc _, Nat.le_refl _⟩

def RadAfter (P : Nat) (w : World) (v : Value) (a' : Ad) (sd : Bool) (e : Ending) (w' : World) : Prop := e = .returned v ∧ RadV w' P a' sd ∧ GrowBut (One P) w w'

theorem ranew_any {w : World} {P : Nat} {a : Ad} {sd : Bool} (h : RadV w P a sd) (hm : a.mt < 18446744073709551615) :
    Calls Try.prog 25 #[.pointer (some ⟨P, 0, none⟩)] w (RadAfter P w (.bool (a.state == 2)) a.anew sd) := by
  obtain ⟨⟨c0, c1, c2⟩, c3, ⟨c4, c5, c6, c7⟩, c8, c9, c10, c11, hf⟩ := h.cells
  have f3 := hf 3
  have f5 := hf 5
  have f6 := hf 6
  have f7 := hf 7
  have f8 := hf 8
  have f9 := hf 9
  have f10 := hf 10
  have f11 := hf 11
  have hmt := h.ok.mt.1
  have HS := Lib.hid h
  have HOK := Lib.hid (Ad.anew_ok h.ok hm)
  clear hf c0 c1 c2 c9 h
  go_enter Try.func25, Try.ntmps25
  go_wp2
  go_ret
  refine ⟨rfl, ⟨?_, HOK.out⟩, ?_⟩
  · simp only [heap_put, heap_dr, heap_dn, HS.out.head, Option.map_some, setObj_cells]; simp [radVals, Ad.anew]
  · simp only [but_put, but_dr, but_dn]; exact GrowBut.refl _ _

theorem rdrop_any {w : World} {P : Nat} {a : Ad} {sd : Bool} (h : RadV w P a sd) (hm : a.mt < 18446744073709551615) :
    Calls Try.prog 21 #[.pointer (some ⟨P, 0, none⟩)] w (RadAfter P w (.int .i64 a.lost) a.anew sd) := by
  have HA := Lib.hid (ranew_any h hm)
  have HL : Hid (a.lost = if a.state = 2 then 2 else 0) := rfl
  clear h hm
  by_cases h2 : a.state = 2
  · have e2 : (a.state == 2) = true := by simpa using h2
    rw [e2] at HA
    go_enter Try.func21, Try.ntmps21
    go_wp2_with (go_at_call 25; refine HA.out.mono ?_; rintro e w' ⟨rfl, h1, h2'⟩; have H1 := Lib.hid h1; have H2 := Lib.hid h2'; clear h1 h2')
    go_ret
    exact ⟨by rw [HL.out, if_pos h2]; rfl, H1.out, H2.out⟩
  · have e2 : (a.state == 2) = false := by simpa using h2
    rw [e2] at HA
    go_enter Try.func21, Try.ntmps21
    go_wp2_with (go_at_call 25; refine HA.out.mono ?_; rintro e w' ⟨rfl, h1, h2'⟩; have H1 := Lib.hid h1; have H2 := Lib.hid h2'; clear h1 h2')
    go_ret
    exact ⟨by rw [HL.out, if_neg h2]; rfl, H1.out, H2.out⟩

/-- Is a hello one that may be? -/
theorem rmay_any (x : Hl) (w : World) : Calls Try.prog 18 #[x.val] w fun e w' => e = .returned (.bool (decide (¬ x.bad))) ∧ Grow w w' := by
  obtain ⟨n, b, t, hb', ht'⟩ := x
  simp only [Hl.val]
  by_cases h1 : n < 1
  · have HR : Hid (decide (¬ Hl.bad ⟨n, b, t, hb', ht'⟩) = false) := by show decide _ = false; exact decide_eq_false (fun h => h (Or.inl h1))
    rw [HR.out]
    go_enter Try.func18, Try.ntmps18
    go_wp2
    go_ret
    exact ⟨rfl, (Grow.refl w).alloc _⟩
  by_cases h2 : 16 < n
  · have HR : Hid (decide (¬ Hl.bad ⟨n, b, t, hb', ht'⟩) = false) := by show decide _ = false; exact decide_eq_false (fun h => h (Or.inr (Or.inl h2)))
    rw [HR.out]
    go_enter Try.func18, Try.ntmps18
    go_wp2
    go_ret
    exact ⟨rfl, (Grow.refl w).alloc _⟩
  by_cases h3 : b = 0
  · have HR : Hid (decide (¬ Hl.bad ⟨n, b, t, hb', ht'⟩) = false) := by show decide _ = false; exact decide_eq_false (fun h => h (Or.inr (Or.inr (Or.inl h3))))
    rw [HR.out]
    have e3 : (b != 0) = false := by simpa using h3
    clear HR
    subst h3
    go_enter Try.func18, Try.ntmps18
    go_wp2
    go_ret
    exact ⟨rfl, (Grow.refl w).alloc _⟩
  have e3 : (b != 0) = true := by simpa using h3
  by_cases h4 : t = 0
  · have HR : Hid (decide (¬ Hl.bad ⟨n, b, t, hb', ht'⟩) = false) := by show decide _ = false; exact decide_eq_false (fun h => h (Or.inr (Or.inr (Or.inr h4))))
    rw [HR.out]
    clear HR
    subst h4
    go_enter Try.func18, Try.ntmps18
    go_wp2
    go_ret
    exact ⟨rfl, (Grow.refl w).alloc _⟩
  have e4 : (t != 0) = true := by simpa using h4
  have HR : Hid (decide (¬ Hl.bad ⟨n, b, t, hb', ht'⟩) = true) := by
    show decide _ = true
    exact decide_eq_true (fun h => by unfold Hl.bad at h; dsimp only at h; omega)
  rw [HR.out]
  have h1' : 1 ≤ n := by omega
  have h2' : n ≤ 16 := by omega
  clear HR h3 h4 h1 h2
  go_enter Try.func18, Try.ntmps18
  go_wp2
  go_ret
  exact ⟨rfl, (Grow.refl w).alloc _⟩
end Go.Proofs.Ytnpmdiekcdjfaaa
