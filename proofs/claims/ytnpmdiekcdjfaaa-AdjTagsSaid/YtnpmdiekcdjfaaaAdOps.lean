/- The contracts of New, View, Say, Accepts. -/
import Derived.Test.YtnpmdiekcdjfaaaAdHearAll
set_option linter.unusedVariables false
set_option linter.unusedSimpArgs false
namespace Go.Proofs.Ytnpmdiekcdjfaaa
open Go.RowKit

def Ad.fresh (n b e d : Int) : Ad := ⟨n, e, d, 0, b, 1, 0, 0, 0, 0, 0⟩

def SomeAd (w : World) (a : Ad) (e : Ending) (w' : World) : Prop := ∃ P : Nat, e = .returned (.tuple #[.pointer (some ⟨P, 0, none⟩), .int .i64 0]) ∧ AdV w' P a ∧ Grow w w' ∧ w.heap.size ≤ P

theorem new_any (n b e d : Int) (w : World) (hn : 1 ≤ n ∧ n ≤ 16) (hb : 1 ≤ b ∧ b < 18446744073709551616) (he : 1 ≤ e ∧ e ≤ 100) (hd : 1 ≤ d ∧ d ≤ 100) :
    Calls Try.prog 8 #[.int .i64 n, .int .u64 b, .int .i64 e, .int .i64 d] w (SomeAd w (Ad.fresh n b e d)) := by
  have hb0 : (b == 0) = false := by simp; omega
  have hok : AdOk (Ad.fresh n b e d) := ⟨hn, he, hd, ⟨Int.le_refl _, by show (0 : Int) ≤ 2; omega⟩, ⟨by show 0 ≤ b; omega, hb.2⟩, ⟨by show (0 : Int) ≤ 1; omega, by show (1 : Int) < _; omega⟩, ⟨Int.le_refl _, by show (0 : Int) < _; omega⟩, ⟨Int.le_refl _, by show (0 : Int) < _; omega⟩,
    ⟨Int.le_refl _, by show (0 : Int) ≤ 16; omega⟩, nought, nought⟩
  have HOK := Lib.hid hok
  clear hok
  go_enter Try.func8, Try.ntmps8
  go_wp2
  go_ret2
  exact ⟨w.heap.size, rfl, ⟨heap_alloc_new w _, HOK.out⟩, (Grow.refl w).alloc _, Nat.le_refl _⟩

def Ad.view (a : Ad) : Value := .agg #[.int .i64 a.state, .int .u64 a.mb, .int .u64 a.mt, .int .u64 a.tb, .int .u64 a.tt, .int .i64 a.other]

theorem view_any {w : World} {P : Nat} {a : Ad} (h : AdV w P a) :
    Calls Try.prog 11 #[.pointer (some ⟨P, 0, none⟩)] w fun e w' => e = .returned a.view ∧ Grow w w' := by
  obtain ⟨_, c3, ⟨c4, c5, c6, c7⟩, c8, _, _, _⟩ := h.cells
  have HS := Lib.hid h
  have hlt := h.ltP
  clear h
  simp only [Ad.view]
  go_enter Try.func11, Try.ntmps11
  go_wp2_with (go_at_call 22; refine (there_any (AdV.alloc HS.out _)).mono ?_; rintro e w' ⟨rfl, rfl⟩)
  exact bodyPost_ret (v := .agg #[.int .i64 a.state, .int .u64 a.mb, .int .u64 a.mt, .int .u64 a.tb, .int .u64 a.tt, .int .i64 a.other]) (by simp [results, Try.results11, go_sem]) rfl ⟨rfl, (Grow.refl _).alloc _⟩

def Ad.say (a : Ad) : Hl := ⟨a.node, a.mb, a.mt, a.tb, a.tt⟩

theorem say_any {w : World} {P : Nat} {a : Ad} (h : AdV w P a) :
    Calls Try.prog 16 #[.pointer (some ⟨P, 0, none⟩)] w fun e w' => e = .returned (.tuple #[a.say.val, .int .i64 0]) ∧ Grow w w' := by
  obtain ⟨⟨c0, _, _⟩, _, ⟨c4, c5, c6, c7⟩, _, _, _, _⟩ := h.cells
  have HS := Lib.hid h
  have hlt := h.ltP
  clear h
  simp only [Ad.say, Hl.val]
  go_enter Try.func16, Try.ntmps16
  go_wp2_with (go_at_call 22; refine (there_any (AdV.alloc HS.out _)).mono ?_; rintro e w' ⟨rfl, rfl⟩)
  go_region
  go_wp2_with fail
  exact bodyPost_ret (v := .tuple #[.agg #[.int .i64 a.node, .int .u64 a.mb, .int .u64 a.mt, .int .u64 a.tb, .int .u64 a.tt], .int .i64 0]) (by simp [results, Try.results16, go_sem]) rfl ⟨rfl, ((Grow.refl _).alloc _).drew⟩

def acceptsB (a : Ad) (n mb mt tb tt : Int) : Bool := decide (a.state = 2 ∧ a.mb = mb ∧ a.mt = mt ∧ a.tb = tb ∧ a.tt = tt ∧ a.other = n)

theorem Grow.dn {a b : World} (h : Grow a b) (n : Nat) : Grow a (b.drewN n) := ⟨h.os, h.tape, h.output, h.size, h.block⟩

set_option maxHeartbeats 4000000 in
theorem accepts_any {w : World} {P : Nat} {a : Ad} (h : AdV w P a) (n mb mt tb tt : Int) :
    Calls Try.prog 12 #[.pointer (some ⟨P, 0, none⟩), .int .i64 n, .agg #[.int .u64 mb, .int .u64 mt], .agg #[.int .u64 tb, .int .u64 tt]] w fun e w' => e = .returned (.bool (acceptsB a n mb mt tb tt)) ∧ Grow w w' := by
  obtain ⟨_, c3, ⟨c4, c5, c6, c7⟩, c8, _, _, _⟩ := h.cells
  have HT : Hid (∀ (x y : Obj) (q : Nat), Calls Try.prog 22 #[.pointer (some ⟨P, 0, none⟩)] (((w.alloc x).alloc y).drewN q) fun e w' => e = .returned (.bool true) ∧ w' = ((w.alloc x).alloc y).drewN q) := fun x y q => (there_any (((h.alloc x).alloc y).drewN q)).mono fun _ _ ⟨p, r⟩ => ⟨p, r.symm⟩
  have hlt := h.ltP
  have hlt1 : P < w.heap.size + 1 := by omega
  clear h
  by_cases h0 : a.state = 2
  case neg =>
    have HR : Hid (acceptsB a n mb mt tb tt = false) := by show acceptsB _ _ _ _ _ _ = false; exact decide_eq_false (fun hh => h0 (by obtain ⟨q0, q1, q2, q3, q4, q5⟩ := hh; assumption))
    have e0 : (a.state == 2) = false := by simpa using h0
    clear h0
    go_enter Try.func12, Try.ntmps12
    go_wp2_with fail
    go_quiet ((go_at_call 22; exact Calls.quiet_of_same (HT.out _ _ _)))
    go_wp2_with fail
    go_ret
    exact ⟨congrArg (fun x => Ending.returned (.bool x)) HR.out.symm, (((Grow.refl _).alloc _).alloc _).dn _⟩
  case pos =>
    by_cases h1 : a.mb = mb
    case neg =>
      have HR : Hid (acceptsB a n mb mt tb tt = false) := by show acceptsB _ _ _ _ _ _ = false; exact decide_eq_false (fun hh => h1 (by obtain ⟨q0, q1, q2, q3, q4, q5⟩ := hh; assumption))
      have e1 : (a.mb == mb) = false := by simpa using h1
      rw [h0] at c3
      clear h0 h1
      go_enter Try.func12, Try.ntmps12
      go_wp2_with fail
      go_quiet ((go_at_call 22; exact Calls.quiet_of_same (HT.out _ _ _)))
      go_wp2_with fail
      go_ret
      exact ⟨congrArg (fun x => Ending.returned (.bool x)) HR.out.symm, (((Grow.refl _).alloc _).alloc _).dn _⟩
    case pos =>
      by_cases h2 : a.mt = mt
      case neg =>
        have HR : Hid (acceptsB a n mb mt tb tt = false) := by show acceptsB _ _ _ _ _ _ = false; exact decide_eq_false (fun hh => h2 (by obtain ⟨q0, q1, q2, q3, q4, q5⟩ := hh; assumption))
        have e2 : (a.mt == mt) = false := by simpa using h2
        rw [h0] at c3
        rw [h1] at c4
        clear h0 h1 h2
        go_enter Try.func12, Try.ntmps12
        go_wp2_with fail
        go_quiet ((go_at_call 22; exact Calls.quiet_of_same (HT.out _ _ _)))
        go_wp2_with fail
        go_ret
        exact ⟨congrArg (fun x => Ending.returned (.bool x)) HR.out.symm, (((Grow.refl _).alloc _).alloc _).dn _⟩
      case pos =>
        by_cases h3 : a.tb = tb
        case neg =>
          have HR : Hid (acceptsB a n mb mt tb tt = false) := by show acceptsB _ _ _ _ _ _ = false; exact decide_eq_false (fun hh => h3 (by obtain ⟨q0, q1, q2, q3, q4, q5⟩ := hh; assumption))
          have e3 : (a.tb == tb) = false := by simpa using h3
          rw [h0] at c3
          rw [h1] at c4
          rw [h2] at c5
          clear h0 h1 h2 h3
          go_enter Try.func12, Try.ntmps12
          go_wp2_with fail
          go_quiet ((go_at_call 22; exact Calls.quiet_of_same (HT.out _ _ _)))
          go_wp2_with fail
          go_ret
          exact ⟨congrArg (fun x => Ending.returned (.bool x)) HR.out.symm, (((Grow.refl _).alloc _).alloc _).dn _⟩
        case pos =>
          by_cases h4 : a.tt = tt
          case neg =>
            have HR : Hid (acceptsB a n mb mt tb tt = false) := by show acceptsB _ _ _ _ _ _ = false; exact decide_eq_false (fun hh => h4 (by obtain ⟨q0, q1, q2, q3, q4, q5⟩ := hh; assumption))
            have e4 : (a.tt == tt) = false := by simpa using h4
            rw [h0] at c3
            rw [h1] at c4
            rw [h2] at c5
            rw [h3] at c6
            clear h0 h1 h2 h3 h4
            go_enter Try.func12, Try.ntmps12
            go_wp2_with fail
            go_quiet ((go_at_call 22; exact Calls.quiet_of_same (HT.out _ _ _)))
            go_wp2_with fail
            go_ret
            exact ⟨congrArg (fun x => Ending.returned (.bool x)) HR.out.symm, (((Grow.refl _).alloc _).alloc _).dn _⟩
          case pos =>
            by_cases h5 : a.other = n
            case neg =>
              have HR : Hid (acceptsB a n mb mt tb tt = false) := by show acceptsB _ _ _ _ _ _ = false; exact decide_eq_false (fun hh => h5 (by obtain ⟨q0, q1, q2, q3, q4, q5⟩ := hh; assumption))
              have e5 : (a.other == n) = false := by simpa using h5
              rw [h0] at c3
              rw [h1] at c4
              rw [h2] at c5
              rw [h3] at c6
              rw [h4] at c7
              clear h0 h1 h2 h3 h4 h5
              go_enter Try.func12, Try.ntmps12
              go_wp2_with fail
              go_quiet ((go_at_call 22; exact Calls.quiet_of_same (HT.out _ _ _)))
              go_wp2_with fail
              go_ret
              exact ⟨congrArg (fun x => Ending.returned (.bool x)) HR.out.symm, (((Grow.refl _).alloc _).alloc _).dn _⟩
            case pos =>
              have HR : Hid (acceptsB a n mb mt tb tt = true) := by show acceptsB _ _ _ _ _ _ = true; exact decide_eq_true ⟨h0, h1, h2, h3, h4, h5⟩
              rw [h0] at c3
              rw [h1] at c4
              rw [h2] at c5
              rw [h3] at c6
              rw [h4] at c7
              rw [h5] at c8
              clear h0 h1 h2 h3 h4 h5
              go_enter Try.func12, Try.ntmps12
              go_wp2_with fail
              go_quiet ((go_at_call 22; exact Calls.quiet_of_same (HT.out _ _ _)))
              go_wp2_with fail
              go_ret
              exact ⟨congrArg (fun x => Ending.returned (.bool x)) HR.out.symm, (((Grow.refl _).alloc _).alloc _).dn _⟩
end Go.Proofs.Ytnpmdiekcdjfaaa
