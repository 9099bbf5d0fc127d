/- Two that hear each other are up behind three hellos, and accept each other; at most 100 acts each. -/
import Derived.Test.YtnpmdiekcdjfaaaRows
import Derived.Test.YtnpmdiekcdjfaaaAdMeet
import Derived.WalkKit
import Derived.ProofKit
import Derived.OpenShut
import Derived.ShutString
import Derived.ChangeOld
import Derived.Below
set_option linter.unusedVariables false
namespace Go.Proofs.Ytnpmdiekcdjfaaa.adjMeets
open Go.ChangeShapes Go.WideShapes Go.ChangeAt Go.RowKit
open Go.ChangeMaps (open_string shut_string)
set_option linter.unusedSimpArgs false
theorem own : ownKnob Try.prog.godebug = none := by kernel_rfl
theorem laidOut : laidOutB Try.prog = true := by kernel_rfl

/-- What stands at the first loop's head. -/
structure LIP (w wr : World) (P Q : Nat) (j : Nat) (a : Ad) : Prop where
  duo : Duo w wr P Q a kb0
  mt : a.mt ≤ 1 + j
  silent : a.silent < a.dead
  far : a.other ≠ 2 ∧ a.node = 1 ∧ a.mb = 5 ∧ 1 ≤ a.mt
theorem LIP.below {w wr : World} {P Q j : Nat} {a : Ad} (h : LIP w wr P Q j a) : Below w.heap.size w wr := h.duo.below
/-- .. at the second's. -/
structure LIQ (w wr : World) (P Q : Nat) (a0 : Ad) (j : Nat) (a : Ad) : Prop where
  duo : Duo w wr P Q a0 a
  mt : a.mt ≤ 1 + j
  silent : a.silent < a.dead
  far : a.other ≠ 1 ∧ a.node = 2 ∧ a.mb = 7 ∧ 1 ≤ a.mt
theorem LIQ.below {w wr : World} {P Q j : Nat} {a0 a : Ad} (h : LIQ w wr P Q a0 j a) : Below w.heap.size w wr := h.duo.below

set_option maxRecDepth 20000 in
set_option maxHeartbeats 1000000 in
theorem walk0 (v : Value) (l : List ActA) (v2 : Value) (m : List ActA) (w : World) (hv : ActsV w v l) (hv2 : ActsV w v2 m) (h : 100 < l.length ∨ 100 < m.length) :
    Calls Try.prog 5 #[v, v2] w fun e w' => e = .returned (.bool true) ∧ Below w.heap.size w w' := by
  obtain ⟨ao, cap, rfl, h1, h2⟩ := hv.shape
  obtain ⟨ao2, cap2, rfl, h3, h4⟩ := hv2.shape
  unfold maxLen at h2 h4
  clear hv hv2
  by_cases c1 : 100 < l.length
  · clear h
    go_enter Try.func5, Try.ntmps5
    go_wp2_with (go_at_call 7; refine (known_any _).mono ?_; rintro e w' ⟨rfl, hg⟩; have HG := Lib.hid hg; clear hg)
    go_ret
    exact ⟨rfl, HG.out⟩
  · have c2 : 100 < m.length := by omega
    clear h
    go_enter Try.func5, Try.ntmps5
    go_wp2_with (go_at_call 7; refine (known_any _).mono ?_; rintro e w' ⟨rfl, hg⟩; have HG := Lib.hid hg; clear hg)
    go_ret
    exact ⟨rfl, HG.out⟩

set_option maxRecDepth 20000 in
set_option maxHeartbeats 8000000 in
theorem walk1 (v : Value) (l : List ActA) (v2 : Value) (m : List ActA) (w : World) (hv : ActsV w v l) (hv2 : ActsV w v2 m) (c1 : l.length ≤ 100) (c2 : m.length ≤ 100) :
    Calls Try.prog 5 #[v, v2] w fun e w' => e = .returned (.bool true) ∧ Below w.heap.size w w' := by
  obtain ⟨ao, cap, rfl, h1, h2⟩ := hv.shape
  obtain ⟨ao2, cap2, rfl, h3, h4⟩ := hv2.shape
  unfold maxLen at h2 h4
  have HV1 := Lib.hid hv
  have HV2 := Lib.hid hv2
  clear hv hv2
  have HN1 : Hid (∀ x, Calls Try.prog 8 #[.int .i64 1, .int .u64 5, .int .i64 3, .int .i64 9] x (SomeAd x ka0)) := fun x => new_any 1 5 3 9 x (by omega) (by omega) (by omega) (by omega)
  have HN2 : Hid (∀ x, Calls Try.prog 8 #[.int .i64 2, .int .u64 7, .int .i64 3, .int .i64 9] x (SomeAd x kb0)) := fun x => new_any 2 7 3 9 x (by omega) (by omega) (by omega) (by omega)
  go_enter Try.func5, Try.ntmps5
  go_wp2_with fail
  refine (HN1.out _).mono ?_
  rintro e w1 ⟨P, rfl, g1, g2, hP⟩
  have H1 : Hid (AdV w1 P ka0 ∧ Grow w w1 ∧ w.heap.size ≤ P) := ⟨g1, g2, hP⟩
  clear g1 g2 hP
  go_wp2_with fail
  refine (HN2.out _).mono ?_
  rintro e w2 ⟨Q, rfl, g1, g2, hQ⟩
  have HD := Lib.hid (Duo.of_new H1.out.1 H1.out.2.1 H1.out.2.2 g1 g2 hQ)
  clear g1 g2 hQ H1 HN1 HN2
  go_wp2_with fail
  go_loopw [9] (fun i wr => ∃ (j : Nat) (a : Ad), j ≤ l.length ∧ i = .int .i64 j ∧ Hid (LIP w wr P Q j a)) (fun i _ => l.length - (intOf i).toNat)
  case atStart => exact ⟨0, ka0, Nat.zero_le _, rfl, ⟨HD.out, by decide, by decide, by decide, rfl, rfl, by decide⟩⟩
  case round =>
    obtain ⟨j, a, hj, rfl, HI⟩ := hrel
    by_cases hlt : j < l.length
    case neg =>
      have hjl : j = l.length := by omega
      subst hjl
      go_wp2_with fail
      obtain ⟨a0, rfl⟩ : ∃ a0 : Ad, a0 = a := ⟨_, rfl⟩
      have Ha0 := HI
      clear HI HD
      go_loopw [10] (fun i wr => ∃ (j : Nat) (a : Ad), j ≤ m.length ∧ i = .int .i64 j ∧ Hid (LIQ w wr P Q a0 j a)) (fun i _ => m.length - (intOf i).toNat)
      case atStart => exact ⟨0, kb0, Nat.zero_le _, rfl, ⟨Ha0.out.duo, by decide, by decide, by decide, rfl, rfl, by decide⟩⟩
      case round =>
        obtain ⟨j, a, hj, rfl, HI⟩ := hrel
        by_cases hlt : j < m.length
        case neg =>
          have hjl : j = m.length := by omega
          subst hjl
          go_wp2_with fail
          have hP := Ha0.out.far
          have hPm := Ha0.out.mt
          have hQ := HI.out.far
          have hQm := HI.out.mt
          obtain ⟨b1, a1, b2, a2, b3, e1, e2, e3, e4, e5, m1, m2, m3, m4, r1, r2⟩ := meets (a := a0) (b := a) hP.2.1 hQ.2.1 hP.1 hQ.1
          have HD := Lib.hid HI.out.duo
          have HR : Hid (acceptsB a2 2 a2.mb a2.mt b3.mb b3.mt = true ∧ acceptsB b3 1 b3.mb b3.mt a2.mb a2.mt = true) := ⟨r1, r2⟩
          have HA : Hid (a0.mb ≠ 0 ∧ a0.mt ≠ 0 ∧ a0.mt < 18446744073709551615 ∧ a1.mb ≠ 0 ∧ a1.mt ≠ 0 ∧ a1.mt < 18446744073709551615 ∧ a2.mb ≠ 0 ∧ a2.mt ≠ 0 ∧ a2.mt < 18446744073709551615) := by
            refine ⟨?_, ?_, ?_, ?_, ?_, ?_, ?_, ?_, ?_⟩ <;> omega
          have HBB : Hid (a.mt < 18446744073709551615 ∧ b1.mb ≠ 0 ∧ b1.mt ≠ 0 ∧ b1.mt < 18446744073709551615 ∧ b2.mb ≠ 0 ∧ b2.mt ≠ 0 ∧ b2.mt < 18446744073709551615) := by
            refine ⟨?_, ?_, ?_, ?_, ?_, ?_, ?_⟩ <;> omega
          obtain ⟨v1, ev1⟩ : ∃ ev, a.hear1 a0.say = (b1, ev) := ⟨_, Prod.ext e1 rfl⟩
          obtain ⟨v2, ev2⟩ : ∃ ev, a0.hear1 b1.say = (a1, ev) := ⟨_, Prod.ext e2 rfl⟩
          obtain ⟨v3, ev3⟩ : ∃ ev, b1.hear1 a1.say = (b2, ev) := ⟨_, Prod.ext e3 rfl⟩
          obtain ⟨v4, ev4⟩ : ∃ ev, a1.hear1 b2.say = (a2, ev) := ⟨_, Prod.ext e4 rfl⟩
          obtain ⟨v5, ev5⟩ : ∃ ev, b2.hear1 a2.say = (b3, ev) := ⟨_, Prod.ext e5 rfl⟩
          have HE1 := Lib.hid ev1
          have HE2 := Lib.hid ev2
          have HE3 := Lib.hid ev3
          have HE4 := Lib.hid ev4
          have HE5 := Lib.hid ev5
          clear ev1 ev2 ev3 ev4 ev5 e1 e2 e3 e4 e5 m1 m2 m3 m4 r1 r2 hP hPm hQ hQm Ha0 HI
          refine wp_loop_rounds 3 ?_
          rw [rounds_succ]
          go_wp2_with fail
          refine (say_any HD.out.a).mono ?_
          simp only [Ad.say, Hl.val]
          rintro e x1 ⟨rfl, hg⟩
          have HX1 := Lib.hid (HD.out.grow hg)
          clear hg HD
          have hh : ∀ o, Calls Try.prog 13 #[.pointer (some ⟨Q, 0, none⟩), .agg #[.int .i64 a0.node, .int .u64 a0.mb, .int .u64 a0.mt, .int .u64 a0.tb, .int .u64 a0.tt]] (x1.alloc o) (AdHeard Q (x1.alloc o) (b1, v1) 0) := fun o => by
            have := hear_ok (HX1.out.alloc o).b a0.say (Ad.say_ok HX1.out.a.ok) (Ad.say_good HX1.out.a.ok HA.out.1 HA.out.2.1) HBB.out.1
            rw [HE1.out] at this
            exact this
          have HH := Lib.hid hh
          clear hh
          go_wp2_with fail
          have hh := HH.out
          clear HH
          refine (hh _).mono ?_
          clear hh
          rintro e y1 ⟨rfl, hs, hg⟩
          have HD1 := Lib.hid ((HX1.out.alloc _).turnB hs hg)
          clear hs hg HX1
          go_wp2_with fail
          refine (say_any HD1.out.b).mono ?_
          simp only [Ad.say, Hl.val]
          rintro e x2 ⟨rfl, hg⟩
          have HX2 := Lib.hid (HD1.out.grow hg)
          clear hg HD1
          have hh : ∀ o, Calls Try.prog 13 #[.pointer (some ⟨P, 0, none⟩), .agg #[.int .i64 b1.node, .int .u64 b1.mb, .int .u64 b1.mt, .int .u64 b1.tb, .int .u64 b1.tt]] (x2.alloc o) (AdHeard P (x2.alloc o) (a1, v2) 0) := fun o => by
            have := hear_ok (HX2.out.alloc o).a b1.say (Ad.say_ok HX2.out.b.ok) (Ad.say_good HX2.out.b.ok HBB.out.2.1 HBB.out.2.2.1) HA.out.2.2.1
            rw [HE2.out] at this
            exact this
          have HH := Lib.hid hh
          clear hh
          go_wp2_with fail
          have hh := HH.out
          clear HH
          refine (hh _).mono ?_
          clear hh
          rintro e y2 ⟨rfl, hs, hg⟩
          have HD2 := Lib.hid ((HX2.out.alloc _).turnA hs hg)
          clear hs hg HX2
          go_wp2_with fail
          rw [rounds_succ]
          go_wp2_with fail
          refine (say_any HD2.out.a).mono ?_
          simp only [Ad.say, Hl.val]
          rintro e x3 ⟨rfl, hg⟩
          have HX3 := Lib.hid (HD2.out.grow hg)
          clear hg HD2
          have hh : ∀ o, Calls Try.prog 13 #[.pointer (some ⟨Q, 0, none⟩), .agg #[.int .i64 a1.node, .int .u64 a1.mb, .int .u64 a1.mt, .int .u64 a1.tb, .int .u64 a1.tt]] (x3.alloc o) (AdHeard Q (x3.alloc o) (b2, v3) 0) := fun o => by
            have := hear_ok (HX3.out.alloc o).b a1.say (Ad.say_ok HX3.out.a.ok) (Ad.say_good HX3.out.a.ok HA.out.2.2.2.1 HA.out.2.2.2.2.1) HBB.out.2.2.2.1
            rw [HE3.out] at this
            exact this
          have HH := Lib.hid hh
          clear hh
          go_wp2_with fail
          have hh := HH.out
          clear HH
          refine (hh _).mono ?_
          clear hh
          rintro e y3 ⟨rfl, hs, hg⟩
          have HD3 := Lib.hid ((HX3.out.alloc _).turnB hs hg)
          clear hs hg HX3
          go_wp2_with fail
          refine (say_any HD3.out.b).mono ?_
          simp only [Ad.say, Hl.val]
          rintro e x4 ⟨rfl, hg⟩
          have HX4 := Lib.hid (HD3.out.grow hg)
          clear hg HD3
          have hh : ∀ o, Calls Try.prog 13 #[.pointer (some ⟨P, 0, none⟩), .agg #[.int .i64 b2.node, .int .u64 b2.mb, .int .u64 b2.mt, .int .u64 b2.tb, .int .u64 b2.tt]] (x4.alloc o) (AdHeard P (x4.alloc o) (a2, v4) 0) := fun o => by
            have := hear_ok (HX4.out.alloc o).a b2.say (Ad.say_ok HX4.out.b.ok) (Ad.say_good HX4.out.b.ok HBB.out.2.2.2.2.1 HBB.out.2.2.2.2.2.1) HA.out.2.2.2.2.2.1
            rw [HE4.out] at this
            exact this
          have HH := Lib.hid hh
          clear hh
          go_wp2_with fail
          have hh := HH.out
          clear HH
          refine (hh _).mono ?_
          clear hh
          rintro e y4 ⟨rfl, hs, hg⟩
          have HD4 := Lib.hid ((HX4.out.alloc _).turnA hs hg)
          clear hs hg HX4
          go_wp2_with fail
          rw [rounds_succ]
          go_wp2_with fail
          refine (say_any HD4.out.a).mono ?_
          simp only [Ad.say, Hl.val]
          rintro e x5 ⟨rfl, hg⟩
          have HX5 := Lib.hid (HD4.out.grow hg)
          clear hg HD4
          have hh : ∀ o, Calls Try.prog 13 #[.pointer (some ⟨Q, 0, none⟩), .agg #[.int .i64 a2.node, .int .u64 a2.mb, .int .u64 a2.mt, .int .u64 a2.tb, .int .u64 a2.tt]] (x5.alloc o) (AdHeard Q (x5.alloc o) (b3, v5) 0) := fun o => by
            have := hear_ok (HX5.out.alloc o).b a2.say (Ad.say_ok HX5.out.a.ok) (Ad.say_good HX5.out.a.ok HA.out.2.2.2.2.2.2.1 HA.out.2.2.2.2.2.2.2.1) HBB.out.2.2.2.2.2.2
            rw [HE5.out] at this
            exact this
          have HH := Lib.hid hh
          clear hh
          go_wp2_with fail
          have hh := HH.out
          clear HH
          refine (hh _).mono ?_
          clear hh
          rintro e y5 ⟨rfl, hs, hg⟩
          have HD5 := Lib.hid ((HX5.out.alloc _).turnB hs hg)
          clear hs hg HX5
          go_wp2_with fail
          refine (view_any HD5.out.a).mono ?_
          simp only [Ad.view]
          rintro e z1 ⟨rfl, hg⟩
          have HD6 := Lib.hid (HD5.out.grow hg)
          clear hg HD5
          go_wp2_with fail
          refine (view_any HD6.out.b).mono ?_
          simp only [Ad.view]
          rintro e z2 ⟨rfl, hg⟩
          have HD7 := Lib.hid (HD6.out.grow hg)
          clear hg HD6
          go_wp2_with fail
          have hac : ∀ o1 o2, Calls Try.prog 12 #[.pointer (some ⟨P, 0, none⟩), .int .i64 2, .agg #[.int .u64 a2.mb, .int .u64 a2.mt], .agg #[.int .u64 b3.mb, .int .u64 b3.mt]] ((z2.alloc o1).alloc o2) fun e w' => e = .returned (.bool true) ∧ Grow ((z2.alloc o1).alloc o2) w' := fun o1 o2 => by
            have := accepts_any ((HD7.out.alloc o1).alloc o2).a 2 a2.mb a2.mt b3.mb b3.mt
            rwa [HR.out.1] at this
          refine (hac _ _).mono ?_
          rintro e z3 ⟨rfl, hg⟩
          have g0 := (view_block (B := z2.heap.size) (a := a2) (w1 := (z2.alloc (.cells (viewCells a2) 40)).alloc (.cells (viewCells b3) 40)) (by rw [Below.heap_alloc _ _ _ (by simp)]; exact heap_alloc_new z2 _) hg)
          have h0 := (view_block (B := z2.heap.size + 1) (a := b3) (w1 := (z2.alloc (.cells (viewCells a2) 40)).alloc (.cells (viewCells b3) 40)) (by
            have := heap_alloc_new (z2.alloc (.cells (viewCells a2) 40)) (.cells (viewCells b3) 40)
            rwa [World.size_alloc] at this) hg)
          obtain ⟨_, g1, g2, _⟩ := g0
          obtain ⟨_, h1, h2, _⟩ := h0
          have HD8 := Lib.hid (((HD7.out.alloc _).alloc _).grow hg)
          clear hg hac HD7
          go_wp2_with fail
          have hac := accepts_any HD8.out.b 1 b3.mb b3.mt a2.mb a2.mt
          rw [HR.out.2] at hac
          refine hac.mono ?_
          rintro e z4 ⟨rfl, hg⟩
          have HD9 := Lib.hid (HD8.out.grow hg)
          clear hg hac HD8 g1 g2 h1 h2
          go_wp2_with (go_at_call 7; refine (known_any _).mono ?_; rintro e w' ⟨rfl, hg⟩; have HG := Lib.hid hg; clear hg)
          go_ret
          exact ⟨rfl, HD9.out.below.trans (Below.mono HG.out HD9.out.below.size)⟩
        case pos =>
          obtain ⟨b, off, cp, e1, _, _, hall⟩ := HV2.out.solid (fun h => by rw [h] at hlt; simp at hlt)
          injection e1 with e1 _ e2
          subst e1; subst e2
          have hok := HV2.out.okAt hlt
          have hc := hall j hlt
          obtain ⟨x, hx⟩ : ∃ x, m.getD j .zero = x := ⟨_, rfl⟩
          rw [hx] at hok hc
          clear hall hx
          have HOK := Lib.hid hok
          obtain ⟨kd, nn, m1, m2, m3, m4⟩ := x
          have bc : ∀ k u, (ActA.cells ⟨kd, nn, m1, m2, m3, m4⟩)[k]? = some u → w.cell? ⟨b, off + j * 6 + k, none⟩ = some u := fun k u h => hc k u h
          have HBC := Lib.hid bc
          have b0 : wr.cell? ⟨b, off + j * 6, none⟩ = some (.int .i64 kd) := (HI.out.below.cell (block_lt (bc 0 _ rfl))).trans (bc 0 _ rfl)
          have b1' : wr.cell? ⟨b, off + j * 6 + 1, none⟩ = some (.int .i64 nn) := (HI.out.below.cell (block_lt (bc 1 _ rfl))).trans (bc 1 _ rfl)
          clear bc hok hc
          have hjlt : (j : Int) < (m.length : Int) := by omega
          by_cases hsk : kd = 1 ∧ nn = 1
          · obtain ⟨rfl, rfl⟩ := hsk
            have HI3 : Hid (LIQ w wr P Q a0 (j + 1) a) := ⟨HI.out.duo, by have := HI.out.mt; omega, HI.out.silent, HI.out.far⟩
            go_wp2_with fail
            exact ⟨⟨j + 1, _, by omega, by go_num, HI3.out⟩, by simp [intOf]; omega⟩
          · have HSK := Lib.hid hsk
            have hne : kd ≠ 1 ∨ (kd = 1 ∧ nn ≠ 1) := by
              by_cases h : kd = 1
              · exact Or.inr ⟨h, fun e => hsk ⟨h, e⟩⟩
              · exact Or.inl h
            have HDO : Hid (∀ (w' : World) (R : Nat), GrowBut NoBlock wr w' → RadV w' R kb0 false → wr.heap.size ≤ R → Calls Try.prog 10 #[.pointer (some ⟨Q, 0, none⟩), .pointer (some ⟨R, 0, none⟩), (.agg #[.int .i64 kd, .int .i64 nn, .int .u64 m1, .int .u64 m2, .int .u64 m3, .int .u64 m4])] w' (DoneA w Q R (a.act ⟨kd, nn, m1, m2, m3, m4⟩) (kb0.ract false ⟨kd, nn, m1, m2, m3, m4⟩) (ractSd false ⟨kd, nn, m1, m2, m3, m4⟩) w')) := by
              intro w' R hg hr hR
              have hi := HI.out
              have hmt := hi.mt
              have hd := hi.duo.grow hg.below
              have hp : Pair w w' Q R a kb0 false := ⟨hd.b, hr, hd.below, hd.hQ, Nat.le_trans hi.duo.below.size hR, by have := hi.duo.b.ltP; omega⟩
              exact do_any hp ⟨kd, ⟨nn, m1, m2, m3, m4⟩⟩ HOK.out (by omega) (by decide) hi.silent (by decide) (by decide)
            have HRN : Hid (∀ x, Calls Try.prog 9 #[.int .i64 2, .int .u64 7, .int .i64 3, .int .i64 9] x (SomeRad x kb0)) := fun x => rnew_any 2 7 3 9 x (by omega) (by omega) (by omega) (by omega)
            have HNX : Hid (∀ (w' w3 : World) (R : Nat) (r : Ad) (sd : Bool), GrowBut NoBlock wr w' → wr.heap.size ≤ R → Pair w w3 Q R (a.act ⟨kd, nn, m1, m2, m3, m4⟩) r sd → GrowBut (POwn Q R) w' w3 → LIQ w w3 P Q a0 (j + 1) (a.act ⟨kd, nn, m1, m2, m3, m4⟩)) := by
              intro w' w3 R r sd hg hR hp hg3
              have hi := HI.out
              have hd := hi.duo.grow hg.below
              have hlt1 := hi.duo.a.ltP
              have hlt2 := hi.duo.b.ltP
              have hne := hd.ne
              obtain ⟨k1, k2, k3, k4, k5, k6⟩ := act_keeps ⟨kd, nn, m1, m2, m3, m4⟩ hi.silent (by have := hi.duo.b.ok.dead; omega)
              refine ⟨⟨hd.a.stay hg3 (fun e => by unfold POwn at e; omega), hp.a, hp.below, hd.hP, hd.hQ, hd.ne⟩, by have := hi.mt; omega, k4, act_other_node hi.far.1 (by decide) HSK.out, k6.trans hi.far.2.1, k3.trans hi.far.2.2.1, by have := hi.far.2.2.2; omega⟩
            have HC : Hid (∀ w', GrowBut NoBlock wr w' → ∀ k u, (ActA.cells ⟨kd, nn, m1, m2, m3, m4⟩)[k]? = some u → w'.cell? ⟨b, off + j * 6 + k, none⟩ = some u) := fun w' hg k u h => by
              have h1 := HBC.out k u h
              have h2 := (HI.out.below.cell (block_lt h1)).trans h1
              exact (hg.below.cell (block_lt h2)).trans h2
            clear hsk
            have hcb : (j : Int) < (m.length : Int) := hjlt
            rcases hne with hne | ⟨h1k, hne⟩
            · have e1 : (kd == 1) = false := by simpa using hne
              clear hne
              go_wp2_with fail
              refine wp_region_grow 6 [] NoBlock (fun _ => True) (by kernel_rfl) (by kernel_rfl) (by rfl) (fun _ _ _ _ => trivial) trivial ?_
              simp only [List.take_succ_cons, List.take_zero, List.drop_succ_cons, List.drop_zero]
              repeat (refine wpH_pure (by intro _ _ h; cases h) (by rfl) (by rfl) (fun K hK => ?_); go_simp; refine hK _ ?_; clear hK K)
              refine wpH_hid (fun u x => ∃ R : Nat, u = .pointer (some ⟨R, 0, none⟩) ∧ RadV x R kb0 false ∧ wr.heap.size ≤ R) rfl (by rfl) (fun u x x' hg ⟨R, h1, h2, h3⟩ => ⟨R, h1, h2.stay hg (fun h => h), h3⟩) (fun xs => by rfl) (fun xs w' hg hf => ?_) ?_
              · clear hf
                go_simp
                refine (HRN.out _).mono ?_
                rintro e w'' ⟨R, rfl, hr, hg1, hR⟩
                exact ⟨_, rfl, ⟨R, rfl, hr, Nat.le_trans hg.size hR⟩, hg1⟩
              repeat (refine wpH_pure (by intro _ _ h; cases h) (by rfl) (by rfl) (fun K hK => ?_); go_simp; refine hK _ ?_; clear hK K)
              refine wpH_det (.agg #[.int .i64 kd, .int .i64 nn, .int .u64 m1, .int .u64 m2, .int .u64 m3, .int .u64 m4]) (by rfl) (fun xs => by rfl) (fun xs w' hg hf => ?_) ?_
              · clear hf
                have c0 : w'.cell? ⟨b, off + j * 6, none⟩ = some (.int .i64 kd) := HC.out w' hg 0 _ rfl
                have c1 : w'.cell? ⟨b, off + j * 6 + 1, none⟩ = some (.int .i64 nn) := HC.out w' hg 1 _ rfl
                have c2 : w'.cell? ⟨b, off + j * 6 + 2, none⟩ = some (.int .u64 m1) := HC.out w' hg 2 _ rfl
                have c3 : w'.cell? ⟨b, off + j * 6 + 3, none⟩ = some (.int .u64 m2) := HC.out w' hg 3 _ rfl
                have c4 : w'.cell? ⟨b, off + j * 6 + 4, none⟩ = some (.int .u64 m3) := HC.out w' hg 4 _ rfl
                have c5 : w'.cell? ⟨b, off + j * 6 + 5, none⟩ = some (.int .u64 m4) := HC.out w' hg 5 _ rfl
                clear b0 b1'
                go_simp
                exact Below.refl _ _
              refine wpH_nil ?_
              intro xs w5 hg5 _ hh
              obtain ⟨R, hxR, hr, hR⟩ := hh _ (List.Mem.head _)
              dsimp only at hxR
              simp only [fill]
              rw [hxR]
              have HRR : Hid (RadV w5 R kb0 false ∧ wr.heap.size ≤ R ∧ GrowBut NoBlock wr w5) := ⟨hr, hR, hg5⟩
              clear hh hxR hr hR hg5 b0 b1'
              go_simp
              go_wp2_with fail
              have hdo := HDO.out w5 R HRR.out.2.2 HRR.out.1 HRR.out.2.1
              with_reducible refine hdo.mono ?_
              clear hdo
              rintro e w6 ⟨bb, rfl, hp, hg6⟩
              have HI3 := Lib.hid (HNX.out w5 w6 R _ _ HRR.out.2.2 HRR.out.2.1 hp hg6)
              clear hp hg6
              go_wp2_with fail
              exact ⟨⟨j + 1, _, by omega, by go_num, HI3.out⟩, by simp [intOf]; omega⟩
            · have e1 : (nn == 1) = false := by simpa using hne
              subst h1k
              clear hne
              go_wp2_with fail
              refine wp_region_grow 6 [] NoBlock (fun _ => True) (by kernel_rfl) (by kernel_rfl) (by rfl) (fun _ _ _ _ => trivial) trivial ?_
              simp only [List.take_succ_cons, List.take_zero, List.drop_succ_cons, List.drop_zero]
              repeat (refine wpH_pure (by intro _ _ h; cases h) (by rfl) (by rfl) (fun K hK => ?_); go_simp; refine hK _ ?_; clear hK K)
              refine wpH_hid (fun u x => ∃ R : Nat, u = .pointer (some ⟨R, 0, none⟩) ∧ RadV x R kb0 false ∧ wr.heap.size ≤ R) rfl (by rfl) (fun u x x' hg ⟨R, h1, h2, h3⟩ => ⟨R, h1, h2.stay hg (fun h => h), h3⟩) (fun xs => by rfl) (fun xs w' hg hf => ?_) ?_
              · clear hf
                go_simp
                refine (HRN.out _).mono ?_
                rintro e w'' ⟨R, rfl, hr, hg1, hR⟩
                exact ⟨_, rfl, ⟨R, rfl, hr, Nat.le_trans hg.size hR⟩, hg1⟩
              repeat (refine wpH_pure (by intro _ _ h; cases h) (by rfl) (by rfl) (fun K hK => ?_); go_simp; refine hK _ ?_; clear hK K)
              refine wpH_det (.agg #[.int .i64 1, .int .i64 nn, .int .u64 m1, .int .u64 m2, .int .u64 m3, .int .u64 m4]) (by rfl) (fun xs => by rfl) (fun xs w' hg hf => ?_) ?_
              · clear hf
                have c0 : w'.cell? ⟨b, off + j * 6, none⟩ = some (.int .i64 1) := HC.out w' hg 0 _ rfl
                have c1 : w'.cell? ⟨b, off + j * 6 + 1, none⟩ = some (.int .i64 nn) := HC.out w' hg 1 _ rfl
                have c2 : w'.cell? ⟨b, off + j * 6 + 2, none⟩ = some (.int .u64 m1) := HC.out w' hg 2 _ rfl
                have c3 : w'.cell? ⟨b, off + j * 6 + 3, none⟩ = some (.int .u64 m2) := HC.out w' hg 3 _ rfl
                have c4 : w'.cell? ⟨b, off + j * 6 + 4, none⟩ = some (.int .u64 m3) := HC.out w' hg 4 _ rfl
                have c5 : w'.cell? ⟨b, off + j * 6 + 5, none⟩ = some (.int .u64 m4) := HC.out w' hg 5 _ rfl
                clear b0 b1'
                go_simp
                exact Below.refl _ _
              refine wpH_nil ?_
              intro xs w5 hg5 _ hh
              obtain ⟨R, hxR, hr, hR⟩ := hh _ (List.Mem.head _)
              dsimp only at hxR
              simp only [fill]
              rw [hxR]
              have HRR : Hid (RadV w5 R kb0 false ∧ wr.heap.size ≤ R ∧ GrowBut NoBlock wr w5) := ⟨hr, hR, hg5⟩
              clear hh hxR hr hR hg5 b0 b1'
              go_simp
              go_wp2_with fail
              have hdo := HDO.out w5 R HRR.out.2.2 HRR.out.1 HRR.out.2.1
              with_reducible refine hdo.mono ?_
              clear hdo
              rintro e w6 ⟨bb, rfl, hp, hg6⟩
              have HI3 := Lib.hid (HNX.out w5 w6 R _ _ HRR.out.2.2 HRR.out.2.1 hp hg6)
              clear hp hg6
              go_wp2_with fail
              exact ⟨⟨j + 1, _, by omega, by go_num, HI3.out⟩, by simp [intOf]; omega⟩
    case pos =>
      obtain ⟨b, off, cp, e1, _, _, hall⟩ := HV1.out.solid (fun h => by rw [h] at hlt; simp at hlt)
      injection e1 with e1 _ e2
      subst e1; subst e2
      have hok := HV1.out.okAt hlt
      have hc := hall j hlt
      obtain ⟨x, hx⟩ : ∃ x, l.getD j .zero = x := ⟨_, rfl⟩
      rw [hx] at hok hc
      clear hall hx
      have HOK := Lib.hid hok
      obtain ⟨kd, nn, m1, m2, m3, m4⟩ := x
      have bc : ∀ k u, (ActA.cells ⟨kd, nn, m1, m2, m3, m4⟩)[k]? = some u → w.cell? ⟨b, off + j * 6 + k, none⟩ = some u := fun k u h => hc k u h
      have HBC := Lib.hid bc
      have b0 : wr.cell? ⟨b, off + j * 6, none⟩ = some (.int .i64 kd) := (HI.out.below.cell (block_lt (bc 0 _ rfl))).trans (bc 0 _ rfl)
      have b1' : wr.cell? ⟨b, off + j * 6 + 1, none⟩ = some (.int .i64 nn) := (HI.out.below.cell (block_lt (bc 1 _ rfl))).trans (bc 1 _ rfl)
      clear bc hok hc
      have hjlt : (j : Int) < (l.length : Int) := by omega
      by_cases hsk : kd = 1 ∧ nn = 2
      · obtain ⟨rfl, rfl⟩ := hsk
        have HI3 : Hid (LIP w wr P Q (j + 1) a) := ⟨HI.out.duo, by have := HI.out.mt; omega, HI.out.silent, HI.out.far⟩
        go_wp2_with fail
        exact ⟨⟨j + 1, _, by omega, by go_num, HI3.out⟩, by simp [intOf]; omega⟩
      · have HSK := Lib.hid hsk
        have hne : kd ≠ 1 ∨ (kd = 1 ∧ nn ≠ 2) := by
          by_cases h : kd = 1
          · exact Or.inr ⟨h, fun e => hsk ⟨h, e⟩⟩
          · exact Or.inl h
        have HDO : Hid (∀ (w' : World) (R : Nat), GrowBut NoBlock wr w' → RadV w' R ka0 false → wr.heap.size ≤ R → Calls Try.prog 10 #[.pointer (some ⟨P, 0, none⟩), .pointer (some ⟨R, 0, none⟩), (.agg #[.int .i64 kd, .int .i64 nn, .int .u64 m1, .int .u64 m2, .int .u64 m3, .int .u64 m4])] w' (DoneA w P R (a.act ⟨kd, nn, m1, m2, m3, m4⟩) (ka0.ract false ⟨kd, nn, m1, m2, m3, m4⟩) (ractSd false ⟨kd, nn, m1, m2, m3, m4⟩) w')) := by
          intro w' R hg hr hR
          have hi := HI.out
          have hmt := hi.mt
          have hd := hi.duo.grow hg.below
          have hp : Pair w w' P R a ka0 false := ⟨hd.a, hr, hd.below, hd.hP, Nat.le_trans hi.duo.below.size hR, by have := hi.duo.a.ltP; omega⟩
          exact do_any hp ⟨kd, ⟨nn, m1, m2, m3, m4⟩⟩ HOK.out (by omega) (by decide) hi.silent (by decide) (by decide)
        have HRN : Hid (∀ x, Calls Try.prog 9 #[.int .i64 1, .int .u64 5, .int .i64 3, .int .i64 9] x (SomeRad x ka0)) := fun x => rnew_any 1 5 3 9 x (by omega) (by omega) (by omega) (by omega)
        have HNX : Hid (∀ (w' w3 : World) (R : Nat) (r : Ad) (sd : Bool), GrowBut NoBlock wr w' → wr.heap.size ≤ R → Pair w w3 P R (a.act ⟨kd, nn, m1, m2, m3, m4⟩) r sd → GrowBut (POwn P R) w' w3 → LIP w w3 P Q (j + 1) (a.act ⟨kd, nn, m1, m2, m3, m4⟩)) := by
          intro w' w3 R r sd hg hR hp hg3
          have hi := HI.out
          have hd := hi.duo.grow hg.below
          have hlt1 := hi.duo.a.ltP
          have hlt2 := hi.duo.b.ltP
          have hne := hd.ne
          obtain ⟨k1, k2, k3, k4, k5, k6⟩ := act_keeps ⟨kd, nn, m1, m2, m3, m4⟩ hi.silent (by have := hi.duo.a.ok.dead; omega)
          refine ⟨⟨hp.a, hd.b.stay hg3 (fun e => by unfold POwn at e; omega), hp.below, hd.hP, hd.hQ, hd.ne⟩, by have := hi.mt; omega, k4, act_other_node hi.far.1 (by decide) HSK.out, k6.trans hi.far.2.1, k3.trans hi.far.2.2.1, by have := hi.far.2.2.2; omega⟩
        have HC : Hid (∀ w', GrowBut NoBlock wr w' → ∀ k u, (ActA.cells ⟨kd, nn, m1, m2, m3, m4⟩)[k]? = some u → w'.cell? ⟨b, off + j * 6 + k, none⟩ = some u) := fun w' hg k u h => by
          have h1 := HBC.out k u h
          have h2 := (HI.out.below.cell (block_lt h1)).trans h1
          exact (hg.below.cell (block_lt h2)).trans h2
        clear hsk
        have hcb : (j : Int) < (l.length : Int) := hjlt
        rcases hne with hne | ⟨h1k, hne⟩
        · have e1 : (kd == 1) = false := by simpa using hne
          clear hne
          go_wp2_with fail
          refine wp_region_grow 6 [] NoBlock (fun _ => True) (by kernel_rfl) (by kernel_rfl) (by rfl) (fun _ _ _ _ => trivial) trivial ?_
          simp only [List.take_succ_cons, List.take_zero, List.drop_succ_cons, List.drop_zero]
          repeat (refine wpH_pure (by intro _ _ h; cases h) (by rfl) (by rfl) (fun K hK => ?_); go_simp; refine hK _ ?_; clear hK K)
          refine wpH_hid (fun u x => ∃ R : Nat, u = .pointer (some ⟨R, 0, none⟩) ∧ RadV x R ka0 false ∧ wr.heap.size ≤ R) rfl (by rfl) (fun u x x' hg ⟨R, h1, h2, h3⟩ => ⟨R, h1, h2.stay hg (fun h => h), h3⟩) (fun xs => by rfl) (fun xs w' hg hf => ?_) ?_
          · clear hf
            go_simp
            refine (HRN.out _).mono ?_
            rintro e w'' ⟨R, rfl, hr, hg1, hR⟩
            exact ⟨_, rfl, ⟨R, rfl, hr, Nat.le_trans hg.size hR⟩, hg1⟩
          repeat (refine wpH_pure (by intro _ _ h; cases h) (by rfl) (by rfl) (fun K hK => ?_); go_simp; refine hK _ ?_; clear hK K)
          refine wpH_det (.agg #[.int .i64 kd, .int .i64 nn, .int .u64 m1, .int .u64 m2, .int .u64 m3, .int .u64 m4]) (by rfl) (fun xs => by rfl) (fun xs w' hg hf => ?_) ?_
          · clear hf
            have c0 : w'.cell? ⟨b, off + j * 6, none⟩ = some (.int .i64 kd) := HC.out w' hg 0 _ rfl
            have c1 : w'.cell? ⟨b, off + j * 6 + 1, none⟩ = some (.int .i64 nn) := HC.out w' hg 1 _ rfl
            have c2 : w'.cell? ⟨b, off + j * 6 + 2, none⟩ = some (.int .u64 m1) := HC.out w' hg 2 _ rfl
            have c3 : w'.cell? ⟨b, off + j * 6 + 3, none⟩ = some (.int .u64 m2) := HC.out w' hg 3 _ rfl
            have c4 : w'.cell? ⟨b, off + j * 6 + 4, none⟩ = some (.int .u64 m3) := HC.out w' hg 4 _ rfl
            have c5 : w'.cell? ⟨b, off + j * 6 + 5, none⟩ = some (.int .u64 m4) := HC.out w' hg 5 _ rfl
            clear b0 b1'
            go_simp
            exact Below.refl _ _
          refine wpH_nil ?_
          intro xs w5 hg5 _ hh
          obtain ⟨R, hxR, hr, hR⟩ := hh _ (List.Mem.head _)
          dsimp only at hxR
          simp only [fill]
          rw [hxR]
          have HRR : Hid (RadV w5 R ka0 false ∧ wr.heap.size ≤ R ∧ GrowBut NoBlock wr w5) := ⟨hr, hR, hg5⟩
          clear hh hxR hr hR hg5 b0 b1'
          go_simp
          go_wp2_with fail
          have hdo := HDO.out w5 R HRR.out.2.2 HRR.out.1 HRR.out.2.1
          with_reducible refine hdo.mono ?_
          clear hdo
          rintro e w6 ⟨bb, rfl, hp, hg6⟩
          have HI3 := Lib.hid (HNX.out w5 w6 R _ _ HRR.out.2.2 HRR.out.2.1 hp hg6)
          clear hp hg6
          go_wp2_with fail
          exact ⟨⟨j + 1, _, by omega, by go_num, HI3.out⟩, by simp [intOf]; omega⟩
        · have e1 : (nn == 2) = false := by simpa using hne
          subst h1k
          clear hne
          go_wp2_with fail
          refine wp_region_grow 6 [] NoBlock (fun _ => True) (by kernel_rfl) (by kernel_rfl) (by rfl) (fun _ _ _ _ => trivial) trivial ?_
          simp only [List.take_succ_cons, List.take_zero, List.drop_succ_cons, List.drop_zero]
          repeat (refine wpH_pure (by intro _ _ h; cases h) (by rfl) (by rfl) (fun K hK => ?_); go_simp; refine hK _ ?_; clear hK K)
          refine wpH_hid (fun u x => ∃ R : Nat, u = .pointer (some ⟨R, 0, none⟩) ∧ RadV x R ka0 false ∧ wr.heap.size ≤ R) rfl (by rfl) (fun u x x' hg ⟨R, h1, h2, h3⟩ => ⟨R, h1, h2.stay hg (fun h => h), h3⟩) (fun xs => by rfl) (fun xs w' hg hf => ?_) ?_
          · clear hf
            go_simp
            refine (HRN.out _).mono ?_
            rintro e w'' ⟨R, rfl, hr, hg1, hR⟩
            exact ⟨_, rfl, ⟨R, rfl, hr, Nat.le_trans hg.size hR⟩, hg1⟩
          repeat (refine wpH_pure (by intro _ _ h; cases h) (by rfl) (by rfl) (fun K hK => ?_); go_simp; refine hK _ ?_; clear hK K)
          refine wpH_det (.agg #[.int .i64 1, .int .i64 nn, .int .u64 m1, .int .u64 m2, .int .u64 m3, .int .u64 m4]) (by rfl) (fun xs => by rfl) (fun xs w' hg hf => ?_) ?_
          · clear hf
            have c0 : w'.cell? ⟨b, off + j * 6, none⟩ = some (.int .i64 1) := HC.out w' hg 0 _ rfl
            have c1 : w'.cell? ⟨b, off + j * 6 + 1, none⟩ = some (.int .i64 nn) := HC.out w' hg 1 _ rfl
            have c2 : w'.cell? ⟨b, off + j * 6 + 2, none⟩ = some (.int .u64 m1) := HC.out w' hg 2 _ rfl
            have c3 : w'.cell? ⟨b, off + j * 6 + 3, none⟩ = some (.int .u64 m2) := HC.out w' hg 3 _ rfl
            have c4 : w'.cell? ⟨b, off + j * 6 + 4, none⟩ = some (.int .u64 m3) := HC.out w' hg 4 _ rfl
            have c5 : w'.cell? ⟨b, off + j * 6 + 5, none⟩ = some (.int .u64 m4) := HC.out w' hg 5 _ rfl
            clear b0 b1'
            go_simp
            exact Below.refl _ _
          refine wpH_nil ?_
          intro xs w5 hg5 _ hh
          obtain ⟨R, hxR, hr, hR⟩ := hh _ (List.Mem.head _)
          dsimp only at hxR
          simp only [fill]
          rw [hxR]
          have HRR : Hid (RadV w5 R ka0 false ∧ wr.heap.size ≤ R ∧ GrowBut NoBlock wr w5) := ⟨hr, hR, hg5⟩
          clear hh hxR hr hR hg5 b0 b1'
          go_simp
          go_wp2_with fail
          have hdo := HDO.out w5 R HRR.out.2.2 HRR.out.1 HRR.out.2.1
          with_reducible refine hdo.mono ?_
          clear hdo
          rintro e w6 ⟨bb, rfl, hp, hg6⟩
          have HI3 := Lib.hid (HNX.out w5 w6 R _ _ HRR.out.2.2 HRR.out.2.1 hp hg6)
          clear hp hg6
          go_wp2_with fail
          exact ⟨⟨j + 1, _, by omega, by go_num, HI3.out⟩, by simp [intOf]; omega⟩

theorem walk (v : Value) (l : List ActA) (v2 : Value) (m : List ActA) (w : World) (hv : ActsV w v l) (hv2 : ActsV w v2 m) :
    Calls Try.prog 5 #[v, v2] w fun e w' => e = .returned (.bool true) ∧ Below w.heap.size w w' := by
  by_cases h : 100 < l.length ∨ 100 < m.length
  · exact walk0 v l v2 m w hv hv2 h
  · exact walk1 v l v2 m w hv hv2 (by omega) (by omega)


set_option maxRecDepth 100000 in
theorem lifted (os : Os) (started : os.Started) (H : Type) (enc : TypeId × Value → H) :
    ReturnsInHanded {} Try.checked os 5 .any (Rows.adjMeetsSpec.pre6 enc Try.prog Try.f5 Rows.adjMeetsRow.domain false) (Rows.adjMeetsSpec.post enc Try.prog Try.f5 false true false false) := by
  refine returnsInHanded_of_change (C := Try.checked) own started (by kernel_rfl) Try.func5
    (ChangeSpec.witness6 (enc := enc) (C := Try.checked) false ⟨#[], #[.slice none 0 0, .slice none 0 0], []⟩ 8 (by kernel_rfl) (by kernel_rfl) (by kernel_rfl) (by kernel_rfl)) ?_
  intro W base args ds gs before hval0 hW hcnd _
  have hval : ∀ (j : Nat) t v, Try.f5.params[j]? = some t → args[j]? = some v → Value.okWide Try.prog W .any base t v := hval0
  have hW' := hW
  obtain ⟨p, q, hA0, hV, rfl, hfz, hnd⟩ := hW
  have hA : DataW.TrodAll enc Try.prog W 0 (fun _ => true) true Try.f5.params.toList args.toList ds p := hA0
  rw [Try.params5] at hA hval
  obtain ⟨v0, vs0, d0, ds0, p0, q0, hargs, rfl, rfl, h0, r0⟩ := trodAll_cons hA
  obtain ⟨v1, vs1, d1, ds1, p1, q1, rfl, rfl, rfl, h1, r1⟩ := trodAll_cons r0
  obtain ⟨rfl, rfl, rfl⟩ := trodAll_nil r1
  obtain rfl : args = #[v0, v1] := by cases args; simp_all
  obtain ⟨rfl, rfl⟩ := trodVars_none hV
  have k0 := h0
  have lt0 : ∀ x ∈ p0, x.block < W.heap.size := by obtain ⟨m, hm⟩ := k0; exact DataW.trod_lt m _ _ _ hm
  have k1 := h1
  have lt1 : ∀ x ∈ p1, x.block < W.heap.size := by obtain ⟨m, hm⟩ := k1; exact DataW.trod_lt m _ _ _ hm
  obtain ⟨z0, w0⟩ : ∃ l, ActsV W v0 l := open_acts (hval 0 22 v0 rfl rfl) h0
  obtain ⟨z1, w1⟩ : ∃ l, ActsV W v1 l := open_acts (hval 1 22 v1 rfl rfl) h1
  clear hA0 hval0
  refine (walk v0 z0 v1 z1 W w0 w1).mono fun e W' ⟨he, bel⟩ => ?_
  subst he
  exact ⟨_, rfl, _, _, _, [], _, [], hW', trodAll_mk1 (shut_bool Try.underlying4 _), (trodAll_cons_mk (Below.trod laidOut (by kernel_rfl) (of_decide_eq_true (by kernel_rfl)) k0 bel lt0) (trodAll_cons_mk (Below.trod laidOut (by kernel_rfl) (of_decide_eq_true (by kernel_rfl)) k1 bel lt1) trodAll_mk0)), rfl, bel.frame _, fun h => by cases h⟩

theorem over : Rows.adjMeetsRow.holds Try.pinned (OpenSpec.ofChange Rows.adjMeetsSpec) :=
  OpenClaim.holds_of_wide 5 Try.f5 rfl rfl rfl rfl rfl rfl rfl ⟨rfl, rfl, rfl, rfl, rfl⟩ rfl rfl rfl rfl rfl (by kernel_rfl) Try.func5 (by kernel_rfl)
    (of_decide_eq_true (by kernel_rfl)) (by unfold Func.isWrapper; first | (rw [if_pos (by decide +kernel)]; kernel_rfl) | (rw [if_neg (by decide +kernel)]; exact ⟨rfl, rfl⟩))
    (fun os started H enc _ => lifted os started H enc)

/-- The statement. -/
theorem proved : Rows.AdjMeetsSaid := over
end Go.Proofs.Ytnpmdiekcdjfaaa.adjMeets
