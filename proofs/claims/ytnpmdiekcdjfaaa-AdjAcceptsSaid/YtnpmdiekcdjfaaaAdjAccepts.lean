/- Of which session a frame is accepted; at most 200 acts. -/
import Derived.Test.YtnpmdiekcdjfaaaRows
import Derived.Test.YtnpmdiekcdjfaaaOpenActsA
import Derived.WalkKit
import Derived.ProofKit
import Derived.OpenShut
import Derived.ShutString
import Derived.ChangeOld
import Derived.Below
set_option linter.unusedVariables false
namespace Go.Proofs.Ytnpmdiekcdjfaaa.adjAccepts
open Go.ChangeShapes Go.WideShapes Go.ChangeAt Go.RowKit
open Go.ChangeMaps (open_string shut_string)
set_option linter.unusedSimpArgs false
theorem own : ownKnob Try.prog.godebug = none := by kernel_rfl
theorem laidOut : laidOutB Try.prog = true := by kernel_rfl

/-- A view in a block stays. -/
theorem view_cells {M : Nat → Prop} {w1 w2 : World} {B : Nat} {s mb mt tb tt o : Int} (h1 : w1.heap[B]? = some (.cells #[.int .i64 s, .int .u64 mb, .int .u64 mt, .int .u64 tb, .int .u64 tt, .int .i64 o] 40 (0, 0))) (hg : GrowBut M w1 w2) (hm : ¬ M B) :
    w2.cell? ⟨B, 0, none⟩ = some (.int .i64 s) ∧ w2.cell? ⟨B, 1, none⟩ = some (.int .u64 mb) ∧ w2.cell? ⟨B, 2, none⟩ = some (.int .u64 mt) ∧ w2.cell? ⟨B, 3, none⟩ = some (.int .u64 tb) ∧ w2.cell? ⟨B, 4, none⟩ = some (.int .u64 tt) ∧ w2.cell? ⟨B, 5, none⟩ = some (.int .i64 o) := by
  have e := (hg.block B (lt_of_block h1) hm).trans h1
  refine ⟨?_, ?_, ?_, ?_, ?_, ?_⟩ <;> simp [World.cell?, e]
theorem tag_cells {M : Nat → Prop} {w1 w2 : World} {B : Nat} {b t : Int} (h1 : w1.heap[B]? = some (.cells #[.int .u64 b, .int .u64 t] 25 (0, 0))) (hg : GrowBut M w1 w2) (hm : ¬ M B) :
    w2.cell? ⟨B, 0, none⟩ = some (.int .u64 b) ∧ w2.cell? ⟨B, 1, none⟩ = some (.int .u64 t) := by
  have e := (hg.block B (lt_of_block h1) hm).trans h1
  refine ⟨?_, ?_⟩ <;> simp [World.cell?, e]

theorem Pair.of_new {w w1 w2 : World} {P Q : Nat} {a r : Ad} (h1 : AdV w1 P a) (g1 : Grow w w1) (hP : w.heap.size ≤ P) (h2 : RadV w2 Q r false) (g2 : Grow w1 w2) (hQ : w1.heap.size ≤ Q) : Pair w w2 P Q a r false :=
  ⟨h1.stay (M := NoBlock) (GrowBut.of_below g2) (fun h => h), h2, Grow.trans g1 g2, hP, Nat.le_trans g1.size hQ, by have := h1.ltP; omega⟩

/-- What stands at the loop's head. -/
structure LI (w wr : World) (P Q B : Nat) (b1 t1 b2 t2 : Int) (j : Nat) (a r : Ad) (sd : Bool) : Prop where
  pair : Pair w wr P Q a r sd
  alike : Alike a r
  mt : a.mt ≤ 1 + j
  silent : a.silent < a.dead
  said : r.said ≤ r.every
  t1 : wr.heap[B]? = some (.cells #[.int .u64 b1, .int .u64 t1] 25 (0, 0))
  t2 : wr.heap[B + 1]? = some (.cells #[.int .u64 b2, .int .u64 t2] 25 (0, 0))
  ne : B < P ∧ B + 1 < P ∧ B < Q ∧ B + 1 < Q

theorem accepts_own (a : Ad) : acceptsB a a.other a.mb a.mt a.tb a.tt = decide (a.state = 2) := by
  unfold acceptsB
  rw [Bool.eq_iff_iff]
  simp

set_option maxRecDepth 20000 in
set_option maxHeartbeats 1000000 in
theorem walk1 (v : Value) (l : List ActA) (n b1 t1 b2 t2 : Int) (w : World) (hv : ActsV w v l) (h : 200 < l.length) :
    Calls Try.prog 3 #[v, .int .i64 n, .agg #[.int .u64 b1, .int .u64 t1], .agg #[.int .u64 b2, .int .u64 t2]] w fun e w' => e = .returned (.bool true) ∧ Below w.heap.size w w' := by
  obtain ⟨ao, cap, rfl, h1, h2⟩ := hv.shape
  unfold maxLen at h2
  clear hv
  have HG0 : Hid (Grow w ((w.alloc (.cells #[.int .u64 b1, .int .u64 t1] 25)).alloc (.cells #[.int .u64 b2, .int .u64 t2] 25))) := ((Grow.refl w).alloc _).alloc _
  go_enter Try.func3, Try.ntmps3
  go_wp2_with (go_at_call 7; refine (known_any _).mono ?_; rintro e w' ⟨rfl, hg⟩; have HG := Lib.hid hg; clear hg)
  go_ret
  exact ⟨rfl, Grow.trans HG0.out HG.out⟩

/-- Behind the loop. -/
def After (w wr : World) (P Q B : Nat) (n b1 t1 b2 t2 : Int) (a r : Ad) (sd : Bool) : Prop := ∃ j, LI w wr P Q B b1 t1 b2 t2 j a r sd

set_option maxRecDepth 20000 in
set_option maxHeartbeats 16000000 in
theorem walk2 (v : Value) (l : List ActA) (n b1 t1 b2 t2 : Int) (w : World) (hv : ActsV w v l) (h : l.length ≤ 200) :
    Calls Try.prog 3 #[v, .int .i64 n, .agg #[.int .u64 b1, .int .u64 t1], .agg #[.int .u64 b2, .int .u64 t2]] w fun e w' => e = .returned (.bool true) ∧ Below w.heap.size w w' := by
  obtain ⟨ao, cap, rfl, h1, h2⟩ := hv.shape
  unfold maxLen at h2
  have HV := Lib.hid hv
  clear hv
  have HN1 : Hid (∀ x, Calls Try.prog 8 #[.int .i64 1, .int .u64 5, .int .i64 3, .int .i64 9] x (SomeAd x ka0)) := fun x => new_any 1 5 3 9 x (by omega) (by omega) (by omega) (by omega)
  have HN2 : Hid (∀ x, Calls Try.prog 9 #[.int .i64 1, .int .u64 5, .int .i64 3, .int .i64 9] x (SomeRad x ka0)) := fun x => rnew_any 1 5 3 9 x (by omega) (by omega) (by omega) (by omega)
  go_enter Try.func3, Try.ntmps3
  go_wp2_with fail
  refine (HN1.out _).mono ?_
  rintro e w1 ⟨P, rfl, h1, g1, hP⟩
  have H1 : Hid (AdV w1 P ka0 ∧ Grow ((w.alloc (.cells #[.int .u64 b1, .int .u64 t1] 25)).alloc (.cells #[.int .u64 b2, .int .u64 t2] 25)) w1 ∧ w.heap.size + 1 + 1 ≤ P) := ⟨h1, g1, by simpa using hP⟩
  clear h1 g1 hP
  go_wp2_with fail
  refine (HN2.out _).mono ?_
  rintro e w2 ⟨Q, rfl, h2, g2, hQ⟩
  have HLI : Hid (LI w w2 P Q w.heap.size b1 t1 b2 t2 0 ka0 ka0 false) := by
    have q1 := H1.out.1
    have q2 := H1.out.2.1
    have q3 := H1.out.2.2
    have q4 := q1.ltP
    have g3 := Grow.trans q2 g2
    have m1 : (w.alloc (.cells #[.int .u64 b1, .int .u64 t1] 25)).heap.size = w.heap.size + 1 := World.size_alloc _ _
    refine ⟨Pair.of_new q1 (Grow.trans (((Grow.refl w).alloc _).alloc _) q2) (by omega) h2 g2 hQ, rfl, by decide, by decide, by decide, ?_, ?_, by omega⟩
    · rw [g3.block w.heap.size (by simp; omega), Below.heap_alloc _ _ _ (by simp)]
      exact heap_alloc_new w _
    · rw [g3.block (w.heap.size + 1) (by simp)]
      have := heap_alloc_new (w.alloc (.cells #[.int .u64 b1, .int .u64 t1] 25)) (.cells #[.int .u64 b2, .int .u64 t2] 25)
      rwa [m1] at this
  clear h2 g2 hQ H1 HN1 HN2
  go_wp2_with fail
  go_loopw [12] (fun i wr => ∃ (j : Nat) (a r : Ad) (sd : Bool), j ≤ l.length ∧ i = .int .i64 j ∧ Hid (LI w wr P Q w.heap.size b1 t1 b2 t2 j a r sd)) (fun i _ => l.length - (intOf i).toNat)
  case atStart => exact ⟨0, ka0, ka0, false, Nat.zero_le _, rfl, HLI.out⟩
  case round =>
    obtain ⟨j, a, r, sd, hj, rfl, HI⟩ := hrel
    by_cases hlt : j < l.length
    · obtain ⟨b, off, cp, e1, _, _, hall⟩ := HV.out.solid (fun h => by rw [h] at hlt; simp at hlt)
      injection e1 with e1 _ e2
      subst e1; subst e2
      have hok := HV.out.okAt hlt
      have hc := hall j hlt
      obtain ⟨x, hx⟩ : ∃ x, l.getD j .zero = x := ⟨_, rfl⟩
      rw [hx] at hok hc
      clear hall hx
      have HOK := Lib.hid hok
      obtain ⟨kd, nn, m1, m2, m3, m4⟩ := x
      have bc : ∀ k u, (ActA.cells ⟨kd, nn, m1, m2, m3, m4⟩)[k]? = some u → wr.cell? ⟨b, off + j * 6 + k, none⟩ = some u := fun k u h => (HI.out.pair.below.cell (block_lt (hc k u h))).trans (hc k u h)
      have b0 : wr.cell? ⟨b, off + j * 6, none⟩ = some (.int .i64 kd) := bc 0 _ rfl
      have b1' : wr.cell? ⟨b, off + j * 6 + 1, none⟩ = some (.int .i64 nn) := bc 1 _ rfl
      have b2' : wr.cell? ⟨b, off + j * 6 + 2, none⟩ = some (.int .u64 m1) := bc 2 _ rfl
      have b3 : wr.cell? ⟨b, off + j * 6 + 3, none⟩ = some (.int .u64 m2) := bc 3 _ rfl
      have b4 : wr.cell? ⟨b, off + j * 6 + 4, none⟩ = some (.int .u64 m3) := bc 4 _ rfl
      have b5 : wr.cell? ⟨b, off + j * 6 + 5, none⟩ = some (.int .u64 m4) := bc 5 _ rfl
      clear bc hok hc
      have HDO : Hid (Calls Try.prog 10 #[.pointer (some ⟨P, 0, none⟩), .pointer (some ⟨Q, 0, none⟩), (ActA.mk kd ⟨nn, m1, m2, m3, m4⟩).val] wr (DoneA w P Q (a.act ⟨kd, nn, m1, m2, m3, m4⟩) (r.ract sd ⟨kd, nn, m1, m2, m3, m4⟩) (ractSd sd ⟨kd, nn, m1, m2, m3, m4⟩) wr)) := by
        have hi := HI.out
        have hmt := hi.mt
        have hal : r.mt = a.mt ∧ r.silent = a.silent ∧ r.dead = a.dead := by have := hi.alike; unfold Alike at this; rw [this]; exact ⟨rfl, rfl, rfl⟩
        have hsl := hi.silent
        exact do_any hi.pair _ HOK.out (by omega) (by omega) hsl (by omega) hi.said
      go_wp2_with fail
      refine HDO.out.mono ?_
      rintro e w3 ⟨bb, rfl, hp, hg⟩
      have HI3 : Hid (LI w w3 P Q w.heap.size b1 t1 b2 t2 (j + 1) (a.act ⟨kd, nn, m1, m2, m3, m4⟩) (r.ract sd ⟨kd, nn, m1, m2, m3, m4⟩) (ractSd sd ⟨kd, nn, m1, m2, m3, m4⟩)) := by
        have hi := HI.out
        obtain ⟨k1, k2, k3, k4, k5, k6⟩ := act_keeps ⟨kd, nn, m1, m2, m3, m4⟩ hi.silent (by have := hi.pair.a.ok.dead; omega)
        have n1 : ¬ POwn P Q w.heap.size := fun e => by have := hi.ne; unfold POwn at e; omega
        have n2 : ¬ POwn P Q (w.heap.size + 1) := fun e => by have := hi.ne; unfold POwn at e; omega
        exact ⟨hp, act_alike hi.alike _, by have := hi.mt; omega, k4, ract_keeps _ hi.pair.r.ok hi.said, (hg.block _ (lt_of_block hi.t1) n1).trans hi.t1, (hg.block _ (lt_of_block hi.t2) n2).trans hi.t2, hi.ne⟩
      clear hp hg b0 b1' b2' b3 b4 b5 HDO
      go_wp2_with fail
      exact ⟨⟨j + 1, _, _, _, by omega, by go_num, HI3.out⟩, by simp [intOf]; omega⟩
    · have hjl : j = l.length := by omega
      subst hjl
      go_wp2_with fail
      refine (view_any HI.out.pair.a).mono ?_
      simp only [Ad.view]
      rintro e w3 ⟨rfl, hg⟩
      have HP3 := Lib.hid (HI.out.pair.grow hg)
      have HAL := Lib.hid HI.out.alike
      have HT3 : Hid (w3.heap[w.heap.size]? = some (.cells #[.int .u64 b1, .int .u64 t1] 25 (0, 0)) ∧ w3.heap[w.heap.size + 1]? = some (.cells #[.int .u64 b2, .int .u64 t2] 25 (0, 0))) := ⟨(hg.block _ (lt_of_block HI.out.t1)).trans HI.out.t1, (hg.block _ (lt_of_block HI.out.t2)).trans HI.out.t2⟩
      have hrs : r.state = a.state ∧ r.other = a.other ∧ r.mb = a.mb ∧ r.mt = a.mt ∧ r.tb = a.tb ∧ r.tt = a.tt := by have := HI.out.alike; unfold Alike at this; rw [this]; exact ⟨rfl, rfl, rfl, rfl, rfl, rfl⟩
      have HRS := Lib.hid hrs
      clear hg HI hrs HLI
      go_wp2_with fail
      have HVB : Hid ((w3.alloc (.cells #[.int .i64 a.state, .int .u64 a.mb, .int .u64 a.mt, .int .u64 a.tb, .int .u64 a.tt, .int .i64 a.other] 40)).heap[w3.heap.size]? = some (.cells #[.int .i64 a.state, .int .u64 a.mb, .int .u64 a.mt, .int .u64 a.tb, .int .u64 a.tt, .int .i64 a.other] 40 (0, 0))) := heap_alloc_new w3 _
      have HR : Hid (RadV (w3.alloc (.cells #[.int .i64 a.state, .int .u64 a.mb, .int .u64 a.mt, .int .u64 a.tb, .int .u64 a.tt, .int .i64 a.other] 40)) Q r sd) := (HP3.out.alloc _).r
      have hacc : ∀ (w' : World), GrowBut NoBlock (w3.alloc (.cells #[.int .i64 a.state, .int .u64 a.mb, .int .u64 a.mt, .int .u64 a.tb, .int .u64 a.tt, .int .i64 a.other] 40)) w' → Calls Try.prog 12 #[.pointer (some ⟨P, 0, none⟩), .int .i64 a.other, .agg #[.int .u64 a.mb, .int .u64 a.mt], .agg #[.int .u64 a.tb, .int .u64 a.tt]] w' fun e w'' => e = .returned (.bool (decide (a.state = 2))) ∧ Grow w' w'' := fun w' hg => by
        have := accepts_any (AdV.stay (M := NoBlock) (HP3.out.alloc _).a hg (fun h => h)) a.other a.mb a.mt a.tb a.tt
        rwa [accepts_own] at this
      by_cases hs : a.state = 2
      · have hd : decide (a.state = 2) = true := by simpa using hs
        rw [hd] at hacc
        have hr2 : r.state = 2 := HRS.out.1.trans hs
        refine wp_region_grow 14 [] NoBlock (fun _ => True) (by kernel_rfl) (by kernel_rfl) (by rfl) (fun _ _ _ _ => trivial) trivial ?_
        simp only [List.take_succ_cons, List.take_zero, List.drop_succ_cons, List.drop_zero]
        repeat (refine wpH_pure (by intro _ _ h; cases h) (by rfl) (by rfl) (fun K hK => ?_); go_simp; refine hK _ ?_; clear hK K)
        refine wpH_det (.int .i64 a.other) (by rfl) (fun xs => by rfl) (fun xs w' hg hf => ?_) ?_
        · clear hf
          obtain ⟨v0, v1, v2, v3, v4, v5⟩ := view_cells (M := NoBlock) HVB.out hg (fun h => h)
          go_simp
          exact Below.refl _ _
        repeat (refine wpH_pure (by intro _ _ h; cases h) (by rfl) (by rfl) (fun K hK => ?_); go_simp; refine hK _ ?_; clear hK K)
        refine wpH_det (.agg #[.int .u64 a.mb, .int .u64 a.mt]) (by rfl) (fun xs => by rfl) (fun xs w' hg hf => ?_) ?_
        · clear hf
          obtain ⟨v0, v1, v2, v3, v4, v5⟩ := view_cells (M := NoBlock) HVB.out hg (fun h => h)
          go_simp
          exact Below.refl _ _
        repeat (refine wpH_pure (by intro _ _ h; cases h) (by rfl) (by rfl) (fun K hK => ?_); go_simp; refine hK _ ?_; clear hK K)
        refine wpH_det (.agg #[.int .u64 a.tb, .int .u64 a.tt]) (by rfl) (fun xs => by rfl) (fun xs w' hg hf => ?_) ?_
        · clear hf
          obtain ⟨v0, v1, v2, v3, v4, v5⟩ := view_cells (M := NoBlock) HVB.out hg (fun h => h)
          go_simp
          exact Below.refl _ _
        refine wpH_det (.bool true) (by rfl) (fun xs => by rfl) (fun xs w' hg hf => ?_) ?_
        · clear hf
          go_simp
          refine (hacc w' hg).mono ?_
          rintro e w'' ⟨rfl, hg1⟩
          exact ⟨_, rfl, rfl, hg1⟩
        repeat (refine wpH_pure (by intro _ _ h; cases h) (by rfl) (by rfl) (fun K hK => ?_); go_simp; refine hK _ ?_; clear hK K)
        refine wpH_det (.int .i64 2) (by rfl) (fun xs => by rfl) (fun xs w' hg hf => ?_) ?_
        · clear hf
          obtain ⟨_, r3, ⟨r4, r5, r6, r7⟩, r8, _⟩ := (RadV.stay (M := NoBlock) HR.out hg (fun h => h)).cells
          rw [hr2] at r3
          go_simp
          exact Below.refl _ _
        repeat (refine wpH_pure (by intro _ _ h; cases h) (by rfl) (by rfl) (fun K hK => ?_); go_simp; refine hK _ ?_; clear hK K)
        refine wpH_nil ?_
        intro xs w4 hg4 _ _
        have HP4 := Lib.hid ((HP3.out.alloc _).grow hg4.below)
        have HG34 := Lib.hid (Grow.trans ((Grow.refl w3).alloc _) hg4.below)
        have HT : Hid (w4.heap[w.heap.size]? = some (.cells #[.int .u64 b1, .int .u64 t1] 25 (0, 0)) ∧ w4.heap[w.heap.size + 1]? = some (.cells #[.int .u64 b2, .int .u64 t2] 25 (0, 0))) := ⟨(HG34.out.block _ (lt_of_block HT3.out.1)).trans HT3.out.1, (HG34.out.block _ (lt_of_block HT3.out.2)).trans HT3.out.2⟩
        clear hacc HR HVB hg4 HT3 HP3 HG34
        have HR := Lib.hid HP4.out.r
        simp only [fill]
        go_simp
        go_wp2_with fail
        by_cases c1 : n = a.other
        case neg =>
          have HRR : Hid (acceptsB a n b1 t1 b2 t2 = false) := by show acceptsB _ _ _ _ _ _ = false; exact decide_eq_false (fun hh => c1 hh.2.2.2.2.2.symm)
          have hacc : ∀ (w' : World), GrowBut NoBlock w4 w' → Calls Try.prog 12 #[.pointer (some ⟨P, 0, none⟩), .int .i64 n, .agg #[.int .u64 b1, .int .u64 t1], .agg #[.int .u64 b2, .int .u64 t2]] w' fun e w'' => e = .returned (.bool false) ∧ Grow w' w'' := fun w' hg => by
            have := accepts_any (AdV.stay (M := NoBlock) HP4.out.a hg (fun h => h)) n b1 t1 b2 t2
            rwa [HRR.out] at this
          have q1 : (n == a.other) = false := by simpa using c1
          clear hs hd c1
          refine wp_region_grow 39 [] NoBlock (fun _ => True) (by kernel_rfl) (by kernel_rfl) (by rfl) (fun _ _ _ _ => trivial) trivial ?_
          simp only [List.take_succ_cons, List.take_zero, List.drop_succ_cons, List.drop_zero]
          repeat (refine wpH_pure (by intro _ _ h; cases h) (by rfl) (by rfl) (fun K hK => ?_); go_simp; refine hK _ ?_; clear hK K)
          refine wpH_det (.agg #[.int .u64 b1, .int .u64 t1]) (by rfl) (fun xs => by rfl) (fun xs w' hg hf => ?_) ?_
          · clear hf
            obtain ⟨x0, x1⟩ := tag_cells (M := NoBlock) HT.out.1 hg (fun h => h)
            go_simp
            exact Below.refl _ _
          refine wpH_det (.agg #[.int .u64 b2, .int .u64 t2]) (by rfl) (fun xs => by rfl) (fun xs w' hg hf => ?_) ?_
          · clear hf
            obtain ⟨x0, x1⟩ := tag_cells (M := NoBlock) HT.out.2 hg (fun h => h)
            go_simp
            exact Below.refl _ _
          refine wpH_det (.bool false) (by rfl) (fun xs => by rfl) (fun xs w' hg hf => ?_) ?_
          · clear hf
            go_simp
            refine (hacc w' hg).mono ?_
            rintro e w'' ⟨rfl, hg1⟩
            exact ⟨_, rfl, rfl, hg1⟩
          repeat (refine wpH_pure (by intro _ _ h; cases h) (by rfl) (by rfl) (fun K hK => ?_); go_simp; refine hK _ ?_; clear hK K)
          refine wpH_det (.int .i64 2) (by rfl) (fun xs => by rfl) (fun xs w' hg hf => ?_) ?_
          · clear hf
            obtain ⟨_, r3, ⟨r4, r5, r6, r7⟩, r8, _⟩ := (RadV.stay (M := NoBlock) HR.out hg (fun h => h)).cells
            rw [hr2] at r3
            go_simp
            exact Below.refl _ _
          repeat (refine wpH_pure (by intro _ _ h; cases h) (by rfl) (by rfl) (fun K hK => ?_); go_simp; refine hK _ ?_; clear hK K)
          refine wpH_det (.int .i64 a.other) (by rfl) (fun xs => by rfl) (fun xs w' hg hf => ?_) ?_
          · clear hf
            obtain ⟨_, r3, ⟨r4, r5, r6, r7⟩, r8, _⟩ := (RadV.stay (M := NoBlock) HR.out hg (fun h => h)).cells
            rw [HRS.out.2.1] at r8
            go_simp
            exact Below.refl _ _
          repeat (refine wpH_pure (by intro _ _ h; cases h) (by rfl) (by rfl) (fun K hK => ?_); go_simp; refine hK _ ?_; clear hK K)
          refine wpH_det (.bool true) (by rfl) (fun xs => by rfl) (fun xs w' hg hf => ?_) ?_
          · clear hf
            go_simp
            refine (known_any _).mono ?_
            rintro e w' ⟨rfl, hg1⟩
            exact ⟨_, rfl, rfl, hg1⟩
          repeat (refine wpH_pure (by intro _ _ h; cases h) (by rfl) (by rfl) (fun K hK => ?_); go_simp; refine hK _ ?_; clear hK K)
          refine wpH_nil ?_
          intro xs5 w5 hg5 _ _
          have HF : Hid (Below w.heap.size w w5) := HP4.out.below.trans (Below.mono hg5.below HP4.out.below.size)
          clear hg5 hacc HR HT HP4
          simp only [fill]
          go_simp
          go_wp2_with fail
          go_ret
          exact ⟨rfl, HF.out⟩
        case pos =>
          have q1 : (n == a.other) = true := by simpa using c1
          by_cases c2 : b1 = a.mb
          case neg =>
            have HRR : Hid (acceptsB a n b1 t1 b2 t2 = false) := by show acceptsB _ _ _ _ _ _ = false; exact decide_eq_false (fun hh => c2 hh.2.1.symm)
            have hacc : ∀ (w' : World), GrowBut NoBlock w4 w' → Calls Try.prog 12 #[.pointer (some ⟨P, 0, none⟩), .int .i64 n, .agg #[.int .u64 b1, .int .u64 t1], .agg #[.int .u64 b2, .int .u64 t2]] w' fun e w'' => e = .returned (.bool false) ∧ Grow w' w'' := fun w' hg => by
              have := accepts_any (AdV.stay (M := NoBlock) HP4.out.a hg (fun h => h)) n b1 t1 b2 t2
              rwa [HRR.out] at this
            have q2 : (b1 == a.mb) = false := by simpa using c2
            clear hs hd c1 c2
            refine wp_region_grow 39 [] NoBlock (fun _ => True) (by kernel_rfl) (by kernel_rfl) (by rfl) (fun _ _ _ _ => trivial) trivial ?_
            simp only [List.take_succ_cons, List.take_zero, List.drop_succ_cons, List.drop_zero]
            repeat (refine wpH_pure (by intro _ _ h; cases h) (by rfl) (by rfl) (fun K hK => ?_); go_simp; refine hK _ ?_; clear hK K)
            refine wpH_det (.agg #[.int .u64 b1, .int .u64 t1]) (by rfl) (fun xs => by rfl) (fun xs w' hg hf => ?_) ?_
            · clear hf
              obtain ⟨x0, x1⟩ := tag_cells (M := NoBlock) HT.out.1 hg (fun h => h)
              go_simp
              exact Below.refl _ _
            refine wpH_det (.agg #[.int .u64 b2, .int .u64 t2]) (by rfl) (fun xs => by rfl) (fun xs w' hg hf => ?_) ?_
            · clear hf
              obtain ⟨x0, x1⟩ := tag_cells (M := NoBlock) HT.out.2 hg (fun h => h)
              go_simp
              exact Below.refl _ _
            refine wpH_det (.bool false) (by rfl) (fun xs => by rfl) (fun xs w' hg hf => ?_) ?_
            · clear hf
              go_simp
              refine (hacc w' hg).mono ?_
              rintro e w'' ⟨rfl, hg1⟩
              exact ⟨_, rfl, rfl, hg1⟩
            repeat (refine wpH_pure (by intro _ _ h; cases h) (by rfl) (by rfl) (fun K hK => ?_); go_simp; refine hK _ ?_; clear hK K)
            refine wpH_det (.int .i64 2) (by rfl) (fun xs => by rfl) (fun xs w' hg hf => ?_) ?_
            · clear hf
              obtain ⟨_, r3, ⟨r4, r5, r6, r7⟩, r8, _⟩ := (RadV.stay (M := NoBlock) HR.out hg (fun h => h)).cells
              rw [hr2] at r3
              go_simp
              exact Below.refl _ _
            repeat (refine wpH_pure (by intro _ _ h; cases h) (by rfl) (by rfl) (fun K hK => ?_); go_simp; refine hK _ ?_; clear hK K)
            refine wpH_det (.int .i64 a.other) (by rfl) (fun xs => by rfl) (fun xs w' hg hf => ?_) ?_
            · clear hf
              obtain ⟨_, r3, ⟨r4, r5, r6, r7⟩, r8, _⟩ := (RadV.stay (M := NoBlock) HR.out hg (fun h => h)).cells
              rw [HRS.out.2.1] at r8
              go_simp
              exact Below.refl _ _
            repeat (refine wpH_pure (by intro _ _ h; cases h) (by rfl) (by rfl) (fun K hK => ?_); go_simp; refine hK _ ?_; clear hK K)
            refine wpH_det (.agg #[.int .u64 b1, .int .u64 t1]) (by rfl) (fun xs => by rfl) (fun xs w' hg hf => ?_) ?_
            · clear hf
              obtain ⟨x0, x1⟩ := tag_cells (M := NoBlock) HT.out.1 hg (fun h => h)
              go_simp
              exact Below.refl _ _
            repeat (refine wpH_pure (by intro _ _ h; cases h) (by rfl) (by rfl) (fun K hK => ?_); go_simp; refine hK _ ?_; clear hK K)
            refine wpH_det (.agg #[.int .u64 a.mb, .int .u64 a.mt]) (by rfl) (fun xs => by rfl) (fun xs w' hg hf => ?_) ?_
            · clear hf
              obtain ⟨_, r3, ⟨r4, r5, r6, r7⟩, r8, _⟩ := (RadV.stay (M := NoBlock) HR.out hg (fun h => h)).cells
              rw [HRS.out.2.2.1] at r4
              rw [HRS.out.2.2.2.1] at r5
              go_simp
              exact Below.refl _ _
            repeat (refine wpH_pure (by intro _ _ h; cases h) (by rfl) (by rfl) (fun K hK => ?_); go_simp; refine hK _ ?_; clear hK K)
            refine wpH_det (.bool true) (by rfl) (fun xs => by rfl) (fun xs w' hg hf => ?_) ?_
            · clear hf
              go_simp
              refine (known_any _).mono ?_
              rintro e w' ⟨rfl, hg1⟩
              exact ⟨_, rfl, rfl, hg1⟩
            repeat (refine wpH_pure (by intro _ _ h; cases h) (by rfl) (by rfl) (fun K hK => ?_); go_simp; refine hK _ ?_; clear hK K)
            refine wpH_nil ?_
            intro xs5 w5 hg5 _ _
            have HF : Hid (Below w.heap.size w w5) := HP4.out.below.trans (Below.mono hg5.below HP4.out.below.size)
            clear hg5 hacc HR HT HP4
            simp only [fill]
            go_simp
            go_wp2_with fail
            go_ret
            exact ⟨rfl, HF.out⟩
          case pos =>
            have q2 : (b1 == a.mb) = true := by simpa using c2
            by_cases c3 : t1 = a.mt
            case neg =>
              have HRR : Hid (acceptsB a n b1 t1 b2 t2 = false) := by show acceptsB _ _ _ _ _ _ = false; exact decide_eq_false (fun hh => c3 hh.2.2.1.symm)
              have hacc : ∀ (w' : World), GrowBut NoBlock w4 w' → Calls Try.prog 12 #[.pointer (some ⟨P, 0, none⟩), .int .i64 n, .agg #[.int .u64 b1, .int .u64 t1], .agg #[.int .u64 b2, .int .u64 t2]] w' fun e w'' => e = .returned (.bool false) ∧ Grow w' w'' := fun w' hg => by
                have := accepts_any (AdV.stay (M := NoBlock) HP4.out.a hg (fun h => h)) n b1 t1 b2 t2
                rwa [HRR.out] at this
              have q3 : (t1 == a.mt) = false := by simpa using c3
              clear hs hd c1 c2 c3
              refine wp_region_grow 39 [] NoBlock (fun _ => True) (by kernel_rfl) (by kernel_rfl) (by rfl) (fun _ _ _ _ => trivial) trivial ?_
              simp only [List.take_succ_cons, List.take_zero, List.drop_succ_cons, List.drop_zero]
              repeat (refine wpH_pure (by intro _ _ h; cases h) (by rfl) (by rfl) (fun K hK => ?_); go_simp; refine hK _ ?_; clear hK K)
              refine wpH_det (.agg #[.int .u64 b1, .int .u64 t1]) (by rfl) (fun xs => by rfl) (fun xs w' hg hf => ?_) ?_
              · clear hf
                obtain ⟨x0, x1⟩ := tag_cells (M := NoBlock) HT.out.1 hg (fun h => h)
                go_simp
                exact Below.refl _ _
              refine wpH_det (.agg #[.int .u64 b2, .int .u64 t2]) (by rfl) (fun xs => by rfl) (fun xs w' hg hf => ?_) ?_
              · clear hf
                obtain ⟨x0, x1⟩ := tag_cells (M := NoBlock) HT.out.2 hg (fun h => h)
                go_simp
                exact Below.refl _ _
              refine wpH_det (.bool false) (by rfl) (fun xs => by rfl) (fun xs w' hg hf => ?_) ?_
              · clear hf
                go_simp
                refine (hacc w' hg).mono ?_
                rintro e w'' ⟨rfl, hg1⟩
                exact ⟨_, rfl, rfl, hg1⟩
              repeat (refine wpH_pure (by intro _ _ h; cases h) (by rfl) (by rfl) (fun K hK => ?_); go_simp; refine hK _ ?_; clear hK K)
              refine wpH_det (.int .i64 2) (by rfl) (fun xs => by rfl) (fun xs w' hg hf => ?_) ?_
              · clear hf
                obtain ⟨_, r3, ⟨r4, r5, r6, r7⟩, r8, _⟩ := (RadV.stay (M := NoBlock) HR.out hg (fun h => h)).cells
                rw [hr2] at r3
                go_simp
                exact Below.refl _ _
              repeat (refine wpH_pure (by intro _ _ h; cases h) (by rfl) (by rfl) (fun K hK => ?_); go_simp; refine hK _ ?_; clear hK K)
              refine wpH_det (.int .i64 a.other) (by rfl) (fun xs => by rfl) (fun xs w' hg hf => ?_) ?_
              · clear hf
                obtain ⟨_, r3, ⟨r4, r5, r6, r7⟩, r8, _⟩ := (RadV.stay (M := NoBlock) HR.out hg (fun h => h)).cells
                rw [HRS.out.2.1] at r8
                go_simp
                exact Below.refl _ _
              repeat (refine wpH_pure (by intro _ _ h; cases h) (by rfl) (by rfl) (fun K hK => ?_); go_simp; refine hK _ ?_; clear hK K)
              refine wpH_det (.agg #[.int .u64 b1, .int .u64 t1]) (by rfl) (fun xs => by rfl) (fun xs w' hg hf => ?_) ?_
              · clear hf
                obtain ⟨x0, x1⟩ := tag_cells (M := NoBlock) HT.out.1 hg (fun h => h)
                go_simp
                exact Below.refl _ _
              repeat (refine wpH_pure (by intro _ _ h; cases h) (by rfl) (by rfl) (fun K hK => ?_); go_simp; refine hK _ ?_; clear hK K)
              refine wpH_det (.agg #[.int .u64 a.mb, .int .u64 a.mt]) (by rfl) (fun xs => by rfl) (fun xs w' hg hf => ?_) ?_
              · clear hf
                obtain ⟨_, r3, ⟨r4, r5, r6, r7⟩, r8, _⟩ := (RadV.stay (M := NoBlock) HR.out hg (fun h => h)).cells
                rw [HRS.out.2.2.1] at r4
                rw [HRS.out.2.2.2.1] at r5
                go_simp
                exact Below.refl _ _
              repeat (refine wpH_pure (by intro _ _ h; cases h) (by rfl) (by rfl) (fun K hK => ?_); go_simp; refine hK _ ?_; clear hK K)
              refine wpH_det (.bool true) (by rfl) (fun xs => by rfl) (fun xs w' hg hf => ?_) ?_
              · clear hf
                go_simp
                refine (known_any _).mono ?_
                rintro e w' ⟨rfl, hg1⟩
                exact ⟨_, rfl, rfl, hg1⟩
              repeat (refine wpH_pure (by intro _ _ h; cases h) (by rfl) (by rfl) (fun K hK => ?_); go_simp; refine hK _ ?_; clear hK K)
              refine wpH_nil ?_
              intro xs5 w5 hg5 _ _
              have HF : Hid (Below w.heap.size w w5) := HP4.out.below.trans (Below.mono hg5.below HP4.out.below.size)
              clear hg5 hacc HR HT HP4
              simp only [fill]
              go_simp
              go_wp2_with fail
              go_ret
              exact ⟨rfl, HF.out⟩
            case pos =>
              have q3 : (t1 == a.mt) = true := by simpa using c3
              by_cases c4 : b2 = a.tb
              case neg =>
                have HRR : Hid (acceptsB a n b1 t1 b2 t2 = false) := by show acceptsB _ _ _ _ _ _ = false; exact decide_eq_false (fun hh => c4 hh.2.2.2.1.symm)
                have hacc : ∀ (w' : World), GrowBut NoBlock w4 w' → Calls Try.prog 12 #[.pointer (some ⟨P, 0, none⟩), .int .i64 n, .agg #[.int .u64 b1, .int .u64 t1], .agg #[.int .u64 b2, .int .u64 t2]] w' fun e w'' => e = .returned (.bool false) ∧ Grow w' w'' := fun w' hg => by
                  have := accepts_any (AdV.stay (M := NoBlock) HP4.out.a hg (fun h => h)) n b1 t1 b2 t2
                  rwa [HRR.out] at this
                have q4 : (b2 == a.tb) = false := by simpa using c4
                clear hs hd c1 c2 c3 c4
                refine wp_region_grow 39 [] NoBlock (fun _ => True) (by kernel_rfl) (by kernel_rfl) (by rfl) (fun _ _ _ _ => trivial) trivial ?_
                simp only [List.take_succ_cons, List.take_zero, List.drop_succ_cons, List.drop_zero]
                repeat (refine wpH_pure (by intro _ _ h; cases h) (by rfl) (by rfl) (fun K hK => ?_); go_simp; refine hK _ ?_; clear hK K)
                refine wpH_det (.agg #[.int .u64 b1, .int .u64 t1]) (by rfl) (fun xs => by rfl) (fun xs w' hg hf => ?_) ?_
                · clear hf
                  obtain ⟨x0, x1⟩ := tag_cells (M := NoBlock) HT.out.1 hg (fun h => h)
                  go_simp
                  exact Below.refl _ _
                refine wpH_det (.agg #[.int .u64 b2, .int .u64 t2]) (by rfl) (fun xs => by rfl) (fun xs w' hg hf => ?_) ?_
                · clear hf
                  obtain ⟨x0, x1⟩ := tag_cells (M := NoBlock) HT.out.2 hg (fun h => h)
                  go_simp
                  exact Below.refl _ _
                refine wpH_det (.bool false) (by rfl) (fun xs => by rfl) (fun xs w' hg hf => ?_) ?_
                · clear hf
                  go_simp
                  refine (hacc w' hg).mono ?_
                  rintro e w'' ⟨rfl, hg1⟩
                  exact ⟨_, rfl, rfl, hg1⟩
                repeat (refine wpH_pure (by intro _ _ h; cases h) (by rfl) (by rfl) (fun K hK => ?_); go_simp; refine hK _ ?_; clear hK K)
                refine wpH_det (.int .i64 2) (by rfl) (fun xs => by rfl) (fun xs w' hg hf => ?_) ?_
                · clear hf
                  obtain ⟨_, r3, ⟨r4, r5, r6, r7⟩, r8, _⟩ := (RadV.stay (M := NoBlock) HR.out hg (fun h => h)).cells
                  rw [hr2] at r3
                  go_simp
                  exact Below.refl _ _
                repeat (refine wpH_pure (by intro _ _ h; cases h) (by rfl) (by rfl) (fun K hK => ?_); go_simp; refine hK _ ?_; clear hK K)
                refine wpH_det (.int .i64 a.other) (by rfl) (fun xs => by rfl) (fun xs w' hg hf => ?_) ?_
                · clear hf
                  obtain ⟨_, r3, ⟨r4, r5, r6, r7⟩, r8, _⟩ := (RadV.stay (M := NoBlock) HR.out hg (fun h => h)).cells
                  rw [HRS.out.2.1] at r8
                  go_simp
                  exact Below.refl _ _
                repeat (refine wpH_pure (by intro _ _ h; cases h) (by rfl) (by rfl) (fun K hK => ?_); go_simp; refine hK _ ?_; clear hK K)
                refine wpH_det (.agg #[.int .u64 b1, .int .u64 t1]) (by rfl) (fun xs => by rfl) (fun xs w' hg hf => ?_) ?_
                · clear hf
                  obtain ⟨x0, x1⟩ := tag_cells (M := NoBlock) HT.out.1 hg (fun h => h)
                  go_simp
                  exact Below.refl _ _
                repeat (refine wpH_pure (by intro _ _ h; cases h) (by rfl) (by rfl) (fun K hK => ?_); go_simp; refine hK _ ?_; clear hK K)
                refine wpH_det (.agg #[.int .u64 a.mb, .int .u64 a.mt]) (by rfl) (fun xs => by rfl) (fun xs w' hg hf => ?_) ?_
                · clear hf
                  obtain ⟨_, r3, ⟨r4, r5, r6, r7⟩, r8, _⟩ := (RadV.stay (M := NoBlock) HR.out hg (fun h => h)).cells
                  rw [HRS.out.2.2.1] at r4
                  rw [HRS.out.2.2.2.1] at r5
                  go_simp
                  exact Below.refl _ _
                repeat (refine wpH_pure (by intro _ _ h; cases h) (by rfl) (by rfl) (fun K hK => ?_); go_simp; refine hK _ ?_; clear hK K)
                refine wpH_det (.agg #[.int .u64 b2, .int .u64 t2]) (by rfl) (fun xs => by rfl) (fun xs w' hg hf => ?_) ?_
                · clear hf
                  obtain ⟨x0, x1⟩ := tag_cells (M := NoBlock) HT.out.2 hg (fun h => h)
                  go_simp
                  exact Below.refl _ _
                repeat (refine wpH_pure (by intro _ _ h; cases h) (by rfl) (by rfl) (fun K hK => ?_); go_simp; refine hK _ ?_; clear hK K)
                refine wpH_det (.agg #[.int .u64 a.tb, .int .u64 a.tt]) (by rfl) (fun xs => by rfl) (fun xs w' hg hf => ?_) ?_
                · clear hf
                  obtain ⟨_, r3, ⟨r4, r5, r6, r7⟩, r8, _⟩ := (RadV.stay (M := NoBlock) HR.out hg (fun h => h)).cells
                  rw [HRS.out.2.2.2.2.1] at r6
                  rw [HRS.out.2.2.2.2.2] at r7
                  go_simp
                  exact Below.refl _ _
                repeat (refine wpH_pure (by intro _ _ h; cases h) (by rfl) (by rfl) (fun K hK => ?_); go_simp; refine hK _ ?_; clear hK K)
                refine wpH_det (.bool true) (by rfl) (fun xs => by rfl) (fun xs w' hg hf => ?_) ?_
                · clear hf
                  go_simp
                  refine (known_any _).mono ?_
                  rintro e w' ⟨rfl, hg1⟩
                  exact ⟨_, rfl, rfl, hg1⟩
                repeat (refine wpH_pure (by intro _ _ h; cases h) (by rfl) (by rfl) (fun K hK => ?_); go_simp; refine hK _ ?_; clear hK K)
                refine wpH_nil ?_
                intro xs5 w5 hg5 _ _
                have HF : Hid (Below w.heap.size w w5) := HP4.out.below.trans (Below.mono hg5.below HP4.out.below.size)
                clear hg5 hacc HR HT HP4
                simp only [fill]
                go_simp
                go_wp2_with fail
                go_ret
                exact ⟨rfl, HF.out⟩
              case pos =>
                have q4 : (b2 == a.tb) = true := by simpa using c4
                by_cases c5 : t2 = a.tt
                case neg =>
                  have HRR : Hid (acceptsB a n b1 t1 b2 t2 = false) := by show acceptsB _ _ _ _ _ _ = false; exact decide_eq_false (fun hh => c5 hh.2.2.2.2.1.symm)
                  have hacc : ∀ (w' : World), GrowBut NoBlock w4 w' → Calls Try.prog 12 #[.pointer (some ⟨P, 0, none⟩), .int .i64 n, .agg #[.int .u64 b1, .int .u64 t1], .agg #[.int .u64 b2, .int .u64 t2]] w' fun e w'' => e = .returned (.bool false) ∧ Grow w' w'' := fun w' hg => by
                    have := accepts_any (AdV.stay (M := NoBlock) HP4.out.a hg (fun h => h)) n b1 t1 b2 t2
                    rwa [HRR.out] at this
                  have q5 : (t2 == a.tt) = false := by simpa using c5
                  clear hs hd c1 c2 c3 c4 c5
                  refine wp_region_grow 39 [] NoBlock (fun _ => True) (by kernel_rfl) (by kernel_rfl) (by rfl) (fun _ _ _ _ => trivial) trivial ?_
                  simp only [List.take_succ_cons, List.take_zero, List.drop_succ_cons, List.drop_zero]
                  repeat (refine wpH_pure (by intro _ _ h; cases h) (by rfl) (by rfl) (fun K hK => ?_); go_simp; refine hK _ ?_; clear hK K)
                  refine wpH_det (.agg #[.int .u64 b1, .int .u64 t1]) (by rfl) (fun xs => by rfl) (fun xs w' hg hf => ?_) ?_
                  · clear hf
                    obtain ⟨x0, x1⟩ := tag_cells (M := NoBlock) HT.out.1 hg (fun h => h)
                    go_simp
                    exact Below.refl _ _
                  refine wpH_det (.agg #[.int .u64 b2, .int .u64 t2]) (by rfl) (fun xs => by rfl) (fun xs w' hg hf => ?_) ?_
                  · clear hf
                    obtain ⟨x0, x1⟩ := tag_cells (M := NoBlock) HT.out.2 hg (fun h => h)
                    go_simp
                    exact Below.refl _ _
                  refine wpH_det (.bool false) (by rfl) (fun xs => by rfl) (fun xs w' hg hf => ?_) ?_
                  · clear hf
                    go_simp
                    refine (hacc w' hg).mono ?_
                    rintro e w'' ⟨rfl, hg1⟩
                    exact ⟨_, rfl, rfl, hg1⟩
                  repeat (refine wpH_pure (by intro _ _ h; cases h) (by rfl) (by rfl) (fun K hK => ?_); go_simp; refine hK _ ?_; clear hK K)
                  refine wpH_det (.int .i64 2) (by rfl) (fun xs => by rfl) (fun xs w' hg hf => ?_) ?_
                  · clear hf
                    obtain ⟨_, r3, ⟨r4, r5, r6, r7⟩, r8, _⟩ := (RadV.stay (M := NoBlock) HR.out hg (fun h => h)).cells
                    rw [hr2] at r3
                    go_simp
                    exact Below.refl _ _
                  repeat (refine wpH_pure (by intro _ _ h; cases h) (by rfl) (by rfl) (fun K hK => ?_); go_simp; refine hK _ ?_; clear hK K)
                  refine wpH_det (.int .i64 a.other) (by rfl) (fun xs => by rfl) (fun xs w' hg hf => ?_) ?_
                  · clear hf
                    obtain ⟨_, r3, ⟨r4, r5, r6, r7⟩, r8, _⟩ := (RadV.stay (M := NoBlock) HR.out hg (fun h => h)).cells
                    rw [HRS.out.2.1] at r8
                    go_simp
                    exact Below.refl _ _
                  repeat (refine wpH_pure (by intro _ _ h; cases h) (by rfl) (by rfl) (fun K hK => ?_); go_simp; refine hK _ ?_; clear hK K)
                  refine wpH_det (.agg #[.int .u64 b1, .int .u64 t1]) (by rfl) (fun xs => by rfl) (fun xs w' hg hf => ?_) ?_
                  · clear hf
                    obtain ⟨x0, x1⟩ := tag_cells (M := NoBlock) HT.out.1 hg (fun h => h)
                    go_simp
                    exact Below.refl _ _
                  repeat (refine wpH_pure (by intro _ _ h; cases h) (by rfl) (by rfl) (fun K hK => ?_); go_simp; refine hK _ ?_; clear hK K)
                  refine wpH_det (.agg #[.int .u64 a.mb, .int .u64 a.mt]) (by rfl) (fun xs => by rfl) (fun xs w' hg hf => ?_) ?_
                  · clear hf
                    obtain ⟨_, r3, ⟨r4, r5, r6, r7⟩, r8, _⟩ := (RadV.stay (M := NoBlock) HR.out hg (fun h => h)).cells
                    rw [HRS.out.2.2.1] at r4
                    rw [HRS.out.2.2.2.1] at r5
                    go_simp
                    exact Below.refl _ _
                  repeat (refine wpH_pure (by intro _ _ h; cases h) (by rfl) (by rfl) (fun K hK => ?_); go_simp; refine hK _ ?_; clear hK K)
                  refine wpH_det (.agg #[.int .u64 b2, .int .u64 t2]) (by rfl) (fun xs => by rfl) (fun xs w' hg hf => ?_) ?_
                  · clear hf
                    obtain ⟨x0, x1⟩ := tag_cells (M := NoBlock) HT.out.2 hg (fun h => h)
                    go_simp
                    exact Below.refl _ _
                  repeat (refine wpH_pure (by intro _ _ h; cases h) (by rfl) (by rfl) (fun K hK => ?_); go_simp; refine hK _ ?_; clear hK K)
                  refine wpH_det (.agg #[.int .u64 a.tb, .int .u64 a.tt]) (by rfl) (fun xs => by rfl) (fun xs w' hg hf => ?_) ?_
                  · clear hf
                    obtain ⟨_, r3, ⟨r4, r5, r6, r7⟩, r8, _⟩ := (RadV.stay (M := NoBlock) HR.out hg (fun h => h)).cells
                    rw [HRS.out.2.2.2.2.1] at r6
                    rw [HRS.out.2.2.2.2.2] at r7
                    go_simp
                    exact Below.refl _ _
                  repeat (refine wpH_pure (by intro _ _ h; cases h) (by rfl) (by rfl) (fun K hK => ?_); go_simp; refine hK _ ?_; clear hK K)
                  refine wpH_det (.bool true) (by rfl) (fun xs => by rfl) (fun xs w' hg hf => ?_) ?_
                  · clear hf
                    go_simp
                    refine (known_any _).mono ?_
                    rintro e w' ⟨rfl, hg1⟩
                    exact ⟨_, rfl, rfl, hg1⟩
                  repeat (refine wpH_pure (by intro _ _ h; cases h) (by rfl) (by rfl) (fun K hK => ?_); go_simp; refine hK _ ?_; clear hK K)
                  refine wpH_nil ?_
                  intro xs5 w5 hg5 _ _
                  have HF : Hid (Below w.heap.size w w5) := HP4.out.below.trans (Below.mono hg5.below HP4.out.below.size)
                  clear hg5 hacc HR HT HP4
                  simp only [fill]
                  go_simp
                  go_wp2_with fail
                  go_ret
                  exact ⟨rfl, HF.out⟩
                case pos =>
                  have q5 : (t2 == a.tt) = true := by simpa using c5
                  have HRR : Hid (acceptsB a n b1 t1 b2 t2 = true) := by show acceptsB _ _ _ _ _ _ = true; exact decide_eq_true ⟨hs, c2.symm, c3.symm, c4.symm, c5.symm, c1.symm⟩
                  have hacc : ∀ (w' : World), GrowBut NoBlock w4 w' → Calls Try.prog 12 #[.pointer (some ⟨P, 0, none⟩), .int .i64 n, .agg #[.int .u64 b1, .int .u64 t1], .agg #[.int .u64 b2, .int .u64 t2]] w' fun e w'' => e = .returned (.bool true) ∧ Grow w' w'' := fun w' hg => by
                    have := accepts_any (AdV.stay (M := NoBlock) HP4.out.a hg (fun h => h)) n b1 t1 b2 t2
                    rwa [HRR.out] at this
                  clear hs hd c1 c2 c3 c4 c5
                  refine wp_region_grow 39 [] NoBlock (fun _ => True) (by kernel_rfl) (by kernel_rfl) (by rfl) (fun _ _ _ _ => trivial) trivial ?_
                  simp only [List.take_succ_cons, List.take_zero, List.drop_succ_cons, List.drop_zero]
                  repeat (refine wpH_pure (by intro _ _ h; cases h) (by rfl) (by rfl) (fun K hK => ?_); go_simp; refine hK _ ?_; clear hK K)
                  refine wpH_det (.agg #[.int .u64 b1, .int .u64 t1]) (by rfl) (fun xs => by rfl) (fun xs w' hg hf => ?_) ?_
                  · clear hf
                    obtain ⟨x0, x1⟩ := tag_cells (M := NoBlock) HT.out.1 hg (fun h => h)
                    go_simp
                    exact Below.refl _ _
                  refine wpH_det (.agg #[.int .u64 b2, .int .u64 t2]) (by rfl) (fun xs => by rfl) (fun xs w' hg hf => ?_) ?_
                  · clear hf
                    obtain ⟨x0, x1⟩ := tag_cells (M := NoBlock) HT.out.2 hg (fun h => h)
                    go_simp
                    exact Below.refl _ _
                  refine wpH_det (.bool true) (by rfl) (fun xs => by rfl) (fun xs w' hg hf => ?_) ?_
                  · clear hf
                    go_simp
                    refine (hacc w' hg).mono ?_
                    rintro e w'' ⟨rfl, hg1⟩
                    exact ⟨_, rfl, rfl, hg1⟩
                  repeat (refine wpH_pure (by intro _ _ h; cases h) (by rfl) (by rfl) (fun K hK => ?_); go_simp; refine hK _ ?_; clear hK K)
                  refine wpH_det (.int .i64 2) (by rfl) (fun xs => by rfl) (fun xs w' hg hf => ?_) ?_
                  · clear hf
                    obtain ⟨_, r3, ⟨r4, r5, r6, r7⟩, r8, _⟩ := (RadV.stay (M := NoBlock) HR.out hg (fun h => h)).cells
                    rw [hr2] at r3
                    go_simp
                    exact Below.refl _ _
                  repeat (refine wpH_pure (by intro _ _ h; cases h) (by rfl) (by rfl) (fun K hK => ?_); go_simp; refine hK _ ?_; clear hK K)
                  refine wpH_det (.int .i64 a.other) (by rfl) (fun xs => by rfl) (fun xs w' hg hf => ?_) ?_
                  · clear hf
                    obtain ⟨_, r3, ⟨r4, r5, r6, r7⟩, r8, _⟩ := (RadV.stay (M := NoBlock) HR.out hg (fun h => h)).cells
                    rw [HRS.out.2.1] at r8
                    go_simp
                    exact Below.refl _ _
                  repeat (refine wpH_pure (by intro _ _ h; cases h) (by rfl) (by rfl) (fun K hK => ?_); go_simp; refine hK _ ?_; clear hK K)
                  refine wpH_det (.agg #[.int .u64 b1, .int .u64 t1]) (by rfl) (fun xs => by rfl) (fun xs w' hg hf => ?_) ?_
                  · clear hf
                    obtain ⟨x0, x1⟩ := tag_cells (M := NoBlock) HT.out.1 hg (fun h => h)
                    go_simp
                    exact Below.refl _ _
                  repeat (refine wpH_pure (by intro _ _ h; cases h) (by rfl) (by rfl) (fun K hK => ?_); go_simp; refine hK _ ?_; clear hK K)
                  refine wpH_det (.agg #[.int .u64 a.mb, .int .u64 a.mt]) (by rfl) (fun xs => by rfl) (fun xs w' hg hf => ?_) ?_
                  · clear hf
                    obtain ⟨_, r3, ⟨r4, r5, r6, r7⟩, r8, _⟩ := (RadV.stay (M := NoBlock) HR.out hg (fun h => h)).cells
                    rw [HRS.out.2.2.1] at r4
                    rw [HRS.out.2.2.2.1] at r5
                    go_simp
                    exact Below.refl _ _
                  repeat (refine wpH_pure (by intro _ _ h; cases h) (by rfl) (by rfl) (fun K hK => ?_); go_simp; refine hK _ ?_; clear hK K)
                  refine wpH_det (.agg #[.int .u64 b2, .int .u64 t2]) (by rfl) (fun xs => by rfl) (fun xs w' hg hf => ?_) ?_
                  · clear hf
                    obtain ⟨x0, x1⟩ := tag_cells (M := NoBlock) HT.out.2 hg (fun h => h)
                    go_simp
                    exact Below.refl _ _
                  repeat (refine wpH_pure (by intro _ _ h; cases h) (by rfl) (by rfl) (fun K hK => ?_); go_simp; refine hK _ ?_; clear hK K)
                  refine wpH_det (.agg #[.int .u64 a.tb, .int .u64 a.tt]) (by rfl) (fun xs => by rfl) (fun xs w' hg hf => ?_) ?_
                  · clear hf
                    obtain ⟨_, r3, ⟨r4, r5, r6, r7⟩, r8, _⟩ := (RadV.stay (M := NoBlock) HR.out hg (fun h => h)).cells
                    rw [HRS.out.2.2.2.2.1] at r6
                    rw [HRS.out.2.2.2.2.2] at r7
                    go_simp
                    exact Below.refl _ _
                  repeat (refine wpH_pure (by intro _ _ h; cases h) (by rfl) (by rfl) (fun K hK => ?_); go_simp; refine hK _ ?_; clear hK K)
                  refine wpH_det (.bool true) (by rfl) (fun xs => by rfl) (fun xs w' hg hf => ?_) ?_
                  · clear hf
                    go_simp
                    refine (known_any _).mono ?_
                    rintro e w' ⟨rfl, hg1⟩
                    exact ⟨_, rfl, rfl, hg1⟩
                  repeat (refine wpH_pure (by intro _ _ h; cases h) (by rfl) (by rfl) (fun K hK => ?_); go_simp; refine hK _ ?_; clear hK K)
                  refine wpH_nil ?_
                  intro xs5 w5 hg5 _ _
                  have HF : Hid (Below w.heap.size w w5) := HP4.out.below.trans (Below.mono hg5.below HP4.out.below.size)
                  clear hg5 hacc HR HT HP4
                  simp only [fill]
                  go_simp
                  go_wp2_with fail
                  go_ret
                  exact ⟨rfl, HF.out⟩
      · have hd : decide (a.state = 2) = false := by simpa using hs
        rw [hd] at hacc
        have hs2 : (a.state == 2) = false := by simpa using hs
        refine wp_region_grow 14 [] NoBlock (fun _ => True) (by kernel_rfl) (by kernel_rfl) (by rfl) (fun _ _ _ _ => trivial) trivial ?_
        simp only [List.take_succ_cons, List.take_zero, List.drop_succ_cons, List.drop_zero]
        repeat (refine wpH_pure (by intro _ _ h; cases h) (by rfl) (by rfl) (fun K hK => ?_); go_simp; refine hK _ ?_; clear hK K)
        refine wpH_det (.int .i64 a.other) (by rfl) (fun xs => by rfl) (fun xs w' hg hf => ?_) ?_
        · clear hf
          obtain ⟨v0, v1, v2, v3, v4, v5⟩ := view_cells (M := NoBlock) HVB.out hg (fun h => h)
          go_simp
          exact Below.refl _ _
        repeat (refine wpH_pure (by intro _ _ h; cases h) (by rfl) (by rfl) (fun K hK => ?_); go_simp; refine hK _ ?_; clear hK K)
        refine wpH_det (.agg #[.int .u64 a.mb, .int .u64 a.mt]) (by rfl) (fun xs => by rfl) (fun xs w' hg hf => ?_) ?_
        · clear hf
          obtain ⟨v0, v1, v2, v3, v4, v5⟩ := view_cells (M := NoBlock) HVB.out hg (fun h => h)
          go_simp
          exact Below.refl _ _
        repeat (refine wpH_pure (by intro _ _ h; cases h) (by rfl) (by rfl) (fun K hK => ?_); go_simp; refine hK _ ?_; clear hK K)
        refine wpH_det (.agg #[.int .u64 a.tb, .int .u64 a.tt]) (by rfl) (fun xs => by rfl) (fun xs w' hg hf => ?_) ?_
        · clear hf
          obtain ⟨v0, v1, v2, v3, v4, v5⟩ := view_cells (M := NoBlock) HVB.out hg (fun h => h)
          go_simp
          exact Below.refl _ _
        refine wpH_det (.bool false) (by rfl) (fun xs => by rfl) (fun xs w' hg hf => ?_) ?_
        · clear hf
          go_simp
          refine (hacc w' hg).mono ?_
          rintro e w'' ⟨rfl, hg1⟩
          exact ⟨_, rfl, rfl, hg1⟩
        repeat (refine wpH_pure (by intro _ _ h; cases h) (by rfl) (by rfl) (fun K hK => ?_); go_simp; refine hK _ ?_; clear hK K)
        refine wpH_det (.int .i64 a.state) (by rfl) (fun xs => by rfl) (fun xs w' hg hf => ?_) ?_
        · clear hf
          obtain ⟨_, r3, ⟨r4, r5, r6, r7⟩, r8, _⟩ := (RadV.stay (M := NoBlock) HR.out hg (fun h => h)).cells
          rw [HRS.out.1] at r3
          go_simp
          exact Below.refl _ _
        repeat (refine wpH_pure (by intro _ _ h; cases h) (by rfl) (by rfl) (fun K hK => ?_); go_simp; refine hK _ ?_; clear hK K)
        refine wpH_nil ?_
        intro xs w4 hg4 _ _
        have HP4 := Lib.hid ((HP3.out.alloc _).grow hg4.below)
        have HG34 := Lib.hid (Grow.trans ((Grow.refl w3).alloc _) hg4.below)
        have HT : Hid (w4.heap[w.heap.size]? = some (.cells #[.int .u64 b1, .int .u64 t1] 25 (0, 0)) ∧ w4.heap[w.heap.size + 1]? = some (.cells #[.int .u64 b2, .int .u64 t2] 25 (0, 0))) := ⟨(HG34.out.block _ (lt_of_block HT3.out.1)).trans HT3.out.1, (HG34.out.block _ (lt_of_block HT3.out.2)).trans HT3.out.2⟩
        clear hacc HR HVB hg4 HT3 HP3 HG34
        have HR := Lib.hid HP4.out.r
        simp only [fill]
        go_simp
        go_wp2_with fail
        have HRR : Hid (acceptsB a n b1 t1 b2 t2 = false) := by show acceptsB _ _ _ _ _ _ = false; exact decide_eq_false (fun hh => hs hh.1)
        have hacc : ∀ (w' : World), GrowBut NoBlock w4 w' → Calls Try.prog 12 #[.pointer (some ⟨P, 0, none⟩), .int .i64 n, .agg #[.int .u64 b1, .int .u64 t1], .agg #[.int .u64 b2, .int .u64 t2]] w' fun e w'' => e = .returned (.bool false) ∧ Grow w' w'' := fun w' hg => by
          have := accepts_any (AdV.stay (M := NoBlock) HP4.out.a hg (fun h => h)) n b1 t1 b2 t2
          rwa [HRR.out] at this
        clear hs hd
        refine wp_region_grow 39 [] NoBlock (fun _ => True) (by kernel_rfl) (by kernel_rfl) (by rfl) (fun _ _ _ _ => trivial) trivial ?_
        simp only [List.take_succ_cons, List.take_zero, List.drop_succ_cons, List.drop_zero]
        repeat (refine wpH_pure (by intro _ _ h; cases h) (by rfl) (by rfl) (fun K hK => ?_); go_simp; refine hK _ ?_; clear hK K)
        refine wpH_det (.agg #[.int .u64 b1, .int .u64 t1]) (by rfl) (fun xs => by rfl) (fun xs w' hg hf => ?_) ?_
        · clear hf
          obtain ⟨x0, x1⟩ := tag_cells (M := NoBlock) HT.out.1 hg (fun h => h)
          go_simp
          exact Below.refl _ _
        refine wpH_det (.agg #[.int .u64 b2, .int .u64 t2]) (by rfl) (fun xs => by rfl) (fun xs w' hg hf => ?_) ?_
        · clear hf
          obtain ⟨x0, x1⟩ := tag_cells (M := NoBlock) HT.out.2 hg (fun h => h)
          go_simp
          exact Below.refl _ _
        refine wpH_det (.bool false) (by rfl) (fun xs => by rfl) (fun xs w' hg hf => ?_) ?_
        · clear hf
          go_simp
          refine (hacc w' hg).mono ?_
          rintro e w'' ⟨rfl, hg1⟩
          exact ⟨_, rfl, rfl, hg1⟩
        repeat (refine wpH_pure (by intro _ _ h; cases h) (by rfl) (by rfl) (fun K hK => ?_); go_simp; refine hK _ ?_; clear hK K)
        refine wpH_det (.int .i64 a.state) (by rfl) (fun xs => by rfl) (fun xs w' hg hf => ?_) ?_
        · clear hf
          obtain ⟨_, r3, ⟨r4, r5, r6, r7⟩, r8, _⟩ := (RadV.stay (M := NoBlock) HR.out hg (fun h => h)).cells
          rw [HRS.out.1] at r3
          go_simp
          exact Below.refl _ _
        repeat (refine wpH_pure (by intro _ _ h; cases h) (by rfl) (by rfl) (fun K hK => ?_); go_simp; refine hK _ ?_; clear hK K)
        refine wpH_det (.bool true) (by rfl) (fun xs => by rfl) (fun xs w' hg hf => ?_) ?_
        · clear hf
          go_simp
          refine (known_any _).mono ?_
          rintro e w' ⟨rfl, hg1⟩
          exact ⟨_, rfl, rfl, hg1⟩
        repeat (refine wpH_pure (by intro _ _ h; cases h) (by rfl) (by rfl) (fun K hK => ?_); go_simp; refine hK _ ?_; clear hK K)
        refine wpH_nil ?_
        intro xs5 w5 hg5 _ _
        have HF : Hid (Below w.heap.size w w5) := HP4.out.below.trans (Below.mono hg5.below HP4.out.below.size)
        clear hg5 hacc HR HT HP4
        simp only [fill]
        go_simp
        go_wp2_with fail
        go_ret
        exact ⟨rfl, HF.out⟩

theorem walk (v : Value) (l : List ActA) (n b1 t1 b2 t2 : Int) (w : World) (hv : ActsV w v l) (hn : (Lit.int .i64 n).wf = true) (_ : U64 b1 ∧ U64 t1) (_ : U64 b2 ∧ U64 t2) :
    Calls Try.prog 3 #[v, .int .i64 n, .agg #[.int .u64 b1, .int .u64 t1], .agg #[.int .u64 b2, .int .u64 t2]] w fun e w' => e = .returned (.bool true) ∧ Below w.heap.size w w' := by
  by_cases h : 200 < l.length
  · exact walk1 v l n b1 t1 b2 t2 w hv h
  · exact walk2 v l n b1 t1 b2 t2 w hv (by omega)


set_option maxRecDepth 100000 in
theorem lifted (os : Os) (started : os.Started) (H : Type) (enc : TypeId × Value → H) :
    ReturnsInHanded {} Try.checked os 3 .any (Rows.adjAcceptsSpec.pre6 enc Try.prog Try.f3 Rows.adjAcceptsRow.domain false) (Rows.adjAcceptsSpec.post enc Try.prog Try.f3 false true false false) := by
  refine returnsInHanded_of_change (C := Try.checked) own started (by kernel_rfl) Try.func3
    (ChangeSpec.witness6 (enc := enc) (C := Try.checked) false ⟨#[], #[.slice none 0 0, .int .i64 0, .agg #[.int .u64 0, .int .u64 0], .agg #[.int .u64 0, .int .u64 0]], []⟩ 8 (by kernel_rfl) (by kernel_rfl) (by kernel_rfl) (by kernel_rfl)) ?_
  intro W base args ds gs before hval0 hW hcnd _
  have hval : ∀ (j : Nat) t v, Try.f3.params[j]? = some t → args[j]? = some v → Value.okWide Try.prog W .any base t v := hval0
  have hW' := hW
  obtain ⟨p, q, hA0, hV, rfl, hfz, hnd⟩ := hW
  have hA : DataW.TrodAll enc Try.prog W 0 (fun _ => true) true Try.f3.params.toList args.toList ds p := hA0
  rw [Try.params3] at hA hval
  obtain ⟨v0, vs0, d0, ds0, p0, q0, hargs, rfl, rfl, h0, r0⟩ := trodAll_cons hA
  obtain ⟨v1, vs1, d1, ds1, p1, q1, rfl, rfl, rfl, h1, r1⟩ := trodAll_cons r0
  obtain ⟨v2, vs2, d2, ds2, p2, q2, rfl, rfl, rfl, h2, r2⟩ := trodAll_cons r1
  obtain ⟨v3, vs3, d3, ds3, p3, q3, rfl, rfl, rfl, h3, r3⟩ := trodAll_cons r2
  obtain ⟨rfl, rfl, rfl⟩ := trodAll_nil r3
  obtain rfl : args = #[v0, v1, v2, v3] := by cases args; simp_all
  obtain ⟨rfl, rfl⟩ := trodVars_none hV
  have k0 := h0
  have lt0 : ∀ x ∈ p0, x.block < W.heap.size := by obtain ⟨m, hm⟩ := k0; exact DataW.trod_lt m _ _ _ hm
  have k1 := h1
  have lt1 : ∀ x ∈ p1, x.block < W.heap.size := by obtain ⟨m, hm⟩ := k1; exact DataW.trod_lt m _ _ _ hm
  have k2 := h2
  have lt2 : ∀ x ∈ p2, x.block < W.heap.size := by obtain ⟨m, hm⟩ := k2; exact DataW.trod_lt m _ _ _ hm
  have k3 := h3
  have lt3 : ∀ x ∈ p3, x.block < W.heap.size := by obtain ⟨m, hm⟩ := k3; exact DataW.trod_lt m _ _ _ hm
  obtain ⟨z0, w0⟩ : ∃ l, ActsV W v0 l := open_acts (hval 0 22 v0 rfl rfl) h0
  obtain ⟨a1, rfl, e1, f1, w1⟩ := open_int Try.underlying3 (hval 1 3 v1 rfl rfl) h1
  obtain ⟨b2, t2, rfl, ub2, ut2⟩ := open_tag (hval 2 25 v2 rfl rfl) h2
  obtain ⟨b3, t3, rfl, ub3, ut3⟩ := open_tag (hval 3 25 v3 rfl rfl) h3
  clear hA0 hval0
  refine (walk v0 z0 a1 b2 t2 b3 t3 W w0 w1 ⟨ub2, ut2⟩ ⟨ub3, ut3⟩).mono fun e W' ⟨he, bel⟩ => ?_
  subst he
  exact ⟨_, rfl, _, _, _, [], _, [], hW', trodAll_mk1 (shut_bool Try.underlying4 _), (trodAll_cons_mk (Below.trod laidOut (by kernel_rfl) (of_decide_eq_true (by kernel_rfl)) k0 bel lt0) (trodAll_cons_mk (Below.trod laidOut (by kernel_rfl) (of_decide_eq_true (by kernel_rfl)) k1 bel lt1) (trodAll_cons_mk (Below.trod laidOut (by kernel_rfl) (of_decide_eq_true (by kernel_rfl)) k2 bel lt2) (trodAll_cons_mk (Below.trod laidOut (by kernel_rfl) (of_decide_eq_true (by kernel_rfl)) k3 bel lt3) trodAll_mk0)))), rfl, bel.frame _, fun h => by cases h⟩

theorem over : Rows.adjAcceptsRow.holds Try.pinned (OpenSpec.ofChange Rows.adjAcceptsSpec) :=
  OpenClaim.holds_of_wide 3 Try.f3 rfl rfl rfl rfl rfl rfl rfl ⟨rfl, rfl, rfl, rfl, rfl⟩ rfl rfl rfl rfl rfl (by kernel_rfl) Try.func3 (by kernel_rfl)
    (of_decide_eq_true (by kernel_rfl)) (by unfold Func.isWrapper; first | (rw [if_pos (by decide +kernel)]; kernel_rfl) | (rw [if_neg (by decide +kernel)]; exact ⟨rfl, rfl⟩))
    (fun os started H enc _ => lifted os started H enc)

/-- The statement. -/
theorem proved : Rows.AdjAcceptsSaid := over
end Go.Proofs.Ytnpmdiekcdjfaaa.adjAccepts
