/- A session that is left never comes again; no elder tag is taken up. -/
import Derived.Test.YtnpmdiekcdjfaaaRows
import Derived.Test.YtnpmdiekcdjfaaaAdTag
import Derived.WalkKit
import Derived.ProofKit
import Derived.OpenShut
import Derived.ShutString
import Derived.ChangeOld
import Derived.Below
import Derived.Deep.Cut
import Derived.Deep.CutRange
import Derived.Deep.CutBlock
import Derived.Carry
set_option linter.unusedVariables false
namespace Go.Proofs.Ytnpmdiekcdjfaaa.adjTags
open Go.ChangeShapes Go.WideShapes Go.ChangeAt Go.RowKit
open Go.ChangeMaps (open_string shut_string)
set_option linter.unusedSimpArgs false
theorem own : ownKnob Try.prog.godebug = none := by kernel_rfl
theorem laidOut : laidOutB Try.prog = true := by kernel_rfl

/-- What stands at the loop's head: the adjacency in P, what was shown last in L, what was left in M. -/
structure LT (w wr : World) (P L M : Nat) (j : Nat) (a : Ad) : Prop where
  adj : AdV wr P a
  below : Below w.heap.size w wr
  last : wr.heap[L]? = some (.cells (viewCells a) 40 (0, 0))
  seen : Seen wr M j (Past a)
  mt : a.mt ≤ 1 + j
  silent : a.silent < a.dead
  mb : a.mb = 5
  far : w.heap.size ≤ P ∧ w.heap.size ≤ L ∧ w.heap.size ≤ M ∧ P ≠ L ∧ P ≠ M ∧ L ≠ M
/-- .. behind the act and the look. -/
structure MT (w wr : World) (P L M V : Nat) (j : Nat) (a a' : Ad) : Prop where
  adj : AdV wr P a'
  below : Below w.heap.size w wr
  last : wr.heap[L]? = some (.cells (viewCells a) 40 (0, 0))
  now : wr.heap[V]? = some (.cells (viewCells a') 40 (0, 0))
  seen : Seen wr M j (Past a')
  far : w.heap.size ≤ P ∧ w.heap.size ≤ L ∧ w.heap.size ≤ M ∧ w.heap.size ≤ V ∧ P ≠ L ∧ P ≠ M ∧ L ≠ M ∧ V ≠ P ∧ V ≠ L ∧ V ≠ M

theorem LT.turn {w wr w1 w2 : World} {P L M : Nat} {j : Nat} {a a' : Ad} (h : LT w wr P L M j a) (hs : Step a a') (hg : GrowBut (One P) wr w1) (ha : AdV w1 P a') (hg2 : Grow w1 w2) :
    MT w (w2.alloc (.cells (viewCells a') 40)) P L M w2.heap.size j a a' := by
  have hl := lt_of_block h.last
  have hm := h.seen.lt
  have hp := ha.ltP
  have hp0 := h.adj.ltP
  have s1 := hg.size
  have s2 := hg2.size
  have nl : ¬ One P L := fun e => h.far.2.2.2.1 e.symm
  have nm : ¬ One P M := fun e => h.far.2.2.2.2.1 e.symm
  have hb := h.below.size
  have hf := h.far
  have l1 : w1.heap[L]? = some (.cells (viewCells a) 40 (0, 0)) := (hg.block L hl nl).trans h.last
  have l2 : w2.heap[L]? = some (.cells (viewCells a) 40 (0, 0)) := (hg2.block L (lt_of_block l1)).trans l1
  have q1 : Seen w2 M j (Past a') := ((h.seen.stay hg nm).stay (M := NoBlock) (GrowBut.of_below hg2) (fun h => h)).mono fun u hu => hu.step hs
  refine ⟨?_, ?_, ?_, heap_alloc_new w2 _, ?_, by omega⟩
  · exact (ha.stay (M := NoBlock) (GrowBut.of_below hg2) (fun h => h)).alloc _
  · exact (((below_but h.below hg (fun k hk => by unfold One at hk; omega)).trans (Below.mono hg2 (by omega)))).alloc (by omega) _
  · exact (Below.heap_alloc _ _ _ (lt_of_block l2)).trans l2
  · exact q1.stay (M := NoBlock) ((GrowBut.refl _ _).alloc _) (fun h => h)

theorem Seen.weak {w : World} {b n : Nat} {bad : Value → Prop} (h : Seen w b n bad) : Seen w b (n + 1) bad := by
  obtain ⟨D, h1, h2⟩ := h
  exact ⟨D, h1.mono (Nat.le_succ n), h2⟩
theorem MT.put {w wr w' : World} {P L M V : Nat} {j : Nat} {a a' : Ad} (h : MT w wr P L M V j a a') (hs : Seen w' M (j + 1) (Past a')) (hg : GrowBut (fun k => k = M) wr w') : MT w w' P L M V (j + 1) a a' := by
  have hf := h.far
  refine ⟨h.adj.stay hg (by omega), below_but h.below hg (fun k hk => by omega), (hg.block L (lt_of_block h.last) (by omega)).trans h.last, (hg.block V (lt_of_block h.now) (by omega)).trans h.now, hs, hf⟩
theorem MT.done {w wr w' : World} {P L M V : Nat} {j : Nat} {a a' : Ad} (h : MT w wr P L M V (j + 1) a a') (hk : a'.mt ≤ 1 + ((j : Int) + 1) ∧ a'.silent < a'.dead ∧ a'.mb = 5) (hl : w'.heap[L]? = some (.cells (viewCells a') 40 (0, 0))) (hg : GrowBut (One L) wr w') : LT w w' P L M (j + 1) a' := by
  have hf := h.far
  refine ⟨h.adj.stay hg (fun e => by unfold One at e; omega), below_but h.below hg (fun k hk => by unfold One at hk; omega), hl, h.seen.stay hg (fun e => by unfold One at e; omega), by have := hk.1; omega, hk.2.1, hk.2.2, by omega⟩
theorem act_hear {w : World} {P : Nat} {a : Ad} (h : AdV w P a) (x : ActA) (hk : x.kind = 1) (hx : HlOk x.h) (hm : a.mt < 18446744073709551615) :
    ∃ q r, Calls Try.prog 13 #[.pointer (some ⟨P, 0, none⟩), x.h.val] w fun e w' => e = .returned (.tuple #[.int .i64 q, .int .i64 r]) ∧ AdV w' P (a.act x) ∧ GrowBut (One P) w w' := by
  unfold Ad.act
  rw [if_pos hk]
  unfold Ad.hear
  by_cases hb : x.h.bad
  · rw [if_pos hb]; exact ⟨_, _, hear_bad h x.h hx hb⟩
  · rw [if_neg hb]; exact ⟨_, _, hear_ok h x.h hx hb hm⟩
theorem act_tick {w : World} {P : Nat} {a : Ad} (h : AdV w P a) (x : ActA) (hk : x.kind = 2) (hm : a.mt < 18446744073709551615) (hs : a.silent < a.dead) :
    ∃ (q : Int) (r : Bool), Calls Try.prog 14 #[.pointer (some ⟨P, 0, none⟩)] w fun e w' => e = .returned (.tuple #[.int .i64 q, .bool r]) ∧ AdV w' P (a.act x) ∧ GrowBut (One P) w w' := by
  unfold Ad.act
  rw [if_neg (by omega), if_pos hk]
  exact ⟨_, _, tick_any h hm hs⟩
theorem act_drop {w : World} {P : Nat} {a : Ad} (h : AdV w P a) (x : ActA) (hk : x.kind = 3) (hm : a.mt < 18446744073709551615) :
    ∃ (q : Int), Calls Try.prog 15 #[.pointer (some ⟨P, 0, none⟩)] w fun e w' => e = .returned (.int .i64 q) ∧ AdV w' P (a.act x) ∧ GrowBut (One P) w w' := by
  unfold Ad.act
  rw [if_neg (by omega), if_neg (by omega), if_pos hk]
  exact ⟨_, drop_any h hm⟩

set_option maxRecDepth 20000 in
set_option maxHeartbeats 1000000 in
theorem walk0 (v : Value) (l : List ActA) (w : World) (hv : ActsV w v l) (h : 200 < l.length) :
    Calls Try.prog 4 #[v] w fun e w' => e = .returned (.bool true) ∧ Below w.heap.size w w' := by
  obtain ⟨ao, cap, rfl, h1, h2⟩ := hv.shape
  unfold maxLen at h2
  clear hv
  go_enter Try.func4, Try.ntmps4
  go_wp2_with (go_at_call 7; refine (known_any _).mono ?_; rintro e w' ⟨rfl, hg⟩; have HG := Lib.hid hg; clear hg)
  go_ret
  exact ⟨rfl, HG.out⟩

set_option maxRecDepth 20000 in
set_option maxHeartbeats 8000000 in
theorem walk1 (v : Value) (l : List ActA) (w : World) (hv : ActsV w v l) (c1 : l.length ≤ 200) :
    Calls Try.prog 4 #[v] w fun e w' => e = .returned (.bool true) ∧ Below w.heap.size w w' := by
  obtain ⟨ao, cap, rfl, h1, h2⟩ := hv.shape
  unfold maxLen at h2
  have HV := Lib.hid hv
  clear hv
  have HN1 : Hid (∀ x, Calls Try.prog 8 #[.int .i64 1, .int .u64 5, .int .i64 3, .int .i64 9] x (SomeAd x ka0)) := fun x => new_any 1 5 3 9 x (by omega) (by omega) (by omega) (by omega)
  have hmm := @run_makeMap Try.prog
  go_enter Try.func4, Try.ntmps4
  go_wp2_with fail
  refine (HN1.out _).mono ?_
  rintro e w1 ⟨P, rfl, g1, g2, hP⟩
  have H1 : Hid (AdV w1 P ka0 ∧ Grow w w1 ∧ w.heap.size ≤ P) := ⟨g1, g2, hP⟩
  clear g1 g2 hP HN1
  go_wp2_with fail
  refine (view_any (H1.out.1.alloc _)).mono ?_
  simp only [Ad.view]
  rintro e w2 ⟨rfl, hg⟩
  have HLT : Hid (LT w (w2.alloc (.cells (viewCells ka0) 40)) P w2.heap.size w1.heap.size 0 ka0) := by
    have k1 := H1.out.1.ltP
    have k2 := hg.size
    have k3 := H1.out.2.1.size
    have k4 := H1.out.2.2
    rw [World.size_alloc] at k2
    have gg : Grow w1 (w2.alloc (.cells (viewCells ka0) 40)) := (Grow.trans ((Grow.refl w1).alloc _) hg).alloc _
    refine ⟨H1.out.1.stay (M := NoBlock) (GrowBut.of_below gg) (fun h => h), (show Below w.heap.size w w1 from H1.out.2.1).trans (Below.mono gg k3), heap_alloc_new w2 _, ?_, by decide, by decide, rfl, by omega⟩
    exact ((Seen.made w1 _).stay (M := NoBlock) (GrowBut.of_below hg) (fun h => h)).stay (M := NoBlock) ((GrowBut.refl _ _).alloc _) (fun h => h)
  generalize w1.heap.size = M at *
  clear hg H1 hmm
  go_wp2_with fail
  generalize hL : w2.heap.size = L at *
  clear hL
  go_loopw [7, 8] (fun i v wr => ∃ (j : Nat) (a : Ad), j ≤ l.length ∧ i = .int .i64 j ∧ Hid (LT w wr P L M j a)) (fun i _ _ => l.length - (intOf i).toNat)
  case atStart => exact ⟨0, ka0, Nat.zero_le _, rfl, HLT.out⟩
  case round =>
    obtain ⟨j, a, hj, rfl, HI⟩ := hrel
    clear HLT
    by_cases hlt : j < l.length
    case neg =>
      have hjl : j = l.length := by omega
      subst hjl
      have HB := Lib.hid HI.out.below
      clear HI
      go_wp2_with (go_at_call 7; refine (known_any _).mono ?_; rintro e w' ⟨rfl, hg⟩; have HG := Lib.hid hg; clear hg)
      go_ret
      exact ⟨rfl, HB.out.trans (Below.mono HG.out HB.out.size)⟩
    case pos =>
      obtain ⟨b, off, cp, e1, _, _, hall⟩ := HV.out.solid (fun h => by rw [h] at hlt; simp at hlt)
      injection e1 with e1 _ e2
      subst e1; subst e2
      have hok := HV.out.okAt hlt
      have hc := hall j hlt
      obtain ⟨x, hx⟩ : ∃ x, l.getD j .zero = x := ⟨_, rfl⟩
      rw [hx] at hok hc
      clear hall hx
      have HOK := Lib.hid hok
      obtain ⟨kd, nn, m1, m2, m3, m4⟩ := x
      have bc : ∀ k u, (ActA.cells ⟨kd, nn, m1, m2, m3, m4⟩)[k]? = some u → wr.cell? ⟨b, off + j * 6 + k, none⟩ = some u := fun k u h => (HI.out.below.cell (block_lt (hc k u h))).trans (hc k u h)
      have HBC : Hid (∀ w' : World, Below w.heap.size w w' → w'.cell? ⟨b, off + j * 6, none⟩ = some (.int .i64 kd)) := fun w' hb => (hb.cell (block_lt (hc 0 _ rfl))).trans (hc 0 _ rfl)
      have b0 : wr.cell? ⟨b, off + j * 6, none⟩ = some (.int .i64 kd) := bc 0 _ rfl
      have b1 : wr.cell? ⟨b, off + j * 6 + 1, none⟩ = some (.int .i64 nn) := bc 1 _ rfl
      have b2 : wr.cell? ⟨b, off + j * 6 + 2, none⟩ = some (.int .u64 m1) := bc 2 _ rfl
      have b3 : wr.cell? ⟨b, off + j * 6 + 3, none⟩ = some (.int .u64 m2) := bc 3 _ rfl
      have b4 : wr.cell? ⟨b, off + j * 6 + 4, none⟩ = some (.int .u64 m3) := bc 4 _ rfl
      have b5 : wr.cell? ⟨b, off + j * 6 + 5, none⟩ = some (.int .u64 m4) := bc 5 _ rfl
      clear bc hok hc
      have HX : Hid (Step a (a.act ⟨kd, nn, m1, m2, m3, m4⟩) ∧ a.mt < 18446744073709551615 ∧ a.silent < a.dead) := ⟨act_step _ HI.out.adj.ok.state, by have := HI.out.mt; omega, HI.out.silent⟩
      go_upto_block 2 with fail
      go_cut [] from 22 to 147 (fun wx => Hid (AdV wx P (a.act ⟨kd, nn, m1, m2, m3, m4⟩) ∧ GrowBut (One P) wr wx))
      case first => as_aux_lemma =>
        by_cases k1 : kd = 1
        · have e1 : (kd == 1) = true := by simpa using k1
          obtain ⟨q, r, hc⟩ := act_hear HI.out.adj ⟨kd, nn, m1, m2, m3, m4⟩ k1 HOK.out.h HX.out.2.1
          have HC := Lib.hid hc
          clear hc k1
          go_wp2_with (go_at_call 13; refine HC.out.mono ?_; rintro e w' ⟨rfl, g1, g2⟩; have HG := Lib.hid (And.intro g1 g2); clear g1 g2)
          go_meet
          exact HG
        have e1 : (kd == 1) = false := by simpa using k1
        by_cases k2 : kd = 2
        · have e2 : (kd == 2) = true := by simpa using k2
          obtain ⟨q, r, hc⟩ := act_tick HI.out.adj ⟨kd, nn, m1, m2, m3, m4⟩ k2 HX.out.2.1 HX.out.2.2
          have HC := Lib.hid hc
          clear hc k1 k2
          go_wp2_with (go_at_call 14; refine HC.out.mono ?_; rintro e w' ⟨rfl, g1, g2⟩; have HG := Lib.hid (And.intro g1 g2); clear g1 g2)
          go_meet
          exact HG
        have e2 : (kd == 2) = false := by simpa using k2
        by_cases k3 : kd = 3
        · have e3 : (kd == 3) = true := by simpa using k3
          obtain ⟨q, hc⟩ := act_drop HI.out.adj ⟨kd, nn, m1, m2, m3, m4⟩ k3 HX.out.2.1
          have HC := Lib.hid hc
          clear hc k1 k2 k3
          go_wp2_with (go_at_call 15; refine HC.out.mono ?_; rintro e w' ⟨rfl, g1, g2⟩; have HG := Lib.hid (And.intro g1 g2); clear g1 g2)
          go_meet
          exact HG
        have e3 : (kd == 3) = false := by simpa using k3
        have hv : a.act ⟨kd, nn, m1, m2, m3, m4⟩ = a := by unfold Ad.act; rw [if_neg k1, if_neg k2, if_neg k3]
        have HG : Hid (AdV wr P (a.act ⟨kd, nn, m1, m2, m3, m4⟩) ∧ GrowBut (One P) wr wr) := ⟨by rw [hv]; exact HI.out.adj, GrowBut.refl _ _⟩
        clear k1 k2 k3 hv
        go_wp2_with fail
        go_meet
        exact HG
      case rest =>
        clear b0 b1 b2 b3 b4 b5
        go_wp2_with fail
        refine (view_any hcut.out.1).mono ?_
        simp only [Ad.view]
        rintro e w3 ⟨rfl, hg⟩
        have HMT : Hid (MT w (w3.alloc (.cells (viewCells (a.act ⟨kd, nn, m1, m2, m3, m4⟩)) 40)) P L M w3.heap.size j a (a.act ⟨kd, nn, m1, m2, m3, m4⟩)) := HI.out.turn HX.out.1 hcut.out.2 hcut.out.1 hg
        have HK : Hid (a.mt ≤ (a.act ⟨kd, nn, m1, m2, m3, m4⟩).mt ∧ (a.act ⟨kd, nn, m1, m2, m3, m4⟩).mt ≤ 1 + (j + 1) ∧ (a.act ⟨kd, nn, m1, m2, m3, m4⟩).mb = 5 ∧ (a.act ⟨kd, nn, m1, m2, m3, m4⟩).silent < (a.act ⟨kd, nn, m1, m2, m3, m4⟩).dead ∧ a.mb = 5) := by
          obtain ⟨k1, k2, k3, k4, k5, k6⟩ := act_keeps ⟨kd, nn, m1, m2, m3, m4⟩ HI.out.silent (by have := HI.out.adj.ok.dead; omega)
          exact ⟨k1, by have := HI.out.mt; omega, k3.trans HI.out.mb, k4, HI.out.mb⟩
        have HT : Hid (kd = 1 → 0 < a.state → (a.act ⟨kd, nn, m1, m2, m3, m4⟩).other = a.other → ¬ Later (a.act ⟨kd, nn, m1, m2, m3, m4⟩).tb (a.act ⟨kd, nn, m1, m2, m3, m4⟩).tt a.tb a.tt) := fun h1 h2 h3 => act_tag ⟨kd, nn, m1, m2, m3, m4⟩ h1 h2 h3
        have HOKa := Lib.hid HI.out.adj.ok
        have HSt := Lib.hid HX.out.1
        clear hg hcut HX HI
        go_upto_region 19 with fail
        unfold viewCells at HMT
        generalize a.act ⟨kd, nn, m1, m2, m3, m4⟩ = a' at *
        generalize w3.alloc (.cells #[.int .i64 a'.state, .int .u64 a'.mb, .int .u64 a'.mt, .int .u64 a'.tb, .int .u64 a'.tt, .int .i64 a'.other] 40) = W4 at *
        generalize w3.heap.size = V at *
        have hnow : W4.heap[V]? = some (.cells #[.int .i64 a'.state, .int .u64 5, .int .u64 a'.mt, .int .u64 a'.tb, .int .u64 a'.tt, .int .i64 a'.other] 40 (0, 0)) := by rw [HMT.out.now]; unfold viewCells; rw [HK.out.2.2.1]
        have hlast : W4.heap[L]? = some (.cells #[.int .i64 a.state, .int .u64 5, .int .u64 a.mt, .int .u64 a.tb, .int .u64 a.tt, .int .i64 a.other] 40 (0, 0)) := by rw [HMT.out.last]; unfold viewCells; rw [HK.out.2.2.2.2]
        have v0 : W4.cell? ⟨V, 0, none⟩ = some (.int .i64 a'.state) := by simp [World.cell?, hnow]
        have v1 : W4.cell? ⟨V, 1, none⟩ = some (.int .u64 5) := by simp [World.cell?, hnow]
        have v2 : W4.cell? ⟨V, 2, none⟩ = some (.int .u64 a'.mt) := by simp [World.cell?, hnow]
        have v3 : W4.cell? ⟨V, 3, none⟩ = some (.int .u64 a'.tb) := by simp [World.cell?, hnow]
        have v4 : W4.cell? ⟨V, 4, none⟩ = some (.int .u64 a'.tt) := by simp [World.cell?, hnow]
        have v5 : W4.cell? ⟨V, 5, none⟩ = some (.int .i64 a'.other) := by simp [World.cell?, hnow]
        have l0 : W4.cell? ⟨L, 0, none⟩ = some (.int .i64 a.state) := by simp [World.cell?, hlast]
        have l1 : W4.cell? ⟨L, 1, none⟩ = some (.int .u64 5) := by simp [World.cell?, hlast]
        have l2 : W4.cell? ⟨L, 2, none⟩ = some (.int .u64 a.mt) := by simp [World.cell?, hlast]
        have l3 : W4.cell? ⟨L, 3, none⟩ = some (.int .u64 a.tb) := by simp [World.cell?, hlast]
        have l4 : W4.cell? ⟨L, 4, none⟩ = some (.int .u64 a.tt) := by simp [World.cell?, hlast]
        have l5 : W4.cell? ⟨L, 5, none⟩ = some (.int .i64 a.other) := by simp [World.cell?, hlast]
        clear hnow hlast
        have p1 : decide (a'.mt < a.mt) = false := by have := HK.out.1; simpa using this
        have hlook : (Instr.lookup 46 (.map (some M)) (.agg #[.int .i64 a'.state, .int .u64 5, .int .u64 a'.mt, .int .u64 a'.tb, .int .u64 a'.tt, .int .i64 a'.other]) false).run Try.prog W4 = .ok (.agg #[.bool false]) W4 := by
          obtain ⟨kl, hk⟩ := view_key HMT.out.adj.ok
          have := HMT.out.seen.look hk Past.not_own
          unfold Ad.view at this
          rwa [HK.out.2.2.1] at this
        have hfd : ∀ x, (Instr.field 53 (.agg #[.bool false]) 0).run Try.prog x = .ok (.bool false) x := fun x => by kernel_rfl
        go_cut [80] from 22 to 147 (fun c wx => c = .bool false ∧ wx = W4)
        case first => as_aux_lemma =>
          by_cases s2 : a'.state = 2
          case neg =>
            have e2 : (a'.state == 2) = false := by simpa using s2
            clear s2 hlook hfd
            go_wp2_with fail
            go_meet
            exact ⟨rfl, rfl⟩
          case pos =>
            rw [s2] at hlook v0
            by_cases d0 : (2 : Int) = a.state
            case neg =>
              have q0 : ((2 : Int) == a.state) = false := by simpa using d0
              clear d0 s2
              go_wp2_with fail
              go_meet
              exact ⟨rfl, rfl⟩
            case pos =>
              rw [← d0] at l0
              clear d0
              by_cases d1 : a'.mt = a.mt
              case neg =>
                have q1 : (a'.mt == a.mt) = false := by simpa using d1
                clear d1 s2
                go_wp2_with fail
                go_meet
                exact ⟨rfl, rfl⟩
              case pos =>
                rw [← d1] at l2
                clear d1
                by_cases d2 : a'.tb = a.tb
                case neg =>
                  have q2 : (a'.tb == a.tb) = false := by simpa using d2
                  clear d2 s2
                  go_wp2_with fail
                  go_meet
                  exact ⟨rfl, rfl⟩
                case pos =>
                  rw [← d2] at l3
                  clear d2
                  by_cases d3 : a'.tt = a.tt
                  case neg =>
                    have q3 : (a'.tt == a.tt) = false := by simpa using d3
                    clear d3 s2
                    go_wp2_with fail
                    go_meet
                    exact ⟨rfl, rfl⟩
                  case pos =>
                    rw [← d3] at l4
                    clear d3
                    by_cases d4 : a'.other = a.other
                    case neg =>
                      have q4 : (a'.other == a.other) = false := by simpa using d4
                      clear d4 s2
                      go_wp2_with fail
                      go_meet
                      exact ⟨rfl, rfl⟩
                    case pos =>
                      rw [← d4] at l5
                      clear d4
                      clear s2
                      go_wp2_with fail
                      go_meet
                      exact ⟨rfl, rfl⟩
        case rest =>
          clear p1 hlook hfd
          obtain ⟨rfl, rfl⟩ := hcut
          go_upto_region 21 with fail
          obtain ⟨upd, hu⟩ : ∃ u : Bool, Hid (u = true ↔ a.state = 2 ∧ ¬ (a'.state = a.state ∧ a'.mt = a.mt ∧ a'.tb = a.tb ∧ a'.tt = a.tt ∧ a'.other = a.other)) := ⟨decide (a.state = 2 ∧ ¬ (a'.state = a.state ∧ a'.mt = a.mt ∧ a'.tb = a.tb ∧ a'.tt = a.tt ∧ a'.other = a.other)), decide_eq_true_iff⟩
          go_cut [88] from 22 to 147 (fun c wx => c = .bool upd ∧ wx = wc)
          case first => as_aux_lemma =>
            by_cases s2 : a.state = 2
            case neg =>
              have e2 : (a.state == 2) = false := by simpa using s2
              have hf : upd = false := by cases h : upd with | false => rfl | true => exact absurd (hu.out.1 h).1 s2
              have HF := Lib.hid hf
              clear s2 hf
              go_wp2_with fail
              go_meet
              exact ⟨by rw [HF.out], rfl⟩
            case pos =>
              have e2 : (a.state == 2) = true := by simpa using s2
              by_cases d0 : a'.state = a.state
              case neg =>
                have q0 : (a'.state == a.state) = false := by simpa using d0
                have hf : upd = true := hu.out.2 ⟨s2, fun hh => d0 (by obtain ⟨x0, x1, x2, x3, x4⟩ := hh; assumption)⟩
                have HF := Lib.hid hf
                clear d0 s2 hf
                go_wp2_with fail
                go_meet
                exact ⟨by rw [HF.out], rfl⟩
              case pos =>
                have q0 : (a'.state == a.state) = true := by simpa using d0
                by_cases d1 : a'.mt = a.mt
                case neg =>
                  have q1 : (a'.mt == a.mt) = false := by simpa using d1
                  have hf : upd = true := hu.out.2 ⟨s2, fun hh => d1 (by obtain ⟨x0, x1, x2, x3, x4⟩ := hh; assumption)⟩
                  have HF := Lib.hid hf
                  clear d1 s2 hf
                  go_wp2_with fail
                  go_meet
                  exact ⟨by rw [HF.out], rfl⟩
                case pos =>
                  have q1 : (a'.mt == a.mt) = true := by simpa using d1
                  by_cases d2 : a'.tb = a.tb
                  case neg =>
                    have q2 : (a'.tb == a.tb) = false := by simpa using d2
                    have hf : upd = true := hu.out.2 ⟨s2, fun hh => d2 (by obtain ⟨x0, x1, x2, x3, x4⟩ := hh; assumption)⟩
                    have HF := Lib.hid hf
                    clear d2 s2 hf
                    go_wp2_with fail
                    go_meet
                    exact ⟨by rw [HF.out], rfl⟩
                  case pos =>
                    have q2 : (a'.tb == a.tb) = true := by simpa using d2
                    by_cases d3 : a'.tt = a.tt
                    case neg =>
                      have q3 : (a'.tt == a.tt) = false := by simpa using d3
                      have hf : upd = true := hu.out.2 ⟨s2, fun hh => d3 (by obtain ⟨x0, x1, x2, x3, x4⟩ := hh; assumption)⟩
                      have HF := Lib.hid hf
                      clear d3 s2 hf
                      go_wp2_with fail
                      go_meet
                      exact ⟨by rw [HF.out], rfl⟩
                    case pos =>
                      have q3 : (a'.tt == a.tt) = true := by simpa using d3
                      by_cases d4 : a'.other = a.other
                      case neg =>
                        have q4 : (a'.other == a.other) = false := by simpa using d4
                        have hf : upd = true := hu.out.2 ⟨s2, fun hh => d4 (by obtain ⟨x0, x1, x2, x3, x4⟩ := hh; assumption)⟩
                        have HF := Lib.hid hf
                        clear d4 s2 hf
                        go_wp2_with fail
                        go_meet
                        exact ⟨by rw [HF.out], rfl⟩
                      case pos =>
                        have q4 : (a'.other == a.other) = true := by simpa using d4
                        have hf : upd = false := by
                          cases h : upd with
                          | false => rfl
                          | true => exact absurd ⟨d0, d1, d2, d3, d4⟩ (hu.out.1 h).2
                        have HF := Lib.hid hf
                        clear d0 d1 d2 d3 d4 s2 hf
                        go_wp2_with fail
                        go_meet
                        exact ⟨by rw [HF.out], rfl⟩
          case rest =>
            obtain ⟨rfl, rfl⟩ := hcut
            have HMT := HMT
            clear v0 v1 v2 v3 v4 v5
            go_upto_if 88 with fail
            go_cut [] from 22 to 147 (fun wx => Hid (MT w wx P L M V (j + 1) a a'))
            case first => as_aux_lemma =>
              by_cases hp : upd = true
              case neg =>
                have hf : upd = false := by simpa using hp
                subst hf
                have HN : Hid (MT w wc P L M V (j + 1) a a') := ⟨HMT.out.adj, HMT.out.below, HMT.out.last, HMT.out.now, Seen.weak HMT.out.seen, HMT.out.far⟩
                clear hp
                go_wp2_with fail
                go_meet
                exact HN
              case pos =>
                have hq := hu.out.1 hp
                subst hp
                obtain ⟨kl, hk⟩ := view_key HOKa.out
                obtain ⟨W5, hr, hs, hg⟩ := HMT.out.seen.put (by have := HMT.out.seen; unfold maxLen; omega) hk (Past.left hq.1 HSt.out (fun e => hq.2 (by obtain ⟨x0, x1, x2, x3, x4, x5⟩ := view_eq e; exact ⟨x0, x2, x3, x4, x5⟩)))
                have HN : Hid (MT w W5 P L M V (j + 1) a a') := HMT.out.put hs hg
                unfold Ad.view at hr
                rw [HK.out.2.2.2.2] at hr
                clear hs hg hk hq
                go_wp2_with fail
                go_meet
                exact HN
            case rest =>
              clear l0 l1 l2 l3 l4 l5 HMT
              have HMT := hcut
              clear hcut
              go_upto_region 23 with fail
              have hnow : wc.heap[V]? = some (.cells #[.int .i64 a'.state, .int .u64 5, .int .u64 a'.mt, .int .u64 a'.tb, .int .u64 a'.tt, .int .i64 a'.other] 40 (0, 0)) := by rw [HMT.out.now]; unfold viewCells; rw [HK.out.2.2.1]
              have hlast : wc.heap[L]? = some (.cells #[.int .i64 a.state, .int .u64 5, .int .u64 a.mt, .int .u64 a.tb, .int .u64 a.tt, .int .i64 a.other] 40 (0, 0)) := by rw [HMT.out.last]; unfold viewCells; rw [HK.out.2.2.2.2]
              have v0 : wc.cell? ⟨V, 0, none⟩ = some (.int .i64 a'.state) := by simp [World.cell?, hnow]
              have v1 : wc.cell? ⟨V, 1, none⟩ = some (.int .u64 5) := by simp [World.cell?, hnow]
              have v2 : wc.cell? ⟨V, 2, none⟩ = some (.int .u64 a'.mt) := by simp [World.cell?, hnow]
              have v3 : wc.cell? ⟨V, 3, none⟩ = some (.int .u64 a'.tb) := by simp [World.cell?, hnow]
              have v4 : wc.cell? ⟨V, 4, none⟩ = some (.int .u64 a'.tt) := by simp [World.cell?, hnow]
              have v5 : wc.cell? ⟨V, 5, none⟩ = some (.int .i64 a'.other) := by simp [World.cell?, hnow]
              have l0 : wc.cell? ⟨L, 0, none⟩ = some (.int .i64 a.state) := by simp [World.cell?, hlast]
              have l3 : wc.cell? ⟨L, 3, none⟩ = some (.int .u64 a.tb) := by simp [World.cell?, hlast]
              have l4 : wc.cell? ⟨L, 4, none⟩ = some (.int .u64 a.tt) := by simp [World.cell?, hlast]
              have l5 : wc.cell? ⟨L, 5, none⟩ = some (.int .i64 a.other) := by simp [World.cell?, hlast]
              have l1 : wc.cell? ⟨L, 1, none⟩ = some (.int .u64 5) := by simp [World.cell?, hlast]
              have l2 : wc.cell? ⟨L, 2, none⟩ = some (.int .u64 a.mt) := by simp [World.cell?, hlast]
              have f0 : wc.frozen? ⟨L, 0, none⟩ = false := by simp [World.frozen?, hlast]
              have f1 : wc.frozen? ⟨L, 1, none⟩ = false := by simp [World.frozen?, hlast]
              have f2 : wc.frozen? ⟨L, 2, none⟩ = false := by simp [World.frozen?, hlast]
              have f3 : wc.frozen? ⟨L, 3, none⟩ = false := by simp [World.frozen?, hlast]
              have f4 : wc.frozen? ⟨L, 4, none⟩ = false := by simp [World.frozen?, hlast]
              have f5 : wc.frozen? ⟨L, 5, none⟩ = false := by simp [World.frozen?, hlast]
              have hne : V ≠ L := by have := HMT.out.far; omega
              have hjm : j + 1 ≤ l.length := hlt
              have b0 : wc.cell? ⟨b, off + j * 6, none⟩ = some (.int .i64 kd) := HBC.out wc HMT.out.below
              clear hnow hlast
              obtain ⟨tg, ht⟩ : ∃ u : Bool, Hid (u = true ↔ kd = 1 ∧ 0 < a.state ∧ 0 < a'.state ∧ a'.other = a.other ∧ ¬ (a'.tb = a.tb ∧ a'.tt = a.tt)) := ⟨decide (kd = 1 ∧ 0 < a.state ∧ 0 < a'.state ∧ a'.other = a.other ∧ ¬ (a'.tb = a.tb ∧ a'.tt = a.tt)), decide_eq_true_iff⟩
              go_cut [121] from 22 to 147 (fun c wx => c = .bool tg ∧ wx = wc)
              case first => as_aux_lemma =>
                by_cases x0 : kd = 1
                case neg =>
                  have g0 : (kd == 1) = false := by simpa using x0
                  have hf : tg = false := by
                    cases h : tg with
                    | false => rfl
                    | true => exact absurd (ht.out.1 h) (fun hh => by obtain ⟨x0, x1, x2, x3, x4⟩ := hh; first | omega | exact x4 ⟨by omega, by omega⟩)
                  have HF := Lib.hid hf
                  clear hf x0
                  go_wp2_with fail
                  go_meet
                  exact ⟨by rw [HF.out], rfl⟩
                case pos =>
                  have b0' : wc.cell? ⟨b, off + j * 6, none⟩ = some (.int .i64 1) := by rw [b0, x0]
                  clear b0
                  by_cases x1 : 0 < a.state
                  case neg =>
                    have g1 : decide (0 < a.state) = false := by simpa using x1
                    have hf : tg = false := by
                      cases h : tg with
                      | false => rfl
                      | true => exact absurd (ht.out.1 h) (fun hh => by obtain ⟨x0, x1, x2, x3, x4⟩ := hh; first | omega | exact x4 ⟨by omega, by omega⟩)
                    have HF := Lib.hid hf
                    clear hf x0 x1
                    go_wp2_with fail
                    go_meet
                    exact ⟨by rw [HF.out], rfl⟩
                  case pos =>
                    have g1 : decide (0 < a.state) = true := by simpa using x1
                    by_cases x2 : 0 < a'.state
                    case neg =>
                      have g2 : decide (0 < a'.state) = false := by simpa using x2
                      have hf : tg = false := by
                        cases h : tg with
                        | false => rfl
                        | true => exact absurd (ht.out.1 h) (fun hh => by obtain ⟨x0, x1, x2, x3, x4⟩ := hh; first | omega | exact x4 ⟨by omega, by omega⟩)
                      have HF := Lib.hid hf
                      clear hf x0 x1 x2
                      go_wp2_with fail
                      go_meet
                      exact ⟨by rw [HF.out], rfl⟩
                    case pos =>
                      have g2 : decide (0 < a'.state) = true := by simpa using x2
                      by_cases x3 : a'.other = a.other
                      case neg =>
                        have g3 : (a'.other == a.other) = false := by simpa using x3
                        have hf : tg = false := by
                          cases h : tg with
                          | false => rfl
                          | true => exact absurd (ht.out.1 h) (fun hh => by obtain ⟨x0, x1, x2, x3, x4⟩ := hh; first | omega | exact x4 ⟨by omega, by omega⟩)
                        have HF := Lib.hid hf
                        clear hf x0 x1 x2 x3
                        go_wp2_with fail
                        go_meet
                        exact ⟨by rw [HF.out], rfl⟩
                      case pos =>
                        rw [← x3] at l5
                        by_cases x4 : a'.tb = a.tb
                        case neg =>
                          have g4 : (a'.tb == a.tb) = false := by simpa using x4
                          have hf : tg = true := ht.out.2 ⟨by omega, by omega, by omega, by omega, fun hh => by omega⟩
                          have HF := Lib.hid hf
                          clear hf x0 x1 x2 x3 x4
                          go_wp2_with fail
                          go_meet
                          exact ⟨by rw [HF.out], rfl⟩
                        case pos =>
                          rw [← x4] at l3
                          by_cases x5 : a'.tt = a.tt
                          case neg =>
                            have g5 : (a'.tt == a.tt) = false := by simpa using x5
                            have hf : tg = true := ht.out.2 ⟨by omega, by omega, by omega, by omega, fun hh => by omega⟩
                            have HF := Lib.hid hf
                            clear hf x0 x1 x2 x3 x4 x5
                            go_wp2_with fail
                            go_meet
                            exact ⟨by rw [HF.out], rfl⟩
                          case pos =>
                            rw [← x5] at l4
                            have hf : tg = false := by
                              cases h : tg with
                              | false => rfl
                              | true => exact absurd (ht.out.1 h) (fun hh => by obtain ⟨x0, x1, x2, x3, x4⟩ := hh; first | omega | exact x4 ⟨by omega, by omega⟩)
                            have HF := Lib.hid hf
                            clear hf x0 x1 x2 x3 x4 x5
                            go_wp2_with fail
                            go_meet
                            exact ⟨by rw [HF.out], rfl⟩
              case rest =>
                obtain ⟨rfl, rfl⟩ := hcut
                by_cases hp : tg = true
                case neg =>
                  have hf : tg = false := by simpa using hp
                  subst hf
                  clear hp b0
                  go_wp2_with fail
                  exact ⟨⟨j + 1, a', hjm, by go_num, HMT.out.done ⟨HK.out.2.1, HK.out.2.2.2.1, HK.out.2.2.1⟩ (by rw [head_put (head_put (head_put (head_put (head_put (head_put HMT.out.last _ _) _ _) _ _) _ _) _ _) _ _]; simp [viewCells, HK.out.2.2.1]) (grow_one (grow_one (grow_one (grow_one (grow_one (grow_one (GrowBut.refl _ _) _ _) _ _) _ _) _ _) _ _) _ _)⟩, by simp [intOf]; omega⟩
                case pos =>
                  have hq := ht.out.1 hp
                  have hl := HT.out hq.1 hq.2.1 hq.2.2.2.1
                  unfold Later at hl
                  subst hp
                  have g1 : decide (a'.tb < a.tb) = false := by simp; omega
                  by_cases x4 : a'.tb = a.tb
                  · have g2 : decide (a'.tt < a.tt) = false := by simp; omega
                    have y3 : wc.cell? ⟨L, 3, none⟩ = some (.int .u64 a'.tb) := by rw [l3, x4]
                    have g3 : decide (a'.tb < a'.tb) = false := by simp
                    clear l3 g1 hl hq b0 x4
                    go_wp2_with fail
                    exact ⟨⟨j + 1, a', hjm, by go_num, HMT.out.done ⟨HK.out.2.1, HK.out.2.2.2.1, HK.out.2.2.1⟩ (by rw [head_put (head_put (head_put (head_put (head_put (head_put HMT.out.last _ _) _ _) _ _) _ _) _ _) _ _]; simp [viewCells, HK.out.2.2.1]) (grow_one (grow_one (grow_one (grow_one (grow_one (grow_one (GrowBut.refl _ _) _ _) _ _) _ _) _ _) _ _) _ _)⟩, by simp [intOf]; omega⟩
                  · have g2 : (a'.tb == a.tb) = false := by simpa using x4
                    clear hl hq b0 x4
                    go_wp2_with fail
                    exact ⟨⟨j + 1, a', hjm, by go_num, HMT.out.done ⟨HK.out.2.1, HK.out.2.2.2.1, HK.out.2.2.1⟩ (by rw [head_put (head_put (head_put (head_put (head_put (head_put HMT.out.last _ _) _ _) _ _) _ _) _ _) _ _]; simp [viewCells, HK.out.2.2.1]) (grow_one (grow_one (grow_one (grow_one (grow_one (grow_one (GrowBut.refl _ _) _ _) _ _) _ _) _ _) _ _) _ _)⟩, by simp [intOf]; omega⟩

theorem walk (v : Value) (l : List ActA) (w : World) (hv : ActsV w v l) :
    Calls Try.prog 4 #[v] w fun e w' => e = .returned (.bool true) ∧ Below w.heap.size w w' := by
  by_cases h : 200 < l.length
  · exact walk0 v l w hv h
  · exact walk1 v l w hv (by omega)


set_option maxRecDepth 100000 in
theorem lifted (os : Os) (started : os.Started) (H : Type) (enc : TypeId × Value → H) :
    ReturnsInHanded {} Try.checked os 4 .any (Rows.adjTagsSpec.pre6 enc Try.prog Try.f4 Rows.adjTagsRow.domain false) (Rows.adjTagsSpec.post enc Try.prog Try.f4 false true false false) := by
  refine returnsInHanded_of_change (C := Try.checked) own started (by kernel_rfl) Try.func4
    (ChangeSpec.witness6 (enc := enc) (C := Try.checked) false ⟨#[], #[.slice none 0 0], []⟩ 8 (by kernel_rfl) (by kernel_rfl) (by kernel_rfl) (by kernel_rfl)) ?_
  intro W base args ds gs before hval0 hW hcnd _
  have hval : ∀ (j : Nat) t v, Try.f4.params[j]? = some t → args[j]? = some v → Value.okWide Try.prog W .any base t v := hval0
  have hW' := hW
  obtain ⟨p, q, hA0, hV, rfl, hfz, hnd⟩ := hW
  have hA : DataW.TrodAll enc Try.prog W 0 (fun _ => true) true Try.f4.params.toList args.toList ds p := hA0
  rw [Try.params4] at hA hval
  obtain ⟨v0, vs0, d0, ds0, p0, q0, hargs, rfl, rfl, h0, r0⟩ := trodAll_cons hA
  obtain ⟨rfl, rfl, rfl⟩ := trodAll_nil r0
  obtain rfl : args = #[v0] := by cases args; simp_all
  obtain ⟨rfl, rfl⟩ := trodVars_none hV
  have k0 := h0
  have lt0 : ∀ x ∈ p0, x.block < W.heap.size := by obtain ⟨m, hm⟩ := k0; exact DataW.trod_lt m _ _ _ hm
  obtain ⟨z0, w0⟩ : ∃ l, ActsV W v0 l := open_acts (hval 0 22 v0 rfl rfl) h0
  clear hA0 hval0
  refine (walk v0 z0 W w0).mono fun e W' ⟨he, bel⟩ => ?_
  subst he
  exact ⟨_, rfl, _, _, _, [], _, [], hW', trodAll_mk1 (shut_bool Try.underlying4 _), (trodAll_cons_mk (Below.trod laidOut (by kernel_rfl) (of_decide_eq_true (by kernel_rfl)) k0 bel lt0) trodAll_mk0), rfl, bel.frame _, fun h => by cases h⟩

theorem over : Rows.adjTagsRow.holds Try.pinned (OpenSpec.ofChange Rows.adjTagsSpec) :=
  OpenClaim.holds_of_wide 4 Try.f4 rfl rfl rfl rfl rfl rfl rfl ⟨rfl, rfl, rfl, rfl, rfl⟩ rfl rfl rfl rfl rfl (by kernel_rfl) Try.func4 (by kernel_rfl)
    (of_decide_eq_true (by kernel_rfl)) (by unfold Func.isWrapper; first | (rw [if_pos (by decide +kernel)]; kernel_rfl) | (rw [if_neg (by decide +kernel)]; exact ⟨rfl, rfl⟩))
    (fun os started H enc _ => lifted os started H enc)

/-- The statement. -/
theorem proved : Rows.AdjTagsSaid := over
end Go.Proofs.Ytnpmdiekcdjfaaa.adjTags
