/- A store is what the chapter says, act by act: its bytes, and what is refused; at most 60 bytes, 60 acts of 100 bytes. -/
import Derived.Test.YteakedikmaobfaaRows
import Derived.Test.YteakedikmaobfaaOpenActs
import Derived.Test.YteakedikmaobfaaOpenInts
import Derived.WalkKit
import Derived.ProofKit
import Derived.OpenShut
import Derived.ShutString
import Derived.ChangeOld
import Derived.Below
import Derived.Laws.CopyOwn
set_option linter.unusedVariables false
namespace Go.Proofs.Yteakedikmaobfaa.storePlays
open Go.ChangeShapes Go.WideShapes Go.ChangeAt Go.RowKit
open Go.ChangeMaps (open_string shut_string)

theorem own : ownKnob Try.prog.godebug = none := by kernel_rfl
theorem laidOut : laidOutB Try.prog = true := by kernel_rfl

theorem both_new {w w1 w2 : World} {P g n : Nat} {R : RAt} (hs : StoreV w1 P g (St.fresh n)) (hg : Grow w w1) (hP : w.heap.size ≤ P) (hg' : w.heap.size ≤ g) (hr : RefV w2 R (St.fresh n)) (hg2 : Grow w1 w2) (h1 : w1.heap.size ≤ R.p) (h2 : w1.heap.size ≤ R.b) (h3 : w1.heap.size ≤ R.u) : Both w w2 P g R (St.fresh n) (St.fresh n) := by
  have l1 := hs.ltP
  have l2 := hs.ltG
  have l3 := hg.size
  exact ⟨hs.stay (M := NoBlock) (GrowBut.of_below hg2) (fun h => h) (fun h => h), hr, Grow.trans hg hg2, hP, hg', by omega, by omega, by omega, ⟨by omega, by omega, by omega⟩, by omega, by omega, by omega⟩

set_option maxRecDepth 20000 in
set_option maxHeartbeats 1000000 in
theorem walk (n : Int) (v : Value) (l : List ActP) (w : World) (hn : (Lit.int .i64 n).wf = true) (hv : ActsV w v l) :
    Calls Try.prog 5 #[.int .i64 n, v] w fun e w' => e = .returned (.bool true) ∧ Below w.heap.size w w' := by
  obtain ⟨ao, cap, rfl, h1, h2⟩ := hv.shape
  have hn' := wf_i64 hn
  have HV := Lib.hid hv
  clear hv hn
  unfold maxLen at h2
  by_cases c2 : 60 < l.length
  · by_cases c1 : 60 < n ∧ n ≤ 4096
    · obtain ⟨c1, c3⟩ := c1
      go_enter Try.func5, Try.ntmps5
      go_wp2_with (go_at_call 8; refine (known_any _).mono ?_; rintro e w' ⟨rfl, hg⟩; have HG := Lib.hid hg; clear hg)
      go_ret
      exact ⟨rfl, HG.out⟩
    · by_cases c3 : 60 < n
      · have c4 : decide (n ≤ 4096) = false := by simp; omega
        clear c1
        go_enter Try.func5, Try.ntmps5
        go_wp2_with (go_at_call 8; refine (known_any _).mono ?_; rintro e w' ⟨rfl, hg⟩; have HG := Lib.hid hg; clear hg)
        go_ret
        exact ⟨rfl, HG.out⟩
      · clear c1
        go_enter Try.func5, Try.ntmps5
        go_wp2_with (go_at_call 8; refine (known_any _).mono ?_; rintro e w' ⟨rfl, hg⟩; have HG := Lib.hid hg; clear hg)
        go_ret
        exact ⟨rfl, HG.out⟩
  by_cases c1 : 60 < n ∧ n ≤ 4096
  · obtain ⟨c1, c3⟩ := c1
    go_enter Try.func5, Try.ntmps5
    go_wp2_with (go_at_call 8; refine (known_any _).mono ?_; rintro e w' ⟨rfl, hg⟩; have HG := Lib.hid hg; clear hg)
    go_ret
    exact ⟨rfl, HG.out⟩
  by_cases c3 : n < 1 ∨ 4096 < n
  · have HNB : Hid (∀ x : World, Calls Try.prog 9 #[.int .i64 n] x fun e w' => e = .returned (.tuple #[.pointer none, .int .i64 2]) ∧ x = w') := fun x => new_bad n x c3
    rcases c3 with c3 | c3
    · clear c1
      go_enter Try.func5, Try.ntmps5
      go_wp2_with (first | (go_at_call 8; refine (known_any _).mono ?_; rintro e w' ⟨rfl, hg⟩; have HG := Lib.hid hg; clear hg) | (go_at_call 9; refine (HNB.out _).mono ?_; rintro e w' ⟨rfl, rfl⟩))
      go_ret
      exact ⟨rfl, HG.out⟩
    · have c4 : decide (n ≤ 4096) = false := by simp; omega
      clear c1
      go_enter Try.func5, Try.ntmps5
      go_wp2_with (first | (go_at_call 8; refine (known_any _).mono ?_; rintro e w' ⟨rfl, hg⟩; have HG := Lib.hid hg; clear hg) | (go_at_call 9; refine (HNB.out _).mono ?_; rintro e w' ⟨rfl, rfl⟩))
      go_ret
      exact ⟨rfl, HG.out⟩
  obtain ⟨m, rfl⟩ : ∃ m : Nat, n = m := ⟨n.toNat, by omega⟩
  have hm1 : 1 ≤ m := by omega
  have hm2 : m ≤ 60 := by omega
  clear c1 c3
  have HN1 := Lib.hid (new_any m w hm1 (by omega))
  have HN2 : Hid (∀ x, Calls Try.prog 15 #[.int .i64 m] x (SomeRNew x m)) := fun x => rnew_any m x hm1 (by omega)
  go_enter Try.func5, Try.ntmps5
  go_wp2_with fail
  refine HN1.out.mono ?_
  rintro e w1 ⟨P, g, rfl, hs, hgr, hP, hg⟩
  have HS1 := Lib.hid hs
  have HG1 := Lib.hid hgr
  have HPG : Hid (w.heap.size ≤ P ∧ w.heap.size ≤ g) := ⟨hP, hg⟩
  clear hs hgr hP hg
  go_wp2_with fail
  refine (HN2.out _).mono ?_
  rintro e w2 ⟨R, rfl, hr, hgr, q1, q2, q3⟩
  have HB := Lib.hid (both_new HS1.out HG1.out HPG.out.1 HPG.out.2 hr hgr q1 q2 q3)
  clear HS1 HG1 HPG hr hgr q1 q2 q3 HN1 HN2
  go_wp2_with fail
  go_loopw [8] (fun i wr => ∃ (j : Nat) (st : St), j ≤ l.length ∧ i = .int .i64 j ∧ Hid (Both w wr P g R st st)) (fun i _ => l.length - (intOf i).toNat)
  case atStart => exact ⟨0, _, Nat.zero_le _, rfl, HB.out⟩
  case round =>
    obtain ⟨j, st, hj, rfl, HI⟩ := hrel
    by_cases hlt : j < l.length
    · obtain ⟨b, off, cp, e1, _, _, hall⟩ := HV.out.solid (fun h => by rw [h] at hlt; simp at hlt)
      injection e1 with e1 _ e2
      subst e1; subst e2
      obtain ⟨hok, hc⟩ := hall j hlt
      obtain ⟨x, hx⟩ : ∃ x, l.getD j .zero = x := ⟨_, rfl⟩
      rw [hx] at hok hc
      clear hall hx
      have HOK := Lib.hid hok
      obtain ⟨kd, at', nn, by', un, vv, zs⟩ := x
      obtain ⟨ao3, cap3, hvv, hz1, hz2⟩ := hok.bytes.shape
      dsimp only at hvv hz1 hz2
      subst hvv
      unfold maxLen at hz2
      have bc : ∀ k u, (ActP.cells ⟨kd, at', nn, by', un, .slice ao3 zs.length cap3, zs⟩)[k]? = some u → wr.cell? ⟨b, off + j * 6 + k, none⟩ = some u := fun k u h => (HI.out.below.cell (block_lt (hc k u h))).trans (hc k u h)
      have b0 : wr.cell? ⟨b, off + j * 6, none⟩ = some (.int .i64 kd) := bc 0 _ rfl
      have b1 : wr.cell? ⟨b, off + j * 6 + 1, none⟩ = some (.int .i64 at') := bc 1 _ rfl
      have b2 : wr.cell? ⟨b, off + j * 6 + 2, none⟩ = some (.int .i64 nn) := bc 2 _ rfl
      have b3 : wr.cell? ⟨b, off + j * 6 + 3, none⟩ = some (.int .u8 by') := bc 3 _ rfl
      have b4 : wr.cell? ⟨b, off + j * 6 + 4, none⟩ = some (.bool un) := bc 4 _ rfl
      have b5 : wr.cell? ⟨b, off + j * 6 + 5, none⟩ = some (.slice ao3 zs.length cap3) := bc 5 _ rfl
      clear bc
      have HDO := Lib.hid (do_any HI.out ⟨kd, at', nn, by', un, .slice ao3 zs.length cap3, zs⟩ HOK.out)
      clear hok hc
      by_cases hl : 100 < zs.length
      · go_wp2_with (go_at_call 8; refine (known_any _).mono ?_; rintro e w' ⟨rfl, hg⟩; have HG := Lib.hid hg; clear hg)
        go_ret
        exact ⟨rfl, HI.out.below.trans (Below.mono HG.out HI.out.below.size)⟩
      · go_wp2_with fail
        refine HDO.out.mono ?_
        rintro e w3 ⟨rfl, hb, _⟩
        have HB3 := Lib.hid hb
        clear hb b0 b1 b2 b3 b4 b5 HDO
        go_wp2_with fail
        refine (bytes_any HB3.out).mono ?_
        rintro e w4 ⟨rfl, hg⟩
        have HB4 := Lib.hid (HB3.out.grow hg)
        clear hg HB3
        go_wp2_with fail
        exact ⟨⟨j + 1, _, by omega, by go_num, HB4.out⟩, by simp [intOf]; omega⟩
    · have hjl : j = l.length := by omega
      subst hjl
      go_wp2_with (go_at_call 8; refine (known_any _).mono ?_; rintro e w' ⟨rfl, hg⟩; have HG := Lib.hid hg; clear hg)
      go_ret
      exact ⟨rfl, HI.out.below.trans (Below.mono HG.out HI.out.below.size)⟩


set_option maxRecDepth 100000 in
theorem lifted (os : Os) (started : os.Started) (H : Type) (enc : TypeId × Value → H) :
    ReturnsInHanded {} Try.checked os 5 .any (Rows.storePlaysSpec.pre6 enc Try.prog Try.f5 Rows.storePlaysRow.domain false) (Rows.storePlaysSpec.post enc Try.prog Try.f5 false true false false) := by
  refine returnsInHanded_of_change (C := Try.checked) own started (by kernel_rfl) Try.func5
    (ChangeSpec.witness6 (enc := enc) (C := Try.checked) false ⟨#[], #[.int .i64 0, .slice none 0 0], []⟩ 8 (by kernel_rfl) (by kernel_rfl) (by kernel_rfl) (by kernel_rfl)) ?_
  intro W base args ds gs before hval0 hW hcnd _
  have hval : ∀ (j : Nat) t v, Try.f5.params[j]? = some t → args[j]? = some v → Value.okWide Try.prog W .any base t v := hval0
  have hW' := hW
  obtain ⟨p, q, hA0, hV, rfl, hfz, hnd⟩ := hW
  have hA : DataW.TrodAll enc Try.prog W 0 (fun _ => true) true Try.f5.params.toList args.toList ds p := hA0
  rw [Try.params5] at hA hval
  obtain ⟨v0, vs0, d0, ds0, p0, q0, hargs, rfl, rfl, h0, r0⟩ := trodAll_cons hA
  obtain ⟨v1, vs1, d1, ds1, p1, q1, rfl, rfl, rfl, h1, r1⟩ := trodAll_cons r0
  obtain ⟨rfl, rfl, rfl⟩ := trodAll_nil r1
  obtain rfl : args = #[v0, v1] := by cases args; simp_all
  obtain ⟨rfl, rfl⟩ := trodVars_none hV
  have k0 := h0
  have lt0 : ∀ x ∈ p0, x.block < W.heap.size := by obtain ⟨m, hm⟩ := k0; exact DataW.trod_lt m _ _ _ hm
  have k1 := h1
  have lt1 : ∀ x ∈ p1, x.block < W.heap.size := by obtain ⟨m, hm⟩ := k1; exact DataW.trod_lt m _ _ _ hm
  obtain ⟨a0, rfl, e0, f0, w0⟩ := open_int Try.underlying3 (hval 0 3 v0 rfl rfl) h0
  obtain ⟨z1, w1⟩ : ∃ l, ActsV W v1 l := open_acts (hval 1 36 v1 rfl rfl) h1
  clear hA0 hval0
  refine (walk a0 v1 z1 W w0 w1).mono fun e W' ⟨he, bel⟩ => ?_
  subst he
  exact ⟨_, rfl, _, _, _, [], _, [], hW', trodAll_mk1 (shut_bool Try.underlying4 _), (trodAll_cons_mk (Below.trod laidOut (by kernel_rfl) (of_decide_eq_true (by kernel_rfl)) k0 bel lt0) (trodAll_cons_mk (Below.trod laidOut (by kernel_rfl) (of_decide_eq_true (by kernel_rfl)) k1 bel lt1) trodAll_mk0)), rfl, bel.frame _, fun h => by cases h⟩

theorem over : Rows.storePlaysRow.holds Try.pinned (OpenSpec.ofChange Rows.storePlaysSpec) :=
  OpenClaim.holds_of_wide 5 Try.f5 rfl rfl rfl rfl rfl rfl rfl ⟨rfl, rfl, rfl, rfl, rfl⟩ rfl rfl rfl rfl rfl (by kernel_rfl) Try.func5 (by kernel_rfl)
    (of_decide_eq_true (by kernel_rfl)) (by unfold Func.isWrapper; first | (rw [if_pos (by decide +kernel)]; kernel_rfl) | (rw [if_neg (by decide +kernel)]; exact ⟨rfl, rfl⟩))
    (fun os started H enc _ => lifted os started H enc)

/-- The statement. -/
theorem proved : Rows.StorePlaysSaid := over
end Go.Proofs.Yteakedikmaobfaa.storePlays
