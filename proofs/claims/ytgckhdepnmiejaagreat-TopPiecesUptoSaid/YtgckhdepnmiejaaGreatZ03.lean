/- The options of a header: ip.Options (and what stands on it). -/
import Derived.Test.YtgckhdepnmiejaaGreatRows
import Derived.RangeFuncNested
import Derived.RangeFuncBound
import Derived.RangeFuncCalls
import Derived.RangeFuncLeaves
import Derived.RangeFuncBox
import Derived.Shelf.Abstract
import Derived.Shelf.RegionOpen
import Derived.WalkKit
import Derived.OwnWalkIn
import Derived.TacticsInMore
import Derived.LoopNIn
import Derived.LoopIn
import Derived.Maps.AppendAt
import Derived.Test.YtgckhdepnmiejaaGreatZ01
import Derived.Test.YtgckhdepnmiejaaGreatZ02
set_option linter.unusedVariables false
set_option linter.unusedSimpArgs false
namespace Go.Proofs.YtgckhdepnmiejaaGreat
section
set_option maxRecDepth 100000
open Go.RowKit Go.Shelf
attribute [local go_sem] Oper.semAt_some
theorem steps_in (n : Nat) (a : Option Addr) (len cap : Nat) (w : World) :
  CallsIn Fence.wide n Tryz.prog 35 #[.slice a len cap] w fun e w' => e = .returned (.func (.func 53) #[] #[.pointer (some ⟨w.heap.size, 0, none⟩)]) ∧ w' = w.alloc (.cells #[.slice a len cap] 25) := by
 refine callsIn_of_wp Tryz.func35 rfl trivial ?_ rfl
 simp only [Tryz.ntmps35, List.size_toArray, List.length_cons, List.length_nil, Nat.reduceAdd, Nat.reduceSub, Array.replicate_succ, Array.replicate_zero, List.push_toArray, List.append_toArray, List.nil_append, List.cons_append]
 gi_wp2
 go_ret
 exact ⟨rfl, rfl⟩
theorem infoOpt : (Tryz.prog.info? 68).map (fun i => (i.zero, i.size, i.bytes)) = some (some (.agg #[.int .u8 0, .slice none 0 0]), 2, 32) := by kernel_rfl
/-- Where a slice of bytes lies, and in which block. -/
structure SlB (w : World) (n₀ : Nat) (v : Value) (os : List Int) (ao : Option Addr) (b off cap : Nat) : Prop where
 val : v = .slice ao os.length cap
 le : os.length ≤ cap
 cap : cap ≤ maxLen
 at0 : 0 < os.length → ao = some ⟨b, off, none⟩
 blk : b < n₀
 cell : ∀ j, j < os.length → w.cell? ⟨b, off + j, none⟩ = some (.int .u8 (os.getD j 0))
theorem slB_of {w : World} {v : Value} {os : List Int} (h : BytesV w v os) (h0 : 0 < w.heap.size) : ∃ ao b off cap, SlB w w.heap.size v os ao b off cap := by
 rcases h.2 with ⟨rfl, ao, cap, rfl, h1, _⟩ | ⟨b, off, cap, rfl, h1, h2, h3⟩
 ·exact ⟨ao, 0, 0, cap, rfl, Nat.zero_le _, h1, fun h => absurd h (by simp), h0, fun j hj => absurd hj (by simp)⟩
 ·by_cases hz : 0 < os.length
  ·exact ⟨_, b, off, cap, rfl, h1, h2, fun _ => rfl, block_lt (h3 0 hz), h3⟩
  ·exact ⟨_, 0, off, cap, rfl, h1, h2, fun h => absurd h hz, h0, fun j hj => by omega⟩
theorem steps_stops (n : Nat) (Bs n₀ : Nat) {v : Value} {os : List Int} {ao : Option Addr} {b off cap : Nat} (w : World) (h : SlB w n₀ v os ao b off cap) (hb : Bytes os) (hBs : Bs < w.heap.size) (hn₀ : n₀ ≤ w.heap.size) (hc : w.cell? ⟨Bs, 0, none⟩ = some v) :
  SeqStopsK Fence.wide n Tryz.prog 53 #[.pointer (some ⟨Bs, 0, none⟩)] (encO b off os) (Below n₀) (fun ys => begs ys = steps os) (fun pre => begs pre <+: steps os) os.length w := fun l J Jx W hW hJ _ hY h0 =>
 steps1_in n l Bs n₀ b off cap ao os h.blk h.le h.cap hb h.at0 J Jx W hJ (Nat.le_trans hn₀ hW.size) hY ((hW.cell (p := ⟨Bs, 0, none⟩) hBs).trans (by rw [hc, h.val])) (fun j hj => (hW.cell (p := ⟨b, off + j, none⟩) (Nat.lt_of_lt_of_le h.blk hn₀)).trans (h.cell j hj)) h0
/-- A slice of options of these kinds, in memory from n₀ on. -/
def OptsIs (W : World) (n₀ : Nat) (v : Value) (ks : List Int) : Prop := ∃ xs, W.ownsRow n₀ 68 2 v ks.length xs ∧ ∀ i, i < ks.length → xs[2 * i]? = some (.int .u8 (ks.getD i 0))
theorem optsIs_own {β : Type} (n₀ B : Nat) (k : β → List Int) : Own (fun s W => ∃ v, Boxed W B 63 v ∧ OptsIs W n₀ v (k s)) := by
 rintro s X Y row ⟨v, hv, xs, hr, hx⟩ hg hrow
 obtain ⟨v', hv', hr', rfl⟩ := holdsRow_own n₀ B 63 68 2 (fun s => (k s).length) (fun _ => xs) (fun _ u => u = v) s X Y row ⟨v, hv, hr, rfl⟩ hg hrow
 exact ⟨_, hv', xs, hr', hx⟩
/-- An append to a slice that a box holds, behind operations that made memory; then the store into the box. -/
theorem boxed_append {W w2 w1 : World} {n₀ B : Nat} {t e : TypeId} {size : Nat} {v v' : Value} {k m : Nat} {xs ys : List Value} (hg2 : Grow W w2)
  (hv : Boxed W B t v) (hte : t ≠ e) (hrow : W.ownsRow n₀ e size v k xs) (hn₀ : n₀ ≤ W.heap.size) (hB : n₀ ≤ B)
  (hown' : w1.ownsRow n₀ e size v' m ys) (hgrow : w2.grownBy w1 v.ownBlock) :
  Boxed w1 B t v ∧ Boxed (w1.setCell ⟨B, 0, none⟩ v') B t v' ∧ (w1.setCell ⟨B, 0, none⟩ v').ownsRow n₀ e size v' m ys ∧ KeepsOthers W (w1.setCell ⟨B, 0, none⟩ v') ∧ Below n₀ W (w1.setCell ⟨B, 0, none⟩ v') := by
 have hv2 : Boxed w2 B t v := hv.kept (grown_none hg2) (by simp)
 have hrow2 : w2.ownsRow n₀ e size v k xs := own_grow hrow hg2
 have hv1 : Boxed w1 B t v := hv2.kept hgrow (hv2.not_row hte hrow2)
 refine ⟨hv1, hv1.set v', hown'.kept (grownBy_setCell' w1 B v') (.inr (hv1.not_row hte hown').symm), ?_, ?_⟩
 ·refine ((KeepsOthers.of_grownBy (grown_none hg2) fun j o ej => by cases ej).trans (KeepsOthers.of_grownBy hgrow fun j o ej hj => ?_)).trans (KeepsOthers.setCell _ _ _)
  rcases hrow2.2 with ⟨rfl, _⟩ | ⟨g, cap, cur, rfl, _, hgb, _⟩
  ·simp [Value.ownBlock] at ej
  ·obtain rfl : g = j := by simpa [Value.ownBlock] using ej
   rw [hgb] at hj; cases hj; rfl
 ·refine ((Below.mono hg2 hn₀).grown hgrow (Nat.le_trans hn₀ hg2.size) fun j ej => ?_).setCell (p := ⟨B, 0, none⟩) hB v'
  rcases hrow.2 with ⟨rfl, _⟩ | ⟨g, cap, cur, rfl, hb, _, _⟩
  ·simp [Value.ownBlock] at ej
  ·obtain rfl : g = j := by simpa [Value.ownBlock] using ej
   exact hb
theorem kinds_hit {os : List Int} {l : List Nat} {p : Nat} (h : os.getD p 0 ≠ 1) : kindsAt os (l ++ [p]) = kindsAt os l ++ [os.getD p 0] := by
 unfold kindsAt; rw [List.map_append, List.filter_append]; simp only [List.map_cons, List.map_nil, List.filter_cons, List.filter_nil]; rw [if_pos (by simpa using h)]
theorem kinds_miss {os : List Int} {l : List Nat} {p : Nat} (h : os.getD p 0 = 1) : kindsAt os (l ++ [p]) = kindsAt os l := by
 unfold kindsAt; rw [List.map_append, List.filter_append]; simp only [List.map_cons, List.map_nil, List.filter_cons, List.filter_nil]; rw [if_neg (by simpa using h), List.append_nil]
theorem kinds_length (os : List Int) (l : List Nat) : (kindsAt os l).length ≤ l.length := by
 unfold kindsAt; have := List.length_filter_le (fun k : Int => k != 1) (l.map fun p => os.getD p 0); simpa using this
theorem blk2' {w : World} {B : Nat} {T : TypeId} {a b : Value} (h : w.heap[B]? = some (.cells #[a, b] T (0, 0))) : w.cell? ((⟨B, 0, none⟩ : Addr).add 0) = some a ∧ w.cell? ((⟨B, 0, none⟩ : Addr).add 1) = some b := by
 refine ⟨?_, ?_⟩ <;> simp [World.cell?, Addr.add, h]
def OptV (k : Int) (u : Value) (x : World) : Prop := ∃ a n c, u = .agg #[.int .u8 k, .slice a n c]
def OptL (b0 : Nat) (k : Int) (u : Value) (x : World) : Prop := ∃ B a n c, u = .slice (some ⟨B, 0, none⟩) 1 1 ∧ x.heap[B]? = some (.cells #[.int .u8 k, .slice a n c] 68 (0, 0)) ∧ b0 ≤ B
def SomeB (u : Value) (x : World) : Prop := ∃ a n c, u = .slice a n c
set_option maxHeartbeats 4000000 in
theorem options_any (v : Value) (os : List Int) (w : World) (hv : BytesV w v os) (h0 : 0 < w.heap.size) (hlen : os.length ≤ 1048576) :
  Calls Tryz.prog 13 #[v] w fun e w' => (goodO os = true ∧ ∃ u, e = .returned (.tuple #[u, .bool true]) ∧ OptsIs w' w.heap.size u (kindsO os) ∧ Grow w w') ∨ (goodO os = false ∧ e = .returned (.tuple #[.slice none 0 0, .bool false]) ∧ Grow w w') := by
 obtain ⟨ao, b, off, cap, hs⟩ := slB_of hv h0
 have hby := hv.1
 have hval := hs.val
 subst hval
 clear hv
 obtain ⟨i0, hi, hz0, hz1, hz2⟩ := info_parts infoOpt
 refine (callsIn_wide (n := 5)).1 ?_
 refine callsIn_of_wp_marks Tryz.func13 rfl trivial ?_ rfl
 simp only [Tryz.ntmps13, List.size_toArray, List.length_cons, List.length_nil, Nat.reduceAdd, Nat.reduceSub, Array.replicate_succ, Array.replicate_zero, List.push_toArray, List.append_toArray, List.nil_append, List.cons_append]
 have HS := Lib.hid hs
 have HBy := Lib.hid hby
 have HLn := Lib.hid hlen
 clear hs hby hlen
 have hro : Fence.wide.round = none := rfl
 gi_wp2
 refine wpIn_scope_straight rfl ?_
 gi_wp2_with fail
 refine wpIn_label ?_
 gi_wp2_with fail
 refine ⟨trivial, (steps_in _ _ _ _ _).mono ?_⟩
 rintro e w' ⟨rfl, rfl⟩
 gi_wp2_with fail
 have bO := Boxed.new w 63 (.slice none 0 0)
 have bG := Boxed.new (w.alloc (.cells #[.slice none 0 0] 63)) 4 (.bool true)
 have bS := Boxed.new ((w.alloc (.cells #[.slice none 0 0] 63)).alloc (.cells #[.bool true] 4)) 25 (.slice ao os.length cap)
 rw [World.size_alloc] at bG
 rw [World.size_alloc, World.size_alloc] at bS
 have hB0 : Below w.heap.size w (((w.alloc (.cells #[.slice none 0 0] 63)).alloc (.cells #[.bool true] 4)).alloc (.cells #[.slice ao os.length cap] 25)) := (((Below.refl _ w).alloc (Nat.le_refl _) _).alloc (by simp) _).alloc (by simp; omega) _
 have hSL : SlB (((w.alloc (.cells #[.slice none 0 0] 63)).alloc (.cells #[.bool true] 4)).alloc (.cells #[.slice ao os.length cap] 25)) w.heap.size (.slice ao os.length cap) os ao b off cap :=
  ⟨HS.out.val, HS.out.le, HS.out.cap, HS.out.at0, HS.out.blk, fun j hj => (hB0.cell (p := ⟨b, off + j, none⟩) HS.out.blk).trans (HS.out.cell j hj)⟩
 refine wpIn_rangeFunc_ownG hro (by omega) (gf := 53) (lb := #[.pointer (some ⟨w.heap.size + 1 + 1, 0, none⟩)]) rfl trivial (enters_of Tryz.func53 (by kernel_rfl) rfl)
  (steps_stops 4 (w.heap.size + 1 + 1) w.heap.size _ hSL HBy.out (by simp) (by simp; omega) bS.cell) belowK_t (belowK_b (by simp; omega)) (Below.refl _ _) (fun _ => rfl)
  (fun pre W => (∃ v, Boxed W w.heap.size 63 v ∧ OptsIs W w.heap.size v (kindsAt os (begs pre))) ∧ Boxed W (w.heap.size + 1) 4 (.bool true) ∧ (∀ p ∈ begs pre, stepN os p ≠ 0) ∧ Below w.heap.size w W)
  (fun c pre W => Boxed W (w.heap.size + 1) 4 (.bool false) ∧ (c = .exit 0 ∧ ∃ p ∈ begs pre, stepN os p = 0) ∧ Below w.heap.size w W)
  (OwnFrom.and (Own.from (optsIs_own _ _ _) _) (OwnFrom.and (Own.from (boxed_own _ _ _) _) (OwnFrom.and (ownFrom_pure _ _) (ownFrom_below (Nat.le_refl _) (by simp; omega)))))
  (fun c => OwnFrom.and (Own.from (boxed_own _ _ _) _) (OwnFrom.and (ownFrom_pure _ _) (ownFrom_below (Nat.le_refl _) (by simp; omega))))
  ⟨⟨_, (bO.alloc _).alloc _, [], World.ownsRow_nil _ _ _ _, fun i hi => absurd hi (by simp [begs, kindsAt])⟩, bG.alloc _, by simp [begs], hB0⟩
  (fun x => { tmps := #[.slice ao os.length cap, undef, .slice none 0 0, .bool false, .pointer (some ⟨w.heap.size, 0, none⟩), .pointer (some ⟨w.heap.size + 1, 0, none⟩), .int .u8 (os.getD x.1 0), .slice (some ⟨b, off + x.1, none⟩) (stepN os x.1) (stepN os x.1), .slice ao os.length cap, .func (.func 53) #[] #[.pointer (some ⟨w.heap.size + 1 + 1, 0, none⟩)], .int .u8 (os.getD x.1 0), .slice (some ⟨b, off + x.1, none⟩) (stepN os x.1) (stepN os x.1), undef, undef, undef, undef, undef, undef, undef, undef, undef, undef, undef, undef, undef, undef, undef, undef, undef, undef], defers := [] }) ?assign ?body ?done ?stop
 case assign =>
  intro l x W K hK
  simp only [encO]
  gi_wp2
  exact hK
 case body =>
  rintro l pre x W ⟨⟨v, hv, hopts⟩, hgd, hall, hB⟩ hlt
  have hp := x.2
  obtain ⟨p, hpx⟩ : ∃ p, x.1 = p := ⟨_, rfl⟩
  rw [hpx] at hp
  have HPX := Lib.hid hpx
  obtain ⟨N, hN⟩ : ∃ N, stepN os p = N := ⟨_, rfl⟩
  obtain ⟨kk, hkk⟩ : ∃ k, os.getD p 0 = k := ⟨_, rfl⟩
  have HN := Lib.hid hN
  have HKK := Lib.hid hkk
  rw [hpx, hN, hkk]
  clear hpx
  have hcg := hgd.cell
  have hfg := hgd.frozen
  have HPL : Hid (p < os.length) := hp.1
  have HLE : Hid (p + N ≤ os.length) := by show _ ≤ _; rw [← hN]; exact stepN_le hp.1
  by_cases hN0 : N = 0
  ·have hn0 : ((N : Int) == 0) = true := by simp [hN0]
   have HN0 : Hid (stepN os p = 0) := by show _ = _; rw [hN, hN0]
   clear hN hkk hp hN0
   gi_wp2
   exact ⟨(KeepsOthers.setCell _ _ _).from _, hgd.set _, ⟨rfl, p, by rw [begs_snoc, HPX.out]; simp, HN0.out⟩, hB.setCell (p := ⟨w.heap.size + 1, 0, none⟩) (Nat.le_succ _) _⟩
  ·have hn0 : ((N : Int) == 0) = false := by simpa using hN0
   have HALL : Hid (∀ q ∈ begs (pre ++ [x]), stepN os q ≠ 0) := by
    intro q hq
    rw [begs_snoc, HPX.out] at hq
    rcases List.mem_append.1 hq with hq | hq
    ·exact hall q hq
    ·simp at hq; subst hq; rw [hN]; exact hN0
   by_cases hk1 : kk = 1
   ·have hkb : (kk != 1) = false := by simp [hk1]
    have HM : Hid (kindsAt os (begs (pre ++ [x])) = kindsAt os (begs pre)) := by show _ = _; rw [begs_snoc, HPX.out]; exact kinds_miss (by rw [hkk, hk1])
    clear hN hkk hN0 hk1
    gi_wp2
    exact ⟨KeepsFrom.refl _ _, Below.refl _ _, ⟨v, hv, by rw [HM.out]; exact hopts⟩, hgd, HALL.out, hB⟩
   ·have hkb : (kk != 1) = true := by simpa using hk1
    have hN2 : 2 ≤ N := by rw [← hN]; exact stepN_two (by rw [hkk]; exact hk1) (by rw [hN]; exact hN0)
    have HH : Hid (kindsAt os (begs (pre ++ [x])) = kindsAt os (begs pre) ++ [kk]) := by show _ = _; rw [begs_snoc, HPX.out, ← hkk]; exact kinds_hit (by rw [hkk]; exact hk1)
    have hle2 : (2 : Int) ≤ (N : Int) := by omega
    obtain ⟨xs, hown, hxs⟩ := hopts
    have HOWN := Lib.hid hown
    have HXS := Lib.hid hxs
    have hcv := hv.cell
    have HV := Lib.hid hv
    have HGD := Lib.hid hgd
    have HBd := Lib.hid hB
    have HKL : Hid ((kindsAt os (begs pre)).length ≤ 1048576) := Nat.le_trans (kinds_length _ _) (by unfold begs; rw [List.length_map]; have := HLn.out; omega)
    have hnlt : ¬ (N : Nat) = 0 := hN0
    have HB255 : Hid (N - 2 ≤ 10000) := by
     show _ ≤ _
     have hb := HBy.out.getD (p + 1)
     rw [← hN]; unfold stepN; split
     ·omega
     ·split <;> omega
    have HSB : Hid (BytesV W (.slice (some ⟨b, off + p, none⟩) N (cap - p)) ((os.drop p).take N)) := by
     have := bytes_sub (w := W) (b := b) (off := off) (cap := cap) (n := os.length) (zs := os) ⟨HBy.out, Or.inr ⟨b, off, cap, rfl, HS.out.le, HS.out.cap, fun i hi => (hB.cell (p := ⟨b, off + i, none⟩) HS.out.blk).trans (HS.out.cell i hi)⟩⟩ p (p + N) (by omega) HLE.out
     rwa [show p + N - p = N by omega] at this
    clear hN hkk hk1 hown hxs hv hgd hB
    by_cases hNe : N = 2
    ·have HSUB : Hid (BytesV W (.slice (some ⟨b, off + p, none⟩) 0 0) []) := ⟨Bytes.nil, Or.inl ⟨rfl, _, _, rfl, Nat.zero_le _, fun hh => by cases hh⟩⟩
     have HLN : Hid ((0 : Nat) ≤ 10000) := Nat.zero_le _
     subst hNe
     gi_wp2
     refine wpIn_region_grow (opened_round l _ _) 7 [] NoBlock (fun _ => True) (by kernel_rfl) (by kernel_rfl) (by kernel_rfl) (by rfl) (fun _ _ _ _ => trivial) trivial ?_
     simp only [List.take_succ_cons, List.take_zero, List.drop_succ_cons, List.drop_zero]
     refine wpHd v (fun w' hg => ?_) ?_
     ·have hx := (hg.below.cell (block_lt hcv)).trans hcv
      clear hg
      go_simp
      exact Below.refl _ _
     repeat (refine wpHp fun K hK => ?_; go_simp; refine hK _ ?_; clear hK K)
     refine wpH_hid' SomeB (by intro _ _ h; cases h) rfl (by rfl) (fun u x x' hg h => h) (by rfl) (by rfl) (fun w' hg => ?_) ?_
     ·have h := clone_any (HSUB.out.mono hg.below) (by have := HLN.out; omega)
      clear hg
      go_simp
      with_reducible refine h.mono ?_
      rintro e x ⟨u, rfl, h⟩
      obtain ⟨a, c, rfl, _, _⟩ := (ints_of_owns h.1).shape
      exact ⟨_, rfl, ⟨_, _, _, rfl⟩, h.2⟩
     try go_simp
     refine wpH_hid (OptV kk) rfl (by rfl) (fun u x x' hg h => h) (fun xs => by rfl) (fun xs w' hg hf => ?_) ?_
     ·have h1 := hf _ (List.Mem.head _) (by rfl)
      try dsimp only at h1
      clear hf hg
      simp only [fill]
      generalize xs 23 = y23 at *
      obtain ⟨a, n, c, rfl⟩ := h1
      go_simp
      exact ⟨⟨_, _, _, rfl⟩, Below.refl _ _⟩
     try go_simp
     refine wpH_hid (OptL W.heap.size kk) rfl (by rfl) (fun u x x' hg ⟨B, a, n, c, h1, h2, h3⟩ => ⟨B, a, n, c, h1, (hg.below.block B (lt_of_block h2)).trans h2, h3⟩) (fun xs => by rfl) (fun xs w' hg hf => ?_) ?_
     ·have h1 := hf _ (List.Mem.head _) (by rfl)
      try dsimp only at h1
      have HSZ := Lib.hid hg.below.size
      clear hf hg
      simp only [fill]
      generalize xs 24 = y24 at *
      obtain ⟨a, n, c, rfl⟩ := h1
      have HA := Lib.hid (heap_alloc_new w' (.cells #[.int .u8 kk, .slice a n c] 68))
      go_simp
      exact ⟨⟨_, a, n, c, rfl, HA.out, HSZ.out⟩, (Below.refl _ _).alloc (Nat.le_refl _) _⟩
     try go_simp
     refine wpH_nil ?_
     intro ys w2 hg hf1 hf2
     have hp25 := hf2 _ _ (List.Mem.head _)
     try dsimp only at hp25
     obtain ⟨B, a, nn, c, hB1, hB2, hB3⟩ := hp25
     clear hf1 hf2
     have HG2 : Hid (Grow W w2) := hg.below
     simp only [fill]
     generalize ys 23 = y23 at *
     generalize ys 24 = y24 at *
     generalize ys 25 = y25 at *
     subst hB1
     have HB2 := Lib.hid hB2
     have HO2 := Lib.hid (own_grow HOWN.out HG2.out)
     have hsz2 := HG2.out.size
     clear hg hB2 hB3 hcv
     go_simp
     refine wpListIn_append_own _ rfl _ _ 63 rfl w.heap.size 68 i0 (.agg #[.int .u8 0, .slice none 0 0]) 2 32 Tryz.underlying63 hi hz0 hz1 hz2 rfl (by decide) _ _ _ rfl HO2.out ⟨B, 0, none⟩ 1 1 [.int .u8 kk, .slice a nn c] rfl rfl ?c1 ?c2 ?c3 ?c4 ?c5 ?_
     case c1 =>
      intro jj u hj
      obtain ⟨c0, c1⟩ := blk2' HB2.out
      match jj, hj with
      | 0, hj => simp at hj; subst hj; exact c0
      | 1, hj => simp at hj; subst hj; exact c1
     case c2 => intro u hu; simp at hu; rcases hu with rfl | rfl <;> rfl
     case c3 => have := HKL.out; unfold maxLen; omega
     case c4 => have := HKL.out; omega
     case c5 => have := HBd.out.size; omega
     intro v' w3 hown' hgrow _
     obtain ⟨g', cap', rfl⟩ := ownsRow_succ hown'
     obtain ⟨hv1, hv2, hr2, hk2, hb2⟩ := boxed_append HG2.out HV.out (by decide) HOWN.out HBd.out.size (Nat.le_refl _) hown' hgrow
     have hc1 := hv1.cell
     have hf1 := hv1.frozen
     have HGD2 : Hid (Boxed (w3.setCell ⟨w.heap.size, 0, none⟩ (.slice (some ⟨g', 0, none⟩) ((kindsAt os (begs pre)).length + 1) cap')) (w.heap.size + 1) 4 (.bool true)) := by
      refine (HGD.out.kept (grown_none HG2.out) (by simp)).kept hgrow ?_ |>.kept (grownBy_setCell' _ _ _) (by simp)
      exact (HGD.out.kept (grown_none HG2.out) (by simp)).not_row (by decide) HO2.out
     have HFIN : Hid ((∀ B0, KeepsFrom B0 W (w3.setCell ⟨w.heap.size, 0, none⟩ (.slice (some ⟨g', 0, none⟩) ((kindsAt os (begs pre)).length + 1) cap'))) ∧ Below w.heap.size W (w3.setCell ⟨w.heap.size, 0, none⟩ (.slice (some ⟨g', 0, none⟩) ((kindsAt os (begs pre)).length + 1) cap')) ∧ (∃ v, Boxed (w3.setCell ⟨w.heap.size, 0, none⟩ (.slice (some ⟨g', 0, none⟩) ((kindsAt os (begs pre)).length + 1) cap')) w.heap.size 63 v ∧ OptsIs (w3.setCell ⟨w.heap.size, 0, none⟩ (.slice (some ⟨g', 0, none⟩) ((kindsAt os (begs pre)).length + 1) cap')) w.heap.size v (kindsAt os (begs (pre ++ [x]))))) := by
      refine ⟨fun _ => hk2.from _, hb2, _, hv2, _, by rw [HH.out, List.length_append]; exact hr2, fun i hi => ?_⟩
      rw [HH.out, List.length_append] at hi
      simp only [List.length_cons, List.length_nil] at hi
      rw [HH.out]
      have hxl : xs.length = 2 * (kindsAt os (begs pre)).length := by have := HOWN.out.1; omega
      by_cases hi2 : i < (kindsAt os (begs pre)).length
      ·rw [List.getElem?_append_left (by omega), HXS.out i hi2]
       simp only [List.getD_eq_getElem?_getD]; rw [List.getElem?_append_left hi2]
      ·have hie : i = (kindsAt os (begs pre)).length := by omega
       rw [List.getElem?_append_right (by omega), hie]
       simp [hxl]
     clear hv1 hv2 hr2 hk2 hb2 hown' hgrow
     gi_wp2
     exact ⟨HFIN.out.1 _, HFIN.out.2.1, HFIN.out.2.2, HGD2.out, HALL.out, HBd.out.trans HFIN.out.2.1⟩
    ·have HSUB : Hid (BytesV W (.slice (some ⟨b, off + p + 2, none⟩) (N - 2) (N - 2)) (((os.drop p).take N).drop 2)) := by
      have hcell := HSB.out.2.cells
      have hln : ((os.drop p).take N).length = N := by rw [List.length_take, List.length_drop]; have := HLE.out; omega
      refine ⟨HSB.out.1.drop 2, Or.inr ⟨b, off + p + 2, N - 2, by rw [List.length_drop, hln], by rw [List.length_drop, hln]; exact Nat.le_refl _, by have := HLE.out; have := HLn.out; unfold maxLen; omega, fun i hi => ?_⟩⟩
      rw [List.length_drop, hln] at hi
      have := hcell (2 + i) (by rw [hln]; omega)
      rw [← Nat.add_assoc] at this
      rw [this]
      simp [List.getD_eq_getElem?_getD, List.getElem?_drop]
     have HLN : Hid (N - 2 ≤ 10000) := HB255.out
     gi_wp2
     refine wpIn_region_grow (opened_round l _ _) 7 [] NoBlock (fun _ => True) (by kernel_rfl) (by kernel_rfl) (by kernel_rfl) (by rfl) (fun _ _ _ _ => trivial) trivial ?_
     simp only [List.take_succ_cons, List.take_zero, List.drop_succ_cons, List.drop_zero]
     refine wpHd v (fun w' hg => ?_) ?_
     ·have hx := (hg.below.cell (block_lt hcv)).trans hcv
      clear hg
      go_simp
      exact Below.refl _ _
     repeat (refine wpHp fun K hK => ?_; go_simp; refine hK _ ?_; clear hK K)
     refine wpH_hid' SomeB (by intro _ _ h; cases h) rfl (by rfl) (fun u x x' hg h => h) (by rfl) (by rfl) (fun w' hg => ?_) ?_
     ·have h := clone_any (HSUB.out.mono hg.below) (by have := HLN.out; omega)
      clear hg
      go_simp
      with_reducible refine h.mono ?_
      rintro e x ⟨u, rfl, h⟩
      obtain ⟨a, c, rfl, _, _⟩ := (ints_of_owns h.1).shape
      exact ⟨_, rfl, ⟨_, _, _, rfl⟩, h.2⟩
     try go_simp
     refine wpH_hid (OptV kk) rfl (by rfl) (fun u x x' hg h => h) (fun xs => by rfl) (fun xs w' hg hf => ?_) ?_
     ·have h1 := hf _ (List.Mem.head _) (by rfl)
      try dsimp only at h1
      clear hf hg
      simp only [fill]
      generalize xs 23 = y23 at *
      obtain ⟨a, n, c, rfl⟩ := h1
      go_simp
      exact ⟨⟨_, _, _, rfl⟩, Below.refl _ _⟩
     try go_simp
     refine wpH_hid (OptL W.heap.size kk) rfl (by rfl) (fun u x x' hg ⟨B, a, n, c, h1, h2, h3⟩ => ⟨B, a, n, c, h1, (hg.below.block B (lt_of_block h2)).trans h2, h3⟩) (fun xs => by rfl) (fun xs w' hg hf => ?_) ?_
     ·have h1 := hf _ (List.Mem.head _) (by rfl)
      try dsimp only at h1
      have HSZ := Lib.hid hg.below.size
      clear hf hg
      simp only [fill]
      generalize xs 24 = y24 at *
      obtain ⟨a, n, c, rfl⟩ := h1
      have HA := Lib.hid (heap_alloc_new w' (.cells #[.int .u8 kk, .slice a n c] 68))
      go_simp
      exact ⟨⟨_, a, n, c, rfl, HA.out, HSZ.out⟩, (Below.refl _ _).alloc (Nat.le_refl _) _⟩
     try go_simp
     refine wpH_nil ?_
     intro ys w2 hg hf1 hf2
     have hp25 := hf2 _ _ (List.Mem.head _)
     try dsimp only at hp25
     obtain ⟨B, a, nn, c, hB1, hB2, hB3⟩ := hp25
     clear hf1 hf2
     have HG2 : Hid (Grow W w2) := hg.below
     simp only [fill]
     generalize ys 23 = y23 at *
     generalize ys 24 = y24 at *
     generalize ys 25 = y25 at *
     subst hB1
     have HB2 := Lib.hid hB2
     have HO2 := Lib.hid (own_grow HOWN.out HG2.out)
     have hsz2 := HG2.out.size
     clear hg hB2 hB3 hcv
     go_simp
     refine wpListIn_append_own _ rfl _ _ 63 rfl w.heap.size 68 i0 (.agg #[.int .u8 0, .slice none 0 0]) 2 32 Tryz.underlying63 hi hz0 hz1 hz2 rfl (by decide) _ _ _ rfl HO2.out ⟨B, 0, none⟩ 1 1 [.int .u8 kk, .slice a nn c] rfl rfl ?c1 ?c2 ?c3 ?c4 ?c5 ?_
     case c1 =>
      intro jj u hj
      obtain ⟨c0, c1⟩ := blk2' HB2.out
      match jj, hj with
      | 0, hj => simp at hj; subst hj; exact c0
      | 1, hj => simp at hj; subst hj; exact c1
     case c2 => intro u hu; simp at hu; rcases hu with rfl | rfl <;> rfl
     case c3 => have := HKL.out; unfold maxLen; omega
     case c4 => have := HKL.out; omega
     case c5 => have := HBd.out.size; omega
     intro v' w3 hown' hgrow _
     obtain ⟨g', cap', rfl⟩ := ownsRow_succ hown'
     obtain ⟨hv1, hv2, hr2, hk2, hb2⟩ := boxed_append HG2.out HV.out (by decide) HOWN.out HBd.out.size (Nat.le_refl _) hown' hgrow
     have hc1 := hv1.cell
     have hf1 := hv1.frozen
     have HGD2 : Hid (Boxed (w3.setCell ⟨w.heap.size, 0, none⟩ (.slice (some ⟨g', 0, none⟩) ((kindsAt os (begs pre)).length + 1) cap')) (w.heap.size + 1) 4 (.bool true)) := by
      refine (HGD.out.kept (grown_none HG2.out) (by simp)).kept hgrow ?_ |>.kept (grownBy_setCell' _ _ _) (by simp)
      exact (HGD.out.kept (grown_none HG2.out) (by simp)).not_row (by decide) HO2.out
     have HFIN : Hid ((∀ B0, KeepsFrom B0 W (w3.setCell ⟨w.heap.size, 0, none⟩ (.slice (some ⟨g', 0, none⟩) ((kindsAt os (begs pre)).length + 1) cap'))) ∧ Below w.heap.size W (w3.setCell ⟨w.heap.size, 0, none⟩ (.slice (some ⟨g', 0, none⟩) ((kindsAt os (begs pre)).length + 1) cap')) ∧ (∃ v, Boxed (w3.setCell ⟨w.heap.size, 0, none⟩ (.slice (some ⟨g', 0, none⟩) ((kindsAt os (begs pre)).length + 1) cap')) w.heap.size 63 v ∧ OptsIs (w3.setCell ⟨w.heap.size, 0, none⟩ (.slice (some ⟨g', 0, none⟩) ((kindsAt os (begs pre)).length + 1) cap')) w.heap.size v (kindsAt os (begs (pre ++ [x]))))) := by
      refine ⟨fun _ => hk2.from _, hb2, _, hv2, _, by rw [HH.out, List.length_append]; exact hr2, fun i hi => ?_⟩
      rw [HH.out, List.length_append] at hi
      simp only [List.length_cons, List.length_nil] at hi
      rw [HH.out]
      have hxl : xs.length = 2 * (kindsAt os (begs pre)).length := by have := HOWN.out.1; omega
      by_cases hi2 : i < (kindsAt os (begs pre)).length
      ·rw [List.getElem?_append_left (by omega), HXS.out i hi2]
       simp only [List.getD_eq_getElem?_getD]; rw [List.getElem?_append_left hi2]
      ·have hie : i = (kindsAt os (begs pre)).length := by omega
       rw [List.getElem?_append_right (by omega), hie]
       simp [hxl]
     clear hv1 hv2 hr2 hk2 hb2 hown' hgrow
     gi_wp2
     exact ⟨HFIN.out.1 _, HFIN.out.2.1, HFIN.out.2.2, HGD2.out, HALL.out, HBd.out.trans HFIN.out.2.1⟩
 case done =>
  rintro D ys W hD hys ⟨⟨v, hv, hopts⟩, hgd, hall, hB⟩ hK
  have hc := hv.cell
  have hcg := hgd.cell
  have HGO : Hid (goodO os = true) := by
   show _ = _
   unfold goodO
   rw [← hys]
   exact List.all_eq_true.2 fun p hp => by simpa using hall p hp
  have HOP : Hid (OptsIs (W.putObj D (.deferred none)) w.heap.size v (kindsO os)) := by
   obtain ⟨xs, h1, h2⟩ := hopts
   rw [hys] at h1 h2
   exact ⟨xs, ownsRow_putObj h1 _ hK rfl, h2⟩
  have HGW : Hid (Grow w (W.putObj D (.deferred none))) := hB.trans (belowK_b (w := w) (Nat.le_refl _) W D _ _ (by simp at hD; omega) hK rfl rfl)
  have HK := Lib.hid hK
  clear hK hall hopts hys hD hB hgd
  gi_wp2
  refine ⟨by simp, .inl ⟨_, _, rfl, run_takeDeferred HK.out, ?_⟩⟩
  exact ⟨.tuple #[v, .bool true], by simp [results, Tryz.f13, go_sem], Or.inl ⟨HGO.out, v, rfl, HOP.out, HGW.out⟩⟩
 case stop =>
  rintro D c pre W hD hpre ⟨hgd, ⟨rfl, hbad⟩, hB⟩ hK
  have hcg := hgd.cell
  have HGO : Hid (goodO os = false) := by
   show _ = _
   unfold goodO
   obtain ⟨p, hp, hz⟩ := hbad
   refine List.all_eq_false.2 ⟨p, hpre.subset hp, by simp [hz]⟩
  have HGW : Hid (Grow w (W.putObj D (.deferred none))) := hB.trans (belowK_b (w := w) (Nat.le_refl _) W D _ _ (by simp at hD; omega) hK rfl rfl)
  have HK := Lib.hid hK
  clear hK hbad hpre hD hB hgd
  gi_wp2
  refine ⟨by simp, .inl ⟨_, _, rfl, run_takeDeferred HK.out, ?_⟩⟩
  exact ⟨.tuple #[.slice none 0 0, .bool false], by simp [results, Tryz.f13, go_sem], Or.inr ⟨HGO.out, rfl, HGW.out⟩⟩
end
end Go.Proofs.YtgckhdepnmiejaaGreat
namespace Go.Proofs.YtgckhdepnmiejaaGreat
section
set_option maxRecDepth 100000
open Go.RowKit
structure Hd where
 tos : Int
 id : Int
 evil : Bool
 df : Bool
 mf : Bool
 off : Int
 ttl : Int
 proto : Int
 src : Int
 dst : Int
 v : Value
 os : List Int
def hdCells (tos id : Int) (evil df mf : Bool) (off ttl proto src dst : Int) (v : Value) : Array Value := #[.int .u8 tos, .int .u16 id, .bool evil, .bool df, .bool mf, .int .i64 off, .int .u8 ttl, .int .u8 proto, .int .u32 src, .int .u32 dst, v]
def Hd.cells (h : Hd) : Array Value := hdCells h.tos h.id h.evil h.df h.mf h.off h.ttl h.proto h.src h.dst h.v
def Hd.val (h : Hd) : Value := .agg h.cells
def U8 (x : Int) : Prop := 0 ≤ x ∧ x < 256
def U16 (x : Int) : Prop := 0 ≤ x ∧ x < 65536
def U32 (x : Int) : Prop := 0 ≤ x ∧ x < 4294967296
structure HdOk (w : World) (h : Hd) : Prop where
 tos : U8 h.tos
 id : U16 h.id
 off : -9223372036854775808 ≤ h.off ∧ h.off ≤ 9223372036854775807
 ttl : U8 h.ttl
 proto : U8 h.proto
 src : U32 h.src
 dst : U32 h.dst
 body : BytesV w h.v h.os
theorem HdOk.mono {w w' : World} {h : Hd} (k : HdOk w h) (hg : Grow w w') : HdOk w' h := ⟨k.tos, k.id, k.off, k.ttl, k.proto, k.src, k.dst, k.body.mono hg⟩
/-- A header that may be. -/
def MayH (h : Hd) : Prop := goodO h.os = true ∧ h.os.length ≤ 40 ∧ h.os.length % 4 = 0 ∧ 0 ≤ h.off ∧ h.off ≤ 8191
instance (h : Hd) : Decidable (MayH h) := by unfold MayH; infer_instance
def mayH (h : Hd) : Bool := decide (MayH h)
theorem blkH {w : World} {B : Nat} {T : TypeId} {a b c d e f g h i j k : Value} (hh : w.heap[B]? = some (.cells #[a, b, c, d, e, f, g, h, i, j, k] T (0, 0))) :
  (w.cell? ⟨B, 0, none⟩ = some a ∧ w.cell? ⟨B, 1, none⟩ = some b ∧ w.cell? ⟨B, 2, none⟩ = some c ∧ w.cell? ⟨B, 3, none⟩ = some d ∧ w.cell? ⟨B, 4, none⟩ = some e ∧ w.cell? ⟨B, 5, none⟩ = some f) ∧ w.cell? ⟨B, 6, none⟩ = some g ∧ w.cell? ⟨B, 7, none⟩ = some h ∧ w.cell? ⟨B, 8, none⟩ = some i ∧ w.cell? ⟨B, 9, none⟩ = some j ∧ w.cell? ⟨B, 10, none⟩ = some k := by
 refine ⟨⟨?_, ?_, ?_, ?_, ?_, ?_⟩, ?_, ?_, ?_, ?_, ?_⟩ <;> simp [World.cell?, hh]
theorem ret_boolT {a b : Bool} (h : a = b) : Ending.returned (.bool a) = .returned (.bool b) := by rw [h]
set_option maxHeartbeats 1000000 in
theorem may_bad {tos id off ttl proto src dst : Int} {evil df mf : Bool} {ao : Option Addr} {m cap : Nat} (w : World) (hm : m ≤ cap) (hc : cap ≤ maxLen) (HO : ∀ x, Grow w x → 0 < x.heap.size → Calls Tryz.prog 13 #[.slice ao m cap] x fun e w' => ∃ u, e = .returned (.tuple #[u, .bool false]) ∧ Grow x w') :
  Calls Tryz.prog 4 #[.agg #[.int .u8 tos, .int .u16 id, .bool evil, .bool df, .bool mf, .int .i64 off, .int .u8 ttl, .int .u8 proto, .int .u32 src, .int .u32 dst, .slice ao m cap]] w fun e w' => e = .returned (.bool false) ∧ Grow w w' := by
 unfold maxLen at hc
 have HOh := Lib.hid HO
 clear HO
 have HG : Hid (Grow w (w.alloc (.cells #[.int .u8 tos, .int .u16 id, .bool evil, .bool df, .bool mf, .int .i64 off, .int .u8 ttl, .int .u8 proto, .int .u32 src, .int .u32 dst, .slice ao m cap] 27))) := (Grow.refl w).alloc _
 have hN := heap_alloc_new w (.cells #[.int .u8 tos, .int .u16 id, .bool evil, .bool df, .bool mf, .int .i64 off, .int .u8 ttl, .int .u8 proto, .int .u32 src, .int .u32 dst, .slice ao m cap] 27)
 have HN := Lib.hid hN
 clear hN
 go_enter Tryz.func4, Tryz.ntmps4
 go_wp2_with fail
 refine (HOh.out _ HG.out (by simp)).mono ?_
 rintro e w1 ⟨u, rfl, hg⟩
 obtain ⟨⟨c0, c1, c2, c3, c4, c5⟩, c6, c7, c8, c9, c10⟩ := blkH ((hg.block _ (lt_of_block HN.out)).trans HN.out)
 have HG1 := Lib.hid (HG.out.trans hg)
 clear hg
 go_wp2_with fail
 go_ret
 exact ⟨by first | rfl | (simp; done) | (simp; omega), HG1.out⟩
set_option maxHeartbeats 1000000 in
theorem may_long {tos id off ttl proto src dst : Int} {evil df mf : Bool} {ao : Option Addr} {m cap : Nat} (w : World) (hm : m ≤ cap) (hc : cap ≤ maxLen) (HO : ∀ x, Grow w x → 0 < x.heap.size → Calls Tryz.prog 13 #[.slice ao m cap] x fun e w' => ∃ u, e = .returned (.tuple #[u, .bool true]) ∧ Grow x w') (h1 : (40 : Int) < (m : Int)) :
  Calls Tryz.prog 4 #[.agg #[.int .u8 tos, .int .u16 id, .bool evil, .bool df, .bool mf, .int .i64 off, .int .u8 ttl, .int .u8 proto, .int .u32 src, .int .u32 dst, .slice ao m cap]] w fun e w' => e = .returned (.bool false) ∧ Grow w w' := by
 unfold maxLen at hc
 have HOh := Lib.hid HO
 clear HO
 have HG : Hid (Grow w (w.alloc (.cells #[.int .u8 tos, .int .u16 id, .bool evil, .bool df, .bool mf, .int .i64 off, .int .u8 ttl, .int .u8 proto, .int .u32 src, .int .u32 dst, .slice ao m cap] 27))) := (Grow.refl w).alloc _
 have hN := heap_alloc_new w (.cells #[.int .u8 tos, .int .u16 id, .bool evil, .bool df, .bool mf, .int .i64 off, .int .u8 ttl, .int .u8 proto, .int .u32 src, .int .u32 dst, .slice ao m cap] 27)
 have HN := Lib.hid hN
 clear hN
 go_enter Tryz.func4, Tryz.ntmps4
 go_wp2_with fail
 refine (HOh.out _ HG.out (by simp)).mono ?_
 rintro e w1 ⟨u, rfl, hg⟩
 obtain ⟨⟨c0, c1, c2, c3, c4, c5⟩, c6, c7, c8, c9, c10⟩ := blkH ((hg.block _ (lt_of_block HN.out)).trans HN.out)
 have HG1 := Lib.hid (HG.out.trans hg)
 clear hg
 go_wp2_with fail
 go_ret
 exact ⟨by first | rfl | (simp; done) | (simp; omega), HG1.out⟩
set_option maxHeartbeats 1000000 in
theorem may_odd {tos id off ttl proto src dst : Int} {evil df mf : Bool} {ao : Option Addr} {m cap : Nat} (w : World) (hm : m ≤ cap) (hc : cap ≤ maxLen) (HO : ∀ x, Grow w x → 0 < x.heap.size → Calls Tryz.prog 13 #[.slice ao m cap] x fun e w' => ∃ u, e = .returned (.tuple #[u, .bool true]) ∧ Grow x w') (h1 : (m : Int) ≤ 40) (h2 : ((m : Int) % 4 == 0) = false) :
  Calls Tryz.prog 4 #[.agg #[.int .u8 tos, .int .u16 id, .bool evil, .bool df, .bool mf, .int .i64 off, .int .u8 ttl, .int .u8 proto, .int .u32 src, .int .u32 dst, .slice ao m cap]] w fun e w' => e = .returned (.bool false) ∧ Grow w w' := by
 unfold maxLen at hc
 have HOh := Lib.hid HO
 clear HO
 have HG : Hid (Grow w (w.alloc (.cells #[.int .u8 tos, .int .u16 id, .bool evil, .bool df, .bool mf, .int .i64 off, .int .u8 ttl, .int .u8 proto, .int .u32 src, .int .u32 dst, .slice ao m cap] 27))) := (Grow.refl w).alloc _
 have hN := heap_alloc_new w (.cells #[.int .u8 tos, .int .u16 id, .bool evil, .bool df, .bool mf, .int .i64 off, .int .u8 ttl, .int .u8 proto, .int .u32 src, .int .u32 dst, .slice ao m cap] 27)
 have HN := Lib.hid hN
 clear hN
 go_enter Tryz.func4, Tryz.ntmps4
 go_wp2_with fail
 refine (HOh.out _ HG.out (by simp)).mono ?_
 rintro e w1 ⟨u, rfl, hg⟩
 obtain ⟨⟨c0, c1, c2, c3, c4, c5⟩, c6, c7, c8, c9, c10⟩ := blkH ((hg.block _ (lt_of_block HN.out)).trans HN.out)
 have HG1 := Lib.hid (HG.out.trans hg)
 clear hg
 go_wp2_with fail
 go_ret
 exact ⟨by first | rfl | (simp; done) | (simp; omega), HG1.out⟩
set_option maxHeartbeats 1000000 in
theorem may_low {tos id off ttl proto src dst : Int} {evil df mf : Bool} {ao : Option Addr} {m cap : Nat} (w : World) (hm : m ≤ cap) (hc : cap ≤ maxLen) (HO : ∀ x, Grow w x → 0 < x.heap.size → Calls Tryz.prog 13 #[.slice ao m cap] x fun e w' => ∃ u, e = .returned (.tuple #[u, .bool true]) ∧ Grow x w') (h1 : (m : Int) ≤ 40) (h2 : ((m : Int) % 4 == 0) = true) (h3 : off < 0) :
  Calls Tryz.prog 4 #[.agg #[.int .u8 tos, .int .u16 id, .bool evil, .bool df, .bool mf, .int .i64 off, .int .u8 ttl, .int .u8 proto, .int .u32 src, .int .u32 dst, .slice ao m cap]] w fun e w' => e = .returned (.bool false) ∧ Grow w w' := by
 unfold maxLen at hc
 have HOh := Lib.hid HO
 clear HO
 have HG : Hid (Grow w (w.alloc (.cells #[.int .u8 tos, .int .u16 id, .bool evil, .bool df, .bool mf, .int .i64 off, .int .u8 ttl, .int .u8 proto, .int .u32 src, .int .u32 dst, .slice ao m cap] 27))) := (Grow.refl w).alloc _
 have hN := heap_alloc_new w (.cells #[.int .u8 tos, .int .u16 id, .bool evil, .bool df, .bool mf, .int .i64 off, .int .u8 ttl, .int .u8 proto, .int .u32 src, .int .u32 dst, .slice ao m cap] 27)
 have HN := Lib.hid hN
 clear hN
 go_enter Tryz.func4, Tryz.ntmps4
 go_wp2_with fail
 refine (HOh.out _ HG.out (by simp)).mono ?_
 rintro e w1 ⟨u, rfl, hg⟩
 obtain ⟨⟨c0, c1, c2, c3, c4, c5⟩, c6, c7, c8, c9, c10⟩ := blkH ((hg.block _ (lt_of_block HN.out)).trans HN.out)
 have HG1 := Lib.hid (HG.out.trans hg)
 clear hg
 go_wp2_with fail
 go_ret
 exact ⟨by first | rfl | (simp; done) | (simp; omega), HG1.out⟩
set_option maxHeartbeats 1000000 in
theorem may_far {tos id off ttl proto src dst : Int} {evil df mf : Bool} {ao : Option Addr} {m cap : Nat} (w : World) (hm : m ≤ cap) (hc : cap ≤ maxLen) (HO : ∀ x, Grow w x → 0 < x.heap.size → Calls Tryz.prog 13 #[.slice ao m cap] x fun e w' => ∃ u, e = .returned (.tuple #[u, .bool true]) ∧ Grow x w') (h1 : (m : Int) ≤ 40) (h2 : ((m : Int) % 4 == 0) = true) (h3 : 0 ≤ off) (h4 : 8191 < off) :
  Calls Tryz.prog 4 #[.agg #[.int .u8 tos, .int .u16 id, .bool evil, .bool df, .bool mf, .int .i64 off, .int .u8 ttl, .int .u8 proto, .int .u32 src, .int .u32 dst, .slice ao m cap]] w fun e w' => e = .returned (.bool false) ∧ Grow w w' := by
 unfold maxLen at hc
 have HOh := Lib.hid HO
 clear HO
 have HG : Hid (Grow w (w.alloc (.cells #[.int .u8 tos, .int .u16 id, .bool evil, .bool df, .bool mf, .int .i64 off, .int .u8 ttl, .int .u8 proto, .int .u32 src, .int .u32 dst, .slice ao m cap] 27))) := (Grow.refl w).alloc _
 have hN := heap_alloc_new w (.cells #[.int .u8 tos, .int .u16 id, .bool evil, .bool df, .bool mf, .int .i64 off, .int .u8 ttl, .int .u8 proto, .int .u32 src, .int .u32 dst, .slice ao m cap] 27)
 have HN := Lib.hid hN
 clear hN
 go_enter Tryz.func4, Tryz.ntmps4
 go_wp2_with fail
 refine (HOh.out _ HG.out (by simp)).mono ?_
 rintro e w1 ⟨u, rfl, hg⟩
 obtain ⟨⟨c0, c1, c2, c3, c4, c5⟩, c6, c7, c8, c9, c10⟩ := blkH ((hg.block _ (lt_of_block HN.out)).trans HN.out)
 have HG1 := Lib.hid (HG.out.trans hg)
 clear hg
 go_wp2_with fail
 go_ret
 exact ⟨by first | rfl | (simp; done) | (simp; omega), HG1.out⟩
set_option maxHeartbeats 1000000 in
theorem may_ok {tos id off ttl proto src dst : Int} {evil df mf : Bool} {ao : Option Addr} {m cap : Nat} (w : World) (hm : m ≤ cap) (hc : cap ≤ maxLen) (HO : ∀ x, Grow w x → 0 < x.heap.size → Calls Tryz.prog 13 #[.slice ao m cap] x fun e w' => ∃ u, e = .returned (.tuple #[u, .bool true]) ∧ Grow x w') (h1 : (m : Int) ≤ 40) (h2 : ((m : Int) % 4 == 0) = true) (h3 : 0 ≤ off) (h4 : off ≤ 8191) :
  Calls Tryz.prog 4 #[.agg #[.int .u8 tos, .int .u16 id, .bool evil, .bool df, .bool mf, .int .i64 off, .int .u8 ttl, .int .u8 proto, .int .u32 src, .int .u32 dst, .slice ao m cap]] w fun e w' => e = .returned (.bool true) ∧ Grow w w' := by
 unfold maxLen at hc
 have HOh := Lib.hid HO
 clear HO
 have HG : Hid (Grow w (w.alloc (.cells #[.int .u8 tos, .int .u16 id, .bool evil, .bool df, .bool mf, .int .i64 off, .int .u8 ttl, .int .u8 proto, .int .u32 src, .int .u32 dst, .slice ao m cap] 27))) := (Grow.refl w).alloc _
 have hN := heap_alloc_new w (.cells #[.int .u8 tos, .int .u16 id, .bool evil, .bool df, .bool mf, .int .i64 off, .int .u8 ttl, .int .u8 proto, .int .u32 src, .int .u32 dst, .slice ao m cap] 27)
 have HN := Lib.hid hN
 clear hN
 go_enter Tryz.func4, Tryz.ntmps4
 go_wp2_with fail
 refine (HOh.out _ HG.out (by simp)).mono ?_
 rintro e w1 ⟨u, rfl, hg⟩
 obtain ⟨⟨c0, c1, c2, c3, c4, c5⟩, c6, c7, c8, c9, c10⟩ := blkH ((hg.block _ (lt_of_block HN.out)).trans HN.out)
 have HG1 := Lib.hid (HG.out.trans hg)
 clear hg
 go_wp2_with fail
 go_ret
 exact ⟨by first | rfl | (simp; done) | (simp; omega), HG1.out⟩
theorem tmod4 (m : Nat) : (((m : Int) % 4) == 0) = decide (m % 4 = 0) := by
 by_cases h : m % 4 = 0
 ·rw [decide_eq_true h]; simp; omega
 ·rw [decide_eq_false h]; simp; omega
theorem opts_good {os : List Int} {v : Value} {w : World} (hv : BytesV w v os) (hl : os.length ≤ 1048576) (hg : goodO os = true) : ∀ x, Grow w x → 0 < x.heap.size → Calls Tryz.prog 13 #[v] x fun e w' => ∃ u, e = .returned (.tuple #[u, .bool true]) ∧ Grow x w' := fun x hx h0 => by
 refine (options_any v os x (hv.mono hx) h0 hl).mono ?_
 rintro e w' (⟨_, u, rfl, _, h⟩ | ⟨h, _⟩)
 ·exact ⟨u, rfl, h⟩
 ·rw [hg] at h; cases h
theorem opts_bad {os : List Int} {v : Value} {w : World} (hv : BytesV w v os) (hl : os.length ≤ 1048576) (hg : goodO os = false) : ∀ x, Grow w x → 0 < x.heap.size → Calls Tryz.prog 13 #[v] x fun e w' => ∃ u, e = .returned (.tuple #[u, .bool false]) ∧ Grow x w' := fun x hx h0 => by
 refine (options_any v os x (hv.mono hx) h0 hl).mono ?_
 rintro e w' (⟨h, _⟩ | ⟨_, rfl, h⟩)
 ·rw [hg] at h; cases h
 ·exact ⟨_, rfl, h⟩
theorem may_hdr (h : Hd) (w : World) (hok : HdOk w h) (hl : h.os.length ≤ 1048576) : Calls Tryz.prog 4 #[h.val] w fun e w' => e = .returned (.bool (mayH h)) ∧ Grow w w' := by
 have key : ∀ r : Bool, mayH h = r → (Calls Tryz.prog 4 #[h.val] w fun e w' => e = .returned (.bool r) ∧ Grow w w') → Calls Tryz.prog 4 #[h.val] w fun e w' => e = .returned (.bool (mayH h)) ∧ Grow w w' := fun r hr h => by rw [hr]; exact h
 have no : ¬ MayH h → mayH h = false := fun h => decide_eq_false h
 have yes : MayH h → mayH h = true := fun h => decide_eq_true h
 have hb := hok.body
 obtain ⟨ao, cap, hv, h1, h2⟩ := hb.shape
 clear hok
 obtain ⟨tos, id, evil, df, mf, off, ttl, proto, src, dst, v, os⟩ := h
 dsimp only at *
 subst hv
 have t4 := tmod4 os.length
 unfold MayH at no yes
 simp only [Hd.val, Hd.cells, hdCells] at *
 cases hg : goodO os
 ·exact key false (no (fun h => by rw [hg] at h; cases h.1)) (may_bad w h1 h2 (opts_bad hb hl hg))
 have HO := opts_good hb hl hg
 by_cases a1 : os.length ≤ 40
 case neg => exact key false (no (fun h => a1 h.2.1)) (may_long w h1 h2 HO (by omega))
 by_cases a2 : os.length % 4 = 0
 case neg => exact key false (no (fun h => a2 h.2.2.1)) (may_odd w h1 h2 HO (by omega) (by rw [t4, decide_eq_false a2]))
 by_cases a3 : 0 ≤ off
 case neg => exact key false (no (fun h => a3 h.2.2.2.1)) (may_low w h1 h2 HO (by omega) (by rw [t4, decide_eq_true a2]) (by omega))
 by_cases a4 : off ≤ 8191
 case neg => exact key false (no (fun h => a4 h.2.2.2.2)) (may_far w h1 h2 HO (by omega) (by rw [t4, decide_eq_true a2]) a3 (by omega))
 exact key true (yes ⟨hg, a1, a2, a3, a4⟩) (may_ok w h1 h2 HO (by omega) (by rw [t4, decide_eq_true a2]) a3 a4)
set_option maxHeartbeats 1000000 in
theorem size_hdr (h : Hd) (w : World) (hok : HdOk w h) (hm : mayH h = true) : Calls Tryz.prog 28 #[h.val] w fun e w' => e = .returned (.int .i64 (20 + h.os.length)) ∧ Grow w w' := by
 have hl : h.os.length ≤ 40 := (of_decide_eq_true hm : MayH h).2.1
 have HM : Hid (∀ x, Grow w x → Calls Tryz.prog 4 #[h.val] x fun e w' => e = .returned (.bool true) ∧ Grow x w') := fun x hx => by rw [← hm]; exact may_hdr h x (hok.mono hx) (by omega)
 have hb := hok.body
 obtain ⟨ao, cap, hv, h1, h2⟩ := hb.shape
 clear hok hb hm
 obtain ⟨tos, id, evil, df, mf, off, ttl, proto, src, dst, v, os⟩ := h
 dsimp only at *
 subst hv
 simp only [Hd.val, Hd.cells, hdCells] at *
 unfold maxLen at h2
 generalize os.length = m at *
 have HG : Hid (Grow w (w.alloc (.cells #[.int .u8 tos, .int .u16 id, .bool evil, .bool df, .bool mf, .int .i64 off, .int .u8 ttl, .int .u8 proto, .int .u32 src, .int .u32 dst, .slice ao m cap] 27))) := (Grow.refl w).alloc _
 have hN := heap_alloc_new w (.cells #[.int .u8 tos, .int .u16 id, .bool evil, .bool df, .bool mf, .int .i64 off, .int .u8 ttl, .int .u8 proto, .int .u32 src, .int .u32 dst, .slice ao m cap] 27)
 have HN := Lib.hid hN
 clear hN
 go_enter Tryz.func28, Tryz.ntmps28
 go_wp2_with fail
 refine (HM.out _ HG.out).mono ?_
 rintro e w1 ⟨rfl, hg⟩
 obtain ⟨⟨c0, c1, c2, c3, c4, c5⟩, c6, c7, c8, c9, c10⟩ := blkH ((hg.block _ (lt_of_block HN.out)).trans HN.out)
 have HG1 := Lib.hid (HG.out.trans hg)
 clear hg
 go_wp2_with fail
 go_ret
 exact ⟨by first | rfl | (simp; omega), HG1.out⟩
def isPiece (h : Hd) : Bool := h.mf || decide (0 < h.off)
set_option maxHeartbeats 1000000 in
theorem fragment_hdr (h : Hd) (w : World) (hok : HdOk w h) : Calls Tryz.prog 26 #[h.val] w fun e w' => e = .returned (.bool (isPiece h)) ∧ Grow w w' := by
 have HI : Hid (isPiece h = (h.mf || decide (0 < h.off))) := rfl
 generalize isPiece h = r at *
 obtain ⟨ao, cap, hv, h1, h2⟩ := hok.body.shape
 clear hok
 obtain ⟨tos, id, evil, df, mf, off, ttl, proto, src, dst, v, os⟩ := h
 dsimp only at *
 subst hv
 simp only [Hd.val, Hd.cells, hdCells] at *
 unfold maxLen at h2
 generalize os.length = m at *
 have HG : Hid (Grow w (w.alloc (.cells #[.int .u8 tos, .int .u16 id, .bool evil, .bool df, .bool mf, .int .i64 off, .int .u8 ttl, .int .u8 proto, .int .u32 src, .int .u32 dst, .slice ao m cap] 27))) := (Grow.refl w).alloc _
 cases mf
 ·by_cases ho : 0 < off
  ·have HR : Hid (r = true) := by show _ = _; rw [HI.out]; simp [ho]
   clear HI
   go_enter Tryz.func26, Tryz.ntmps26
   go_wp2_with fail
   go_ret
   exact ⟨ret_boolT (by rw [HR.out] <;> first | rfl | (simp; done) | (simp; omega)), HG.out⟩
  ·have HR : Hid (r = false) := by show _ = _; rw [HI.out]; simp [ho]
   have ho2 : off ≤ 0 := by omega
   clear HI ho
   go_enter Tryz.func26, Tryz.ntmps26
   go_wp2_with fail
   go_ret
   exact ⟨ret_boolT (by rw [HR.out] <;> first | rfl | (simp; done) | (simp; omega)), HG.out⟩
 ·have HR : Hid (r = true) := by show _ = _; rw [HI.out]; rfl
  clear HI
  go_enter Tryz.func26, Tryz.ntmps26
  go_wp2_with fail
  go_ret
  exact ⟨ret_boolT (by rw [HR.out] <;> first | rfl | (simp; done) | (simp; omega)), HG.out⟩
end
end Go.Proofs.YtgckhdepnmiejaaGreat
namespace Go.Proofs.YtgckhdepnmiejaaGreat
section
set_option maxRecDepth 100000
open Go.RowKit
/-- The bytes behind k steps from the last one. -/
def putSt (L : Nat) (n : Int) (k : Nat) : List Int := (List.range L).map fun j => if j + k < L then 0 else n / 256 ^ (L - 1 - j) % 256
theorem putSt_length (L : Nat) (n : Int) (k : Nat) : (putSt L n k).length = L := by simp [putSt]
theorem putSt_zero (L : Nat) (n : Int) : putSt L n 0 = List.replicate L 0 := by
 apply List.ext_getElem
 ·simp [putSt]
 ·intro j h1 h2
  have hj : j < L := by simpa [putSt] using h1
  simp [putSt, hj]
theorem putSt_set (L : Nat) (n : Int) {k : Nat} (hk : k < L) : (putSt L n k).set (L - 1 - k) (n / 256 ^ k % 256) = putSt L n (k + 1) := by
 apply List.ext_getElem
 ·simp [putSt]
 ·intro j h1 h2
  rw [List.getElem_set]
  simp only [putSt, List.length_map, List.length_range] at h2
  simp only [putSt, List.getElem_map, List.getElem_range]
  by_cases e : L - 1 - k = j
  ·rw [if_pos e, if_neg (by omega), show L - 1 - j = k by omega]
  ·rw [if_neg e]
   by_cases h : j + k < L
   ·rw [if_pos h, if_pos (by omega)]
   ·rw [if_neg h, if_neg (by omega)]
theorem putSt_map_set (L : Nat) (n : Int) {k : Nat} (hk : k < L) : ((putSt L n k).map (Value.int .u8)).set (L - 1 - k) (.int .u8 (n / 256 ^ k % 256)) = (putSt L n (k + 1)).map (Value.int .u8) := by
 rw [← putSt_set L n hk, List.map_set]
theorem put_div (n : Int) (k : Nat) : n / 256 ^ k / 256 = n / 256 ^ (k + 1) := by
 rw [Int.ediv_ediv_of_nonneg (by have : (0:Int) < 256 ^ k := Int.pow_pos (by decide); omega), Int.pow_succ]
theorem put_bd {n : Int} (h : 0 ≤ n ∧ n < 18446744073709551616) (k : Nat) : 0 ≤ n / 256 ^ k ∧ n / 256 ^ k < 18446744073709551616 := by
 have hp : (0 : Int) < 256 ^ k := Int.pow_pos (by decide)
 refine ⟨Int.ediv_nonneg h.1 (by omega), ?_⟩
 exact Int.lt_of_le_of_lt (Int.ediv_le_self _ h.1) h.2
def bel (L : Nat) (n : Int) : List Int := putSt L n L
theorem bel_length (L : Nat) (n : Int) : (bel L n).length = L := putSt_length L n L
theorem bel_bytes (L : Nat) (n : Int) : Bytes (bel L n) := by
 intro x hx
 unfold bel putSt at hx
 obtain ⟨j, _, rfl⟩ := List.mem_map.1 hx
 split <;> omega
set_option maxHeartbeats 1000000 in
theorem rput_any (n : Int) (L : Nat) (w : World) (hn : 0 ≤ n ∧ n < 18446744073709551616) (h1 : 1 ≤ L) (h8 : L ≤ 8) :
  Calls Tryz.prog 22 #[.int .u64 n, .int .i64 (L : Int)] w fun e w' => ∃ v, e = .returned v ∧ NewBytes w (bel L n) v w' := by
 obtain ⟨i0, hi, hz0, hz1, hz2⟩ := info_parts infoByte
 go_enter Tryz.func22, Tryz.ntmps22
 go_wp2_with (at_make; refine wpList_make_full _ rfl _ _ 25 rfl w.heap.size 5 i0 (.int .u8 0) 1 Tryz.underlying25 hi hz0 hz1 _ _ _ _ L rfl rfl rfl rfl (by rw [hz2]; omega) (by unfold maxLen; omega) (Nat.le_refl _) ?_)
 intro w2 ho hgr
 have HGR : Hid (Grow w w2) := ⟨hgr.os, hgr.tape, hgr.output, hgr.size, fun q hq => hgr.block q hq (by simp)⟩
 have HO : Hid (w2.ownsRow w.heap.size 5 1 (.slice (some ⟨w.heap.size, 0, none⟩) L L) L ((putSt L n 0).map (Value.int .u8))) := by
  have e : (madeCells #[Value.int .u8 0] L).toList = (putSt L n 0).map (Value.int .u8) := by
   rw [putSt_zero, List.map_replicate]
   exact toList_madeCells_one _ _
  show World.ownsRow _ _ _ _ _ _ _
  rw [← e]; exact ho
 clear ho hgr
 generalize hB : w.heap.size = B at *
 go_wp2_with fail
 go_loopw [0, 6] (fun u i wr => ∃ k : Nat, k ≤ L ∧ u = .int .u64 (n / 256 ^ k) ∧ i = .int .i64 ((L : Int) - 1 - k) ∧ wr.ownsRow B 5 1 (.slice (some ⟨B, 0, none⟩) L L) L ((putSt L n k).map (Value.int .u8)) ∧ Grow w wr)
  (fun _ i _ => (intOf i + 1).toNat)
 case atStart => exact ⟨0, by omega, by simp, by simp, HO.out, HGR.out⟩
 case round =>
  obtain ⟨k, hk, rfl, rfl, hown, hg⟩ := hrel
  by_cases hlt : k < L
  ·have hk1 : (k : Int) < (L : Int) := by omega
   obtain ⟨j, hj⟩ : ∃ j : Nat, (L : Int) - 1 - k = j := ⟨L - 1 - k, by omega⟩
   have hj2 : L - 1 - k = j := by omega
   have hjL : j < L := by omega
   obtain ⟨x, hx⟩ : ∃ x, n / 256 ^ k = x := ⟨_, rfl⟩
   have hxb := put_bd hn k
   have hd := put_div n k
   have hset := putSt_map_set L n hlt
   rw [hx] at hxb hd hset
   rw [hj2] at hset
   rw [hj, hx]
   have hcell := hown.cellAt j (by omega)
   rw [List.getElem?_map] at hcell
   obtain ⟨y, hy⟩ : ∃ y, (putSt L n k)[j]? = some y := ⟨_, List.getElem?_eq_getElem (by rw [putSt_length]; omega)⟩
   rw [hy] at hcell
   simp only [Option.map_some] at hcell
   have hfz := hown.frozenAt j
   have hst := hown.stored j (.int .u8 (x % 256))
   rw [hset] at hst
   have HR : Hid ((wr.setCell ⟨B, j, none⟩ (.int .u8 (x % 256))).ownsRow B 5 1 (.slice (some ⟨B, 0, none⟩) L L) L ((putSt L n (k + 1)).map (Value.int .u8)) ∧ Grow w (wr.setCell ⟨B, j, none⟩ (.int .u8 (x % 256)))) :=
    ⟨hst.1, Below.setCell (p := ⟨B, j, none⟩) hg (by rw [hB]; exact Nat.le_refl _) _⟩
   have HD := Lib.hid hd
   have HJ := Lib.hid hj
   clear hst hset hown hg hd hx hy hj2 hj hn HO HGR
   go_wp2_with fail
   go_roundw
   case rel => exact ⟨k + 1, by omega, congrArg (Value.int .u64) HD.out, by have := HJ.out; (congr 1; omega), HR.out.1, HR.out.2⟩
   case measure => have := HJ.out; simp [intOf] <;> omega
  ·have hkL : k = L := by omega
   subst hkL
   have e : (k : Int) - 1 - k = -1 := by omega
   rw [e]
   have H := Lib.hid (And.intro hown hg)
   clear hown hg e
   go_wp2_with fail
   go_ret
   exact ⟨_, rfl, by rw [bel_length, hB]; have := H.out.1; exact this, H.out.2⟩
end
end Go.Proofs.YtgckhdepnmiejaaGreat
namespace Go.Proofs.YtgckhdepnmiejaaGreat
section
set_option maxRecDepth 100000
open Go.RowKit
theorem bel_getD (L : Nat) (n : Int) {k : Nat} (h : k < L) : (bel L n).getD k 0 = n / 256 ^ (L - 1 - k) % 256 := by
 have e : ¬ (k + L < L) := by omega
 simp [bel, putSt, h]
 intro h2; omega
theorem bel_take (L : Nat) (n : Int) {k : Nat} (h : k < L) : (bel L n).take (k + 1) = (bel L n).take k ++ [n / 256 ^ (L - 1 - k) % 256] := by
 rw [List.take_succ_eq_append_getElem (by rw [bel_length]; exact h)]
 have e : (bel L n)[k]'(by rw [bel_length]; exact h) = (bel L n).getD k 0 := by simp [bel_length, h]
 rw [e, bel_getD L n h]
theorem bel1z (n : Int) : bel 1 n = [n % 256] := by simp [bel, putSt, List.range, List.range.loop]
set_option maxHeartbeats 1000000 in
theorem wput_1 (n : Int) (w : World) (hn : 0 ≤ n ∧ n < 256) :
  Calls Tryz.prog 97 #[.int .u64 n, .int .i64 1] w fun e w' => ∃ v, e = .returned (.tuple #[v, .int .i64 0]) ∧ NewBytes w (bel 1 n) v w' := by
 obtain ⟨i0, hi, hz0, hz1, hz2⟩ := info_parts infoByte
 have hz0' : n / 256 = 0 := by omega
 go_enter Tryz.func97, Tryz.ntmps97
 go_wp2_with fail
 go_loopw [6, 26] (fun v i wr => ∃ k : Nat, k ≤ 1 ∧ i = .int .i64 k ∧ wr.ownsRow w.heap.size 5 1 v ((bel 1 n).take k).length (((bel 1 n).take k).map (Value.int .u8)) ∧ Grow w wr)
  (fun _ i _ => 1 - (intOf i).toNat)
 case atStart => exact ⟨0, by omega, rfl, World.ownsRow_nil _ _ _ _, Grow.refl _⟩
 case round =>
  obtain ⟨k, hk, rfl, hown, hg⟩ := hrel
  by_cases hlt : k < 1
  ·obtain rfl : k = 0 := by omega
   obtain ⟨x, hx⟩ : ∃ x, n = x := ⟨_, rfl⟩
   have HX := Lib.hid hx
   have HT : Hid ((bel 1 n).take (0 + 1) = (bel 1 n).take 0 ++ [x]) := by rw [← hx, bel1z, Int.emod_eq_of_lt hn.1 hn.2]; rfl
   have HL : Hid (((bel 1 n).take 0).length = 0) := by show List.length _ = 0; rw [List.length_take, bel_length]; omega
   clear hx
   generalize (bel 1 n).take 0 = pre at *
   go_wp2_with (at_builtin; refine wpList_append_own _ rfl _ _ 25 rfl w.heap.size 5 i0 (.int .u8 0) 1 1 Tryz.underlying25 hi hz0 hz1 hz2 rfl (by decide) _ _ _ rfl (hown.alloc _) ⟨wr.heap.size, 0, none⟩ 1 1 [.int .u8 n] rfl rfl ?c1 ?c2 ?c3 ?c4 ?c5 ?_)
   case c1 =>
    intro j u hj
    match j, hj with
    | 0, hj => simp at hj; subst hj; simp [Addr.add]
   case c2 => intro u hu; simp at hu; subst hu; rfl
   case c3 => rw [HL.out]; unfold maxLen; simp
   case c4 => rw [HL.out]; simp
   case c5 => have := hg.size; simp; omega
   ·intro v' w1 hown' hgrow _
    have HR : Hid (w1.ownsRow w.heap.size 5 1 v' ((bel 1 n).take (0 + 1)).length (((bel 1 n).take (0 + 1)).map (Value.int .u8)) ∧ Grow w w1) := by
     rw [HT.out]
     refine ⟨?_, ?_⟩
     ·rw [← HX.out]
      simpa using hown'
     ·exact Below.grown (hg.alloc _) hgrow (by have := hg.size; simp; omega) (fun j hj => (hown.lt j hj).1)
    clear hown' hgrow hown hg
    go_wp2
    go_roundw
    case rel => exact ⟨0 + 1, by omega, by first | rfl | go_num, HR.out.1, HR.out.2⟩
    case measure => simp [intOf]
  ·have h2 : k = 1 := by omega
   subst h2
   go_wp2_with fail
   go_ret2
   rw [List.take_of_length_le (by rw [bel_length]; omega)] at hown
   exact ⟨_, rfl, hown, hg⟩
set_option maxHeartbeats 1000000 in
theorem iput_1 (n : Int) (w : World) (hn : 0 ≤ n ∧ n < 256) :
  Calls Tryz.prog 74 #[.int .u64 n, .int .i64 1] w fun e w' => ∃ v, e = .returned v ∧ NewBytes w (bel 1 n) v w' := by
 have HP := Lib.hid (wput_1 n w hn)
 go_enter Tryz.func74, Tryz.ntmps74
 go_wp2_with fail
 refine HP.out.mono ?_
 rintro e w1 ⟨v, rfl, h⟩
 have H := Lib.hid h
 clear h
 go_wp2_with fail
 go_ret
 exact ⟨_, rfl, H.out⟩
theorem shl_2 (n : Int) {k : Nat} (h : k < 2) : n / 2 ^ (8 * (1 - k)) % 256 = n / 256 ^ (2 - 1 - k) % 256 := by
 have : k = 0 ∨ k = 1 := by omega
 rcases this with rfl | rfl <;> simp
set_option maxHeartbeats 1000000 in
theorem wput_2 (n : Int) (w : World) (hn : 0 ≤ n ∧ n < 65536) :
  Calls Tryz.prog 97 #[.int .u64 n, .int .i64 2] w fun e w' => ∃ v, e = .returned (.tuple #[v, .int .i64 0]) ∧ NewBytes w (bel 2 n) v w' := by
 obtain ⟨i0, hi, hz0, hz1, hz2⟩ := info_parts infoByte
 have hz0' : n / 65536 = 0 := by omega
 go_enter Tryz.func97, Tryz.ntmps97
 go_wp2_with fail
 go_loopw [6, 26] (fun v i wr => ∃ k : Nat, k ≤ 2 ∧ i = .int .i64 k ∧ wr.ownsRow w.heap.size 5 1 v ((bel 2 n).take k).length (((bel 2 n).take k).map (Value.int .u8)) ∧ Grow w wr)
  (fun _ i _ => 2 - (intOf i).toNat)
 case atStart => exact ⟨0, by omega, rfl, World.ownsRow_nil _ _ _ _, Grow.refl _⟩
 case round =>
  obtain ⟨k, hk, rfl, hown, hg⟩ := hrel
  by_cases hlt : k < 2
  ·have hk1 : (k : Int) < 2 := by omega
   obtain ⟨x, hx⟩ : ∃ x, n / 2 ^ (8 * (1 - k)) % 256 = x := ⟨_, rfl⟩
   have HX := Lib.hid hx
   have HT : Hid ((bel 2 n).take (k + 1) = (bel 2 n).take k ++ [x]) := by rw [← hx, shl_2 n hlt]; exact bel_take 2 n hlt
   have HL : Hid (((bel 2 n).take k).length = k) := by show List.length _ = k; rw [List.length_take, bel_length]; omega
   clear hx
   generalize (bel 2 n).take k = pre at *
   go_wp2_with (at_builtin; refine wpList_append_own _ rfl _ _ 25 rfl w.heap.size 5 i0 (.int .u8 0) 1 1 Tryz.underlying25 hi hz0 hz1 hz2 rfl (by decide) _ _ _ rfl (hown.alloc _) ⟨wr.heap.size, 0, none⟩ 1 1 [.int .u8 (n / 2 ^ (8 * (1 - k)) % 256)] rfl rfl ?c1 ?c2 ?c3 ?c4 ?c5 ?_)
   case c1 =>
    intro j u hj
    match j, hj with
    | 0, hj => simp at hj; subst hj; simp [Addr.add]
   case c2 => intro u hu; simp at hu; subst hu; rfl
   case c3 => rw [HL.out]; unfold maxLen; simp; omega
   case c4 => rw [HL.out]; simp; omega
   case c5 => have := hg.size; simp; omega
   ·intro v' w1 hown' hgrow _
    have HR : Hid (w1.ownsRow w.heap.size 5 1 v' ((bel 2 n).take (k + 1)).length (((bel 2 n).take (k + 1)).map (Value.int .u8)) ∧ Grow w w1) := by
     rw [HT.out]
     refine ⟨?_, ?_⟩
     ·rw [← HX.out]
      simpa using hown'
     ·exact Below.grown (hg.alloc _) hgrow (by have := hg.size; simp; omega) (fun j hj => (hown.lt j hj).1)
    clear hown' hgrow hown hg
    go_wp2
    go_roundw
    case rel => exact ⟨k + 1, by omega, by go_num, HR.out.1, HR.out.2⟩
    case measure => simp [intOf]; omega
  ·have h2 : k = 2 := by omega
   subst h2
   go_wp2_with fail
   go_ret2
   rw [List.take_of_length_le (by rw [bel_length]; omega)] at hown
   exact ⟨_, rfl, hown, hg⟩
set_option maxHeartbeats 1000000 in
theorem iput_2 (n : Int) (w : World) (hn : 0 ≤ n ∧ n < 65536) :
  Calls Tryz.prog 74 #[.int .u64 n, .int .i64 2] w fun e w' => ∃ v, e = .returned v ∧ NewBytes w (bel 2 n) v w' := by
 have HP := Lib.hid (wput_2 n w hn)
 go_enter Tryz.func74, Tryz.ntmps74
 go_wp2_with fail
 refine HP.out.mono ?_
 rintro e w1 ⟨v, rfl, h⟩
 have H := Lib.hid h
 clear h
 go_wp2_with fail
 go_ret
 exact ⟨_, rfl, H.out⟩
theorem shl_4 (n : Int) {k : Nat} (h : k < 4) : n / 2 ^ (8 * (3 - k)) % 256 = n / 256 ^ (4 - 1 - k) % 256 := by
 have : k = 0 ∨ k = 1 ∨ k = 2 ∨ k = 3 := by omega
 rcases this with rfl | rfl | rfl | rfl <;> simp
set_option maxHeartbeats 1000000 in
theorem wput_4 (n : Int) (w : World) (hn : 0 ≤ n ∧ n < 4294967296) :
  Calls Tryz.prog 97 #[.int .u64 n, .int .i64 4] w fun e w' => ∃ v, e = .returned (.tuple #[v, .int .i64 0]) ∧ NewBytes w (bel 4 n) v w' := by
 obtain ⟨i0, hi, hz0, hz1, hz2⟩ := info_parts infoByte
 have hz0' : n / 4294967296 = 0 := by omega
 go_enter Tryz.func97, Tryz.ntmps97
 go_wp2_with fail
 go_loopw [6, 26] (fun v i wr => ∃ k : Nat, k ≤ 4 ∧ i = .int .i64 k ∧ wr.ownsRow w.heap.size 5 1 v ((bel 4 n).take k).length (((bel 4 n).take k).map (Value.int .u8)) ∧ Grow w wr)
  (fun _ i _ => 4 - (intOf i).toNat)
 case atStart => exact ⟨0, by omega, rfl, World.ownsRow_nil _ _ _ _, Grow.refl _⟩
 case round =>
  obtain ⟨k, hk, rfl, hown, hg⟩ := hrel
  by_cases hlt : k < 4
  ·have hk1 : (k : Int) < 4 := by omega
   obtain ⟨x, hx⟩ : ∃ x, n / 2 ^ (8 * (3 - k)) % 256 = x := ⟨_, rfl⟩
   have HX := Lib.hid hx
   have HT : Hid ((bel 4 n).take (k + 1) = (bel 4 n).take k ++ [x]) := by rw [← hx, shl_4 n hlt]; exact bel_take 4 n hlt
   have HL : Hid (((bel 4 n).take k).length = k) := by show List.length _ = k; rw [List.length_take, bel_length]; omega
   clear hx
   generalize (bel 4 n).take k = pre at *
   go_wp2_with (at_builtin; refine wpList_append_own _ rfl _ _ 25 rfl w.heap.size 5 i0 (.int .u8 0) 1 1 Tryz.underlying25 hi hz0 hz1 hz2 rfl (by decide) _ _ _ rfl (hown.alloc _) ⟨wr.heap.size, 0, none⟩ 1 1 [.int .u8 (n / 2 ^ (8 * (3 - k)) % 256)] rfl rfl ?c1 ?c2 ?c3 ?c4 ?c5 ?_)
   case c1 =>
    intro j u hj
    match j, hj with
    | 0, hj => simp at hj; subst hj; simp [Addr.add]
   case c2 => intro u hu; simp at hu; subst hu; rfl
   case c3 => rw [HL.out]; unfold maxLen; simp; omega
   case c4 => rw [HL.out]; simp; omega
   case c5 => have := hg.size; simp; omega
   ·intro v' w1 hown' hgrow _
    have HR : Hid (w1.ownsRow w.heap.size 5 1 v' ((bel 4 n).take (k + 1)).length (((bel 4 n).take (k + 1)).map (Value.int .u8)) ∧ Grow w w1) := by
     rw [HT.out]
     refine ⟨?_, ?_⟩
     ·rw [← HX.out]
      simpa using hown'
     ·exact Below.grown (hg.alloc _) hgrow (by have := hg.size; simp; omega) (fun j hj => (hown.lt j hj).1)
    clear hown' hgrow hown hg
    go_wp2
    go_roundw
    case rel => exact ⟨k + 1, by omega, by go_num, HR.out.1, HR.out.2⟩
    case measure => simp [intOf]; omega
  ·have h2 : k = 4 := by omega
   subst h2
   go_wp2_with fail
   go_ret2
   rw [List.take_of_length_le (by rw [bel_length]; omega)] at hown
   exact ⟨_, rfl, hown, hg⟩
set_option maxHeartbeats 1000000 in
theorem iput_4 (n : Int) (w : World) (hn : 0 ≤ n ∧ n < 4294967296) :
  Calls Tryz.prog 74 #[.int .u64 n, .int .i64 4] w fun e w' => ∃ v, e = .returned v ∧ NewBytes w (bel 4 n) v w' := by
 have HP := Lib.hid (wput_4 n w hn)
 go_enter Tryz.func74, Tryz.ntmps74
 go_wp2_with fail
 refine HP.out.mono ?_
 rintro e w1 ⟨v, rfl, h⟩
 have H := Lib.hid h
 clear h
 go_wp2_with fail
 go_ret
 exact ⟨_, rfl, H.out⟩
set_option maxHeartbeats 1000000 in
theorem number_any (b off cap L : Nat) (zs : List Int) (w : World) (hb : Bytes zs) (hc : ∀ i, i < zs.length → w.cell? ⟨b, off + i, none⟩ = some (.int .u8 (zs.getD i 0))) (hl : zs.length = L) (hL : 1 ≤ L ∧ L ≤ 8) (hcap : L ≤ cap) (hm : cap ≤ maxLen) :
  Calls Tryz.prog 33 #[.slice (some ⟨b, off, none⟩) L cap] w fun e w' => e = .returned (.int .u64 (beN zs)) ∧ w = w' := by
 have HP := Lib.hid (getL b off cap L zs w hb hc hl hL hcap hm)
 clear hc hb
 go_enter Tryz.func33, Tryz.ntmps33
 go_wp2_with fail
 refine HP.out.mono ?_
 rintro e w1 ⟨rfl, rfl⟩
 go_wp2_with fail
 go_ret
 exact ⟨rfl, rfl⟩
theorem bel1 (n : Int) : bel 1 n = [n % 256] := by simp [bel, putSt, List.range, List.range.loop]
theorem bel2' (n : Int) : bel 2 n = [n / 256 % 256, n % 256] := by simp [bel, putSt, List.range, List.range.loop]
theorem bel4' (n : Int) : bel 4 n = [n / 16777216 % 256, n / 65536 % 256, n / 256 % 256, n % 256] := by simp [bel, putSt, List.range, List.range.loop]
theorem beN_bel2 {n : Int} (h : 0 ≤ n ∧ n < 65536) : beN (bel 2 n) = n := by
 rw [bel2']; simp only [beN, List.foldl_cons, List.foldl_nil]; omega
theorem beN_bel4' {a : Int} (h : 0 ≤ a ∧ a < 4294967296) : beN (bel 4 a) = a := by
 rw [bel4']; simp only [beN, List.foldl_cons, List.foldl_nil]; omega
end
end Go.Proofs.YtgckhdepnmiejaaGreat
namespace Go.Proofs.YtgckhdepnmiejaaGreat
section

end
end Go.Proofs.YtgckhdepnmiejaaGreat
namespace Go.Proofs.YtgckhdepnmiejaaGreat
section
set_option maxRecDepth 100000
open Go.RowKit
/-- A header whose numbers fit, and that may be. -/
structure Raw (h : Hd) : Prop where
 tos : U8 h.tos
 id : U16 h.id
 off : 0 ≤ h.off ∧ h.off ≤ 8191
 ttl : U8 h.ttl
 proto : U8 h.proto
 src : U32 h.src
 dst : U32 h.dst
 by_ : Bytes h.os
 len : h.os.length ≤ 40
 four : h.os.length % 4 = 0
 good : goodO h.os = true
theorem Raw.may {h : Hd} (r : Raw h) : mayH h = true := decide_eq_true ⟨r.good, r.len, r.four, r.off⟩
theorem Raw.ok {h : Hd} {w : World} (r : Raw h) (hv : IntsV .u8 w h.v h.os) : HdOk w h := ⟨r.tos, r.id, by have := r.off; omega, r.ttl, r.proto, r.src, r.dst, r.by_, hv⟩
theorem raw_of {h : Hd} {w : World} (k : HdOk w h) (hm : mayH h = true) : Raw h := by
 obtain ⟨h1, h2, h3, h4⟩ : MayH h := of_decide_eq_true hm
 exact ⟨k.tos, k.id, h4, k.ttl, k.proto, k.src, k.dst, k.body.1, h2, h3, h1⟩
def fwH (h : Hd) : Int := (if h.evil then 32768 else 0) + (if h.df then 16384 else 0) + (if h.mf then 8192 else 0) + h.off
def topH (h : Hd) (n : Nat) : List Int := [64 + (20 + (h.os.length : Int)) / 4, h.tos] ++ bel 2 (20 + h.os.length + n) ++ bel 2 h.id ++ bel 2 (fwH h) ++ [h.ttl, h.proto]
def endH (h : Hd) : List Int := bel 4 h.src ++ bel 4 h.dst ++ h.os
def hd0 (h : Hd) (n : Nat) : List Int := topH h n ++ ([0, 0] ++ endH h)
def ckH (h : Hd) (n : Nat) : Int := 65535 - nrm (bsum (hd0 h n))
def hdr (h : Hd) (n : Nat) : List Int := topH h n ++ (bel 2 (ckH h n) ++ endH h)
def pkt (h : Hd) (pl : List Int) : List Int := hdr h pl.length ++ pl
theorem topH_length (h : Hd) (n : Nat) : (topH h n).length = 10 := by simp [topH, bel_length]
theorem endH_length (h : Hd) : (endH h).length = 8 + h.os.length := by simp [endH, bel_length]; omega
theorem hdr_length (h : Hd) (n : Nat) : (hdr h n).length = 20 + h.os.length := by simp [hdr, topH_length, endH_length, bel_length]; omega
theorem hd0_length (h : Hd) (n : Nat) : (hd0 h n).length = 20 + h.os.length := by simp [hd0, topH_length, endH_length]; omega
theorem pkt_length (h : Hd) (pl : List Int) : (pkt h pl).length = 20 + h.os.length + pl.length := by simp [pkt, hdr_length]
theorem ckH_bd (h : Hd) (n : Nat) : 0 ≤ ckH h n ∧ ckH h n < 65536 := by
 unfold ckH; have := nrm_bd (bsum (hd0 h n)); omega
theorem fwH_bd {h : Hd} (r : Raw h) : 0 ≤ fwH h ∧ fwH h < 65536 := by
 have := r.off
 unfold fwH
 cases h.evil <;> cases h.df <;> cases h.mf <;> simp <;> omega
theorem topH_bytes {h : Hd} (r : Raw h) (n : Nat) : Bytes (topH h n) := by
 have h1 := r.tos; have h2 := r.ttl; have h3 := r.proto; have h4 := r.len
 unfold U8 at h1 h2 h3
 refine Bytes.append (Bytes.append (Bytes.append (Bytes.append ?_ (bel_bytes _ _)) (bel_bytes _ _)) (bel_bytes _ _)) ?_
 ·intro x hx; simp at hx; rcases hx with rfl | rfl <;> omega
 ·intro x hx; simp at hx; rcases hx with rfl | rfl <;> omega
theorem endH_bytes {h : Hd} (r : Raw h) : Bytes (endH h) := ((bel_bytes _ _).append (bel_bytes _ _)).append r.by_
theorem hd0_bytes {h : Hd} (r : Raw h) (n : Nat) : Bytes (hd0 h n) := (topH_bytes r n).append (Bytes.append (by unfold Bytes; decide) (endH_bytes r))
theorem hdr_bytes {h : Hd} (r : Raw h) (n : Nat) : Bytes (hdr h n) := (topH_bytes r n).append ((bel_bytes _ _).append (endH_bytes r))
theorem pkt_bytes {h : Hd} (r : Raw h) {pl : List Int} (hp : Bytes pl) : Bytes (pkt h pl) := (hdr_bytes r _).append hp
/-- Its bytes, one by one. -/
theorem pkt_eq (h : Hd) (pl : List Int) : pkt h pl = (64 + (20 + (h.os.length : Int)) / 4) :: h.tos :: ((20 + (h.os.length : Int) + pl.length) / 256 % 256) :: ((20 + (h.os.length : Int) + pl.length) % 256) ::
  (h.id / 256 % 256) :: (h.id % 256) :: (fwH h / 256 % 256) :: (fwH h % 256) :: h.ttl :: h.proto :: (ckH h pl.length / 256 % 256) :: (ckH h pl.length % 256) ::
  (h.src / 16777216 % 256) :: (h.src / 65536 % 256) :: (h.src / 256 % 256) :: (h.src % 256) :: (h.dst / 16777216 % 256) :: (h.dst / 65536 % 256) :: (h.dst / 256 % 256) :: (h.dst % 256) :: (h.os ++ pl) := by
 simp [pkt, hdr, topH, endH, bel2', bel4']
theorem pkt_0 (h : Hd) (pl : List Int) : (pkt h pl).getD 0 0 = 64 + (20 + (h.os.length : Int)) / 4 := by rw [pkt_eq]; rfl
theorem pkt_1 (h : Hd) (pl : List Int) : (pkt h pl).getD 1 0 = h.tos := by rw [pkt_eq]; rfl
theorem pkt_8 (h : Hd) (pl : List Int) : (pkt h pl).getD 8 0 = h.ttl := by rw [pkt_eq]; rfl
theorem pkt_9 (h : Hd) (pl : List Int) : (pkt h pl).getD 9 0 = h.proto := by rw [pkt_eq]; rfl
theorem pkt_tot (h : Hd) (pl : List Int) : ((pkt h pl).drop 2).take 2 = bel 2 (20 + h.os.length + pl.length) := by rw [pkt_eq, bel2']; rfl
theorem pkt_id (h : Hd) (pl : List Int) : ((pkt h pl).drop 4).take 2 = bel 2 h.id := by rw [pkt_eq, bel2']; rfl
theorem pkt_fw (h : Hd) (pl : List Int) : ((pkt h pl).drop 6).take 2 = bel 2 (fwH h) := by rw [pkt_eq, bel2']; rfl
theorem pkt_tp (h : Hd) (pl : List Int) : ((pkt h pl).drop 8).take 2 = [h.ttl, h.proto] := by rw [pkt_eq]; rfl
theorem pkt_ck (h : Hd) (pl : List Int) : ((pkt h pl).drop 10).take 2 = bel 2 (ckH h pl.length) := by rw [pkt_eq, bel2']; rfl
theorem pkt_src (h : Hd) (pl : List Int) : ((pkt h pl).drop 12).take 4 = bel 4 h.src := by rw [pkt_eq, bel4']; rfl
theorem pkt_dst (h : Hd) (pl : List Int) : ((pkt h pl).drop 16).take 4 = bel 4 h.dst := by rw [pkt_eq, bel4']; rfl
theorem pkt_os (h : Hd) (pl : List Int) : ((pkt h pl).drop 20).take h.os.length = h.os := by
 rw [pkt_eq]
 show (h.os ++ pl).take h.os.length = h.os
 simp
theorem pkt_pl (h : Hd) (pl : List Int) : (pkt h pl).drop (20 + h.os.length) = pl := by
 unfold pkt; rw [List.drop_append, hdr_length, List.drop_eq_nil_of_le (by rw [hdr_length]; exact Nat.le_refl _), Nat.sub_self]; rfl
theorem pkt_hdr (h : Hd) (pl : List Int) : (pkt h pl).take (20 + h.os.length) = hdr h pl.length := by
 unfold pkt; rw [List.take_append_of_le_length (by rw [hdr_length]; exact Nat.le_refl _), List.take_of_length_le (by rw [hdr_length]; exact Nat.le_refl _)]
theorem nrm_fixT {S : Int} (h : 0 ≤ S) : nrm (S + (65535 - nrm S)) = 65535 := by
 unfold nrm; split <;> split <;> omega
theorem bsum_hd0 {h : Hd} (r : Raw h) (n : Nat) : bsum (hd0 h n) = bsum (topH h n) + bsum (endH h) := by
 unfold hd0
 rw [bsum_append _ _ (by rw [topH_length]), bsum_append _ _ (by simp)]
 simp [bsum]
theorem bsum_two {c : Int} (h : 0 ≤ c ∧ c < 65536) : bsum (bel 2 c) = c := by rw [bel2']; simp [bsum]; omega
theorem bsum_hdr {h : Hd} (r : Raw h) (n : Nat) : bsum (hdr h n) = bsum (topH h n) + bsum (endH h) + ckH h n := by
 unfold hdr
 rw [bsum_append _ _ (by rw [topH_length]), bsum_append _ _ (by rw [bel_length]), bsum_two (ckH_bd h n)]
 omega
theorem hdr_good {h : Hd} (r : Raw h) (n : Nat) : nrm (bsum (hdr h n)) = 65535 := by
 have e := bsum_hdr r n
 have e2 := bsum_hd0 r n
 have h0 := bsum_nonneg (hd0_bytes r n)
 rw [e, ← e2]
 unfold ckH
 exact nrm_fixT h0
/-- A TTL that is one less. -/
def Hd.less (h : Hd) : Hd := { h with ttl := h.ttl - 1 }
theorem Raw.less {h : Hd} (r : Raw h) (h1 : 1 ≤ h.ttl) : Raw h.less := ⟨r.tos, r.id, r.off, by have := r.ttl; unfold U8 at *; show 0 ≤ h.ttl - 1 ∧ h.ttl - 1 < 256; omega, r.proto, r.src, r.dst, r.by_, r.len, r.four, r.good⟩
def top8 (h : Hd) (n : Nat) : List Int := [64 + (20 + (h.os.length : Int)) / 4, h.tos] ++ bel 2 (20 + h.os.length + n) ++ bel 2 h.id ++ bel 2 (fwH h)
theorem bsum_top (h : Hd) (n : Nat) : bsum (topH h n) = bsum (top8 h n) + (256 * h.ttl + h.proto) := by
 have e : topH h n = top8 h n ++ [h.ttl, h.proto] := rfl
 rw [e, bsum_append _ _ (by simp [top8, bel_length])]
 simp [bsum]
theorem less_ck {h : Hd} (r : Raw h) (n : Nat) (h1 : 1 ≤ h.ttl) : 65535 - addc (addc (65535 - ckH h n) (65535 - (256 * h.ttl + h.proto))) (256 * h.ttl + h.proto - 256) = ckH h.less n := by
 have e1 := bsum_hd0 r n
 have e2 := bsum_hd0 (r.less h1) n
 have h2 : bsum (topH h.less n) = bsum (top8 h n) + (256 * (h.ttl - 1) + h.proto) := bsum_top h.less n
 have h3 : endH h.less = endH h := rfl
 rw [bsum_top] at e1
 rw [h2, h3] at e2
 have hb1 : 0 ≤ bsum (top8 h n) := bsum_nonneg (by
  have ht := topH_bytes r n
  have e : topH h n = top8 h n ++ [h.ttl, h.proto] := rfl
  rw [e] at ht
  exact fun x hx => ht x (List.mem_append_left _ hx))
 have hb2 : 0 ≤ bsum (endH h) := bsum_nonneg (endH_bytes r)
 have ht := r.ttl; have hp := r.proto
 unfold U8 at ht hp
 have hpos : 0 < bsum (top8 h n) := by
  have e : bsum (top8 h n) = 256 * (64 + (20 + (h.os.length : Int)) / 4) + h.tos + bsum (bel 2 (20 + h.os.length + n) ++ bel 2 h.id ++ bel 2 (fwH h)) := by
   unfold top8
   rw [List.append_assoc, List.append_assoc, bsum_append _ _ (by simp)]
   simp [bsum]
  have h0 : 0 ≤ bsum (bel 2 (20 + h.os.length + n) ++ bel 2 h.id ++ bel 2 (fwH h)) := bsum_nonneg (((bel_bytes _ _).append (bel_bytes _ _)).append (bel_bytes _ _))
  have := r.tos
  unfold U8 at this
  omega
 unfold ckH
 rw [show 65535 - (65535 - nrm (bsum (hd0 h n))) = nrm (bsum (hd0 h n)) by omega, e1, e2, addc_nrm' (by omega) (by omega) (by omega), addc_nrm' (by omega) (by omega) (by omega)]
 congr 1
 unfold nrm
 split <;> split <;> omega
end
end Go.Proofs.YtgckhdepnmiejaaGreat
