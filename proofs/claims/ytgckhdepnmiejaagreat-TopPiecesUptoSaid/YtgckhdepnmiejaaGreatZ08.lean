/- append(out, make([]byte, k)...) of a slice that the call owns (and what stands on it). -/
import Derived.Lib.AppendZerosOnto
import Derived.Test.YtgckhdepnmiejaaGreatZ04
import Derived.Test.YtgckhdepnmiejaaGreatZ05
import Derived.Test.YtgckhdepnmiejaaGreatZ07
set_option linter.unusedVariables false
set_option linter.unusedSimpArgs false
namespace Go.Proofs.YtgckhdepnmiejaaGreat
section
set_option maxRecDepth 100000
open Go.RowKit
theorem zeros_list (z : Value) (n : Nat) : (Builtin.zeroCells #[z] n).toList = List.replicate n z := by
 unfold Builtin.zeroCells
 simp only [List.size_toArray, List.length_cons, List.length_nil, Nat.zero_add, Nat.mul_one, Array.toList_map, Array.toList_range]
 apply List.ext_getElem
 ·simp
 ·intro i h1 h2
  simp [Nat.mod_one]
theorem run_append_zeros {P : Program} {w : World} (base : Nat) (t tn ty e : TypeId) (i : TypeInfo) (k0 kn kq : IntKind) (ht : P.underlying t = some (.slice e)) (htn : P.underlying tn = some (.int kn)) (hi : P.info? e = some i) (hz : i.zero = some (.int k0 0))
  (hsize : i.size = 1) (hby : i.bytes = 1) (v : Value) (n : Nat) (xs : List Value) (hown : w.ownsRow base e 1 v n xs) (k : Nat) (hl : n + k ≤ 100000) (hbase : base ≤ w.heap.size) :
  ∃ v' w', (Builtin.append_ #[t, tn] ty #[v, .int kq k]).run P w = .ok v' w' ∧ w'.ownsRow base e 1 v' (n + k) (xs ++ List.replicate k (.int k0 0)) ∧ w.grownBy w' v.ownBlock := by
 have hw : IntKind.i64.wrap (k : Int) = k := by rw [IntKind.wrap_i64]; omega
 have hneg : ¬ ((k : Int) < 0) := by omega
 have h48i : ¬ (281474976710656 < (k : Int)) := by omega
 have hlen : (xs ++ List.replicate k (Value.int k0 0)).length = (n + k) * 1 := by rw [List.length_append, hown.1, List.length_replicate]; omega
 have hzc : (Value.int k0 0).cells = #[.int k0 0] := rfl
 rcases hown.2 with ⟨rfl, rfl⟩ | ⟨g, cap, cur, rfl, hbg, hg, hnc, hcm, hcs, htake⟩
 ·have hx : xs = [] := List.eq_nil_of_length_eq_zero (by simpa using hown.1)
  subst hx
  by_cases hk : k = 0
  ·subst hk
   refine ⟨.slice none 0 0, w, ?_, by simpa using hown, ⟨rfl, rfl, rfl, Nat.le_refl _, fun _ _ _ => rfl⟩⟩
   have hw0 : IntKind.i64.wrap 0 = 0 := rfl
   simp [Builtin.append_, run_underlying ht, run_underlying htn, sizeOf, typeInfo, hi, asInt, asIntOf, hw0]
  ·have hr := Lib.run_append_nil_zeros (P := P) w t tn ty e i (.int k0 0) kq kn ht htn hi hz k (by omega) (by omega) (by omega) (by rw [hby]; omega)
   have hge := grownCap_ge w k 0 e
   refine ⟨_, _, hr, ⟨hlen, .inr ⟨w.heap.size, _, _, by rw [Nat.zero_add], hbase, heap_alloc_new w.drew _, by omega, grownCap_le_maxLen w k 0 e (by unfold maxLen; omega), ?_, ?_⟩⟩, ⟨rfl, rfl, rfl, by simp, fun j hj _ => heap_alloc_old w.drew _ hj⟩⟩
   ·simp only [Array.size_append, size_zeroCells, hzc, List.size_toArray, List.length_cons, List.length_nil]
    omega
   ·rw [Array.toList_append, hzc, zeros_list]
    simp
 ·by_cases hroom : n + k ≤ cap
  ·have hfit : n + 0 + (List.replicate k (Value.int k0 0)).length ≤ cur.size := by rw [List.length_replicate, hcs]; omega
   have hst := run_storeCells_at P g n e (List.replicate k (Value.int k0 0)) 0 cur w hg hfit (fun u hu => by rw [List.eq_of_mem_replicate hu]; rfl)
   simp only [Nat.add_zero] at hst
   by_cases hk : k = 0
   ·subst hk
    refine ⟨.slice (some ⟨g, 0, none⟩) n cap, w, ?_, by simpa using hown, ⟨rfl, rfl, rfl, Nat.le_refl _, fun _ _ _ => rfl⟩⟩
    have hw0 : IntKind.i64.wrap 0 = 0 := rfl
    simp [Builtin.append_, run_underlying ht, run_underlying htn, sizeOf, typeInfo, hi, asInt, asIntOf, hw0, hnc, storeCells]
   ·refine ⟨.slice (some ⟨g, 0, none⟩) (n + k) cap, w.setRow g (cur.toList.take n ++ List.replicate k (Value.int k0 0) ++ cur.toList.drop (n + (List.replicate k (Value.int k0 0)).length)).toArray, ?_, ⟨hlen, .inr ⟨g, cap, _, rfl, hbg, setRow_heap w g cur _ e _ hg, hroom, hcm, ?_, ?_⟩⟩, ⟨rfl, rfl, rfl, by simp, fun j _ hj => setRow_other w g j _ (fun e => hj (by simp [Value.ownBlock, e]))⟩⟩
    ·have hzl : (Builtin.zeroCells #[Value.int k0 0] k).toList = List.replicate k (Value.int k0 0) := zeros_list _ _
     simp only [Builtin.append_, run_underlying ht, run_underlying htn, sizeOf, typeInfo, zeroValue, hi, hz, asInt, asIntOf, hw, hneg, hsize, hby, hroom, hk, Addr.add_lit, hzc, hzl, hst, h48i]
     simp [run_underlying ht, run_underlying htn, hi, hz, hw, hneg, hsize, hby, hroom, hk, Addr.add_lit, hzc, hzl, hst, h48i]
    ·simp only [List.size_toArray, List.length_append, List.length_take, List.length_drop, Array.length_toList, List.length_replicate]
     omega
    ·rw [Nat.mul_one] at htake ⊢
     rw [htake]
     have : n + k = (xs ++ List.replicate k (Value.int k0 0)).length := by rw [hlen]; omega
     rw [this]
     exact List.take_left
  ·have holds : ∀ j u, xs[j]? = some u → w.drew.cell? ((⟨g, 0, none⟩ : Addr).add j) = some u := hown.cells (g := g) rfl
   have hf := run_firstCells_some (P := P) (w := w.drew) i.size n ⟨g, 0, none⟩ n cap xs (by rw [hown.1, hsize]) holds
   have hr := Lib.run_append_grow_zeros (P := P) w t tn ty e i (.int k0 0) kq kn ht htn hi hz (some ⟨g, 0, none⟩) n cap xs hf k (by omega) (by omega) (by omega) (by omega) (by rw [hby]; omega) (by have := nextslicecap_le (need := n + k) (old := cap) (by omega); rw [hby]; omega)
   have hge := grownCap_ge w (n + k) cap e
   refine ⟨_, _, hr, ⟨hlen, .inr ⟨w.heap.size, _, _, rfl, hbase, heap_alloc_new w.drew _, hge, grownCap_le_maxLen w (n + k) cap e (by unfold maxLen; omega), ?_, ?_⟩⟩, ⟨rfl, rfl, rfl, by simp, fun j hj _ => heap_alloc_old w.drew _ hj⟩⟩
   ·simp only [Array.size_append, size_zeroCells, hzc, List.size_toArray, List.length_cons, List.length_nil, hown.1]
    omega
   ·simp only [Array.toList_append, hzc, zeros_list, List.append_assoc]
    rw [← List.append_assoc, ← hlen]
    exact List.take_left
end
end Go.Proofs.YtgckhdepnmiejaaGreat
namespace Go.Proofs.YtgckhdepnmiejaaGreat
section
set_option maxRecDepth 100000
open Go.RowKit Go.Shelf
attribute [local go_sem] Oper.semAt_some
theorem wpListIn_append_zeros {F : Fence} {m : Nat} {P : Program} (w : World) {ops : Array Oper} {rest : List Oper} {o : Oper} {a : Act} {Q : Exit → Act → World → Prop}
  (hg : o.guard = none) (s x : Operand) (t tn : TypeId) (hop : o.op = Op.call { callee := Callee.builtin Builtin.append, args := #[s, x], argTypes := #[t, tn] })
  (base : Nat) (e : TypeId) (i : TypeInfo) (k0 kn kq : IntKind) (ht : P.underlying t = some (.slice e)) (htn : P.underlying tn = some (.int kn)) (hi : P.info? e = some i) (hz : i.zero = some (.int k0 0)) (hsize : i.size = 1) (hby : i.bytes = 1)
  (v : Value) (n : Nat) (xs : List Value) (hs : a.eval s = v) (hown : w.ownsRow base e 1 v n xs) (k : Nat) (hx : a.eval x = .int kq k) (hl : n + k ≤ 100000) (hbase : base ≤ w.heap.size)
  (hK : ∀ v' w', w'.ownsRow base e 1 v' (n + k) (xs ++ List.replicate k (.int k0 0)) → w.grownBy w' v.ownBlock → wpListIn F m P ops Q rest (a.put o.dst v') w') :
  wpListIn F m P ops Q (o :: rest) a w := by
 refine wpListIn_plain hg fun K hK' => ?_
 obtain ⟨v', w', hrun, r1, r2⟩ := run_append_zeros (P := P) base t tn o.type e i k0 kn kq ht htn hi hz hsize hby v n xs hown k hl hbase
 unfold Oper.wpIn
 refine ⟨?_, ?_⟩
 ·simp [Oper.about, hop, resolve, Target.leads, Sem.run_pure]
 ·rw [Oper.semAt_plain F _ _ (by rw [hop]; intro c hc'; cases hc')]
  simp [execOp, hop, resolve, invoke, builtin, hs, hx, hrun, Result.andThen]
  exact hK' _ _ (hK v' w' r1 r2)
theorem wpListIn_append_ints {F : Fence} {m : Nat} {P : Program} (w : World) {ops : Array Oper} {rest : List Oper} {o : Oper} {a : Act} {Q : Exit → Act → World → Prop} {k : IntKind}
  (hg : o.guard = none) (s x : Operand) (t : TypeId) (hop : o.op = Op.call { callee := Callee.builtin Builtin.append, args := #[s, x], argTypes := #[t, t] })
  (base : Nat) (e : TypeId) (i : TypeInfo) (bytes : Nat) (ht : P.underlying t = some (.slice e)) (hi : P.info? e = some i) (hz : i.zero = some (.int k 0)) (hsize : i.size = 1) (hby : i.bytes = bytes)
  (v : Value) (n : Nat) (xs : List Value) (hs : a.eval s = v) (hown : w.ownsRow base e 1 v n xs) (X : Value) (zs : List Int) (hx : a.eval x = X) (hX : IntsV k w X zs)
  (h63 : n + zs.length ≤ maxLen) (hbytes : (n + zs.length) * bytes ≤ 140737488355328) (hbase : base ≤ w.heap.size)
  (hK : ∀ v' w', w'.ownsRow base e 1 v' (n + zs.length) (xs ++ zs.map (Value.int k)) → w.grownBy w' v.ownBlock → wpListIn F m P ops Q rest (a.put o.dst v') w') :
  wpListIn F m P ops Q (o :: rest) a w := by
 refine wpListIn_plain hg fun K hK' => ?_
 obtain ⟨v', w', hrun, r1, r2⟩ := run_append_ints (P := P) base t o.type e i bytes ht hi hz hsize hby v n xs hown X zs hX h63 hbytes hbase
 unfold Oper.wpIn
 refine ⟨?_, ?_⟩
 ·simp [Oper.about, hop, resolve, Target.leads, Sem.run_pure]
 ·rw [Oper.semAt_plain F _ _ (by rw [hop]; intro c hc'; cases hc')]
  simp [execOp, hop, resolve, invoke, builtin, hs, hx, hrun, Result.andThen]
  exact hK' _ _ (hK v' w' r1 r2)
/-- A slice of these bytes that a box holds. -/
def BytesIn (W : World) (n₀ B : Nat) (zs : List Int) : Prop := ∃ v, Boxed W B 25 v ∧ W.ownsRow n₀ 5 1 v zs.length (zs.map (Value.int .u8))
theorem bytesIn_own {β : Type} (n₀ B : Nat) (k : β → List Int) : Own (fun s W => BytesIn W n₀ B (k s)) := by
 rintro s X Y row ⟨v, hv, hr⟩ hg hrow
 obtain ⟨v', hv', hr', rfl⟩ := holdsRow_own n₀ B 25 5 1 (fun s => (k s).length) (fun s => (k s).map (Value.int .u8)) (fun _ u => u = v) s X Y row ⟨v, hv, hr, rfl⟩ hg hrow
 exact ⟨_, hv', hr'⟩
theorem copAt_many (os : List Int) : ∀ l : List Nat, (copAt os l).length ≤ l.length * os.length := by
 intro l
 induction l with
 | nil => exact Nat.zero_le _
 | cons p r ih =>
  have hc : (chunk os p).length ≤ os.length := by unfold chunk; rw [List.length_take, List.length_drop]; omega
  have e : (copAt os (p :: r)).length ≤ (chunk os p).length + (copAt os r).length := by
   unfold copAt
   rw [List.filter_cons]
   split
   ·rw [List.map_cons, List.flatten_cons, List.length_append]; exact Nat.le_refl _
   ·omega
  rw [List.length_cons, Nat.add_mul]
  omega
set_option maxHeartbeats 4000000 in
theorem copied_any (v : Value) (os : List Int) (w : World) (hv : BytesV w v os) (h0 : 0 < w.heap.size) (hlen : os.length ≤ 40) (hgood : goodO os = true) :
  Calls Tryz.prog 130 #[v] w fun e w' => ∃ u, e = .returned u ∧ NewBytes w (copO os) u w' := by
 obtain ⟨ao, b, off, cap, hs⟩ := slB_of hv h0
 have hby := hv.1
 have HOpt := Lib.hid (options_any v os w hv h0 (by omega))
 have hval := hs.val
 subst hval
 clear hv
 obtain ⟨i0, hi, hz0, hz1, hz2⟩ := info_parts infoByte
 refine (callsIn_wide (n := 5)).1 ?_
 refine callsIn_of_wp_marks Tryz.func130 rfl trivial ?_ rfl
 simp only [Tryz.ntmps130, List.size_toArray, List.length_cons, List.length_nil, Nat.reduceAdd, Nat.reduceSub, Array.replicate_succ, Array.replicate_zero, List.push_toArray, List.append_toArray, List.nil_append, List.cons_append]
 have HS := Lib.hid hs
 have HBy := Lib.hid hby
 have HLn := Lib.hid hlen
 have HGo := Lib.hid hgood
 clear hs hby hlen hgood
 have hro : Fence.wide.round = none := rfl
 gi_wp2_with fail
 refine ⟨trivial, ((callsIn_wide (n := 4)).2 HOpt.out).mono ?_⟩
 rintro e w1 (⟨_, u, rfl, _, hg⟩ | ⟨hb, _⟩)
 case inr => rw [HGo.out] at hb; cases hb
 have HG1 : Hid (Grow w w1) := hg
 have hs1 : w.heap.size ≤ w1.heap.size := hg.size
 have HS1 := Lib.hid hs1
 clear hg hs1 HOpt
 gi_wp2_with fail
 refine ⟨trivial, (steps_in _ _ _ _ _).mono ?_⟩
 rintro e w' ⟨rfl, rfl⟩
 gi_wp2_with fail
 have bO := Boxed.new w1 25 (.slice none 0 0)
 have bS := Boxed.new (w1.alloc (.cells #[.slice none 0 0] 25)) 25 (.slice ao os.length cap)
 rw [World.size_alloc] at bS
 have hB0 : Below w1.heap.size w1 ((w1.alloc (.cells #[.slice none 0 0] 25)).alloc (.cells #[.slice ao os.length cap] 25)) := ((Below.refl _ w1).alloc (Nat.le_refl _) _).alloc (by simp) _
 have hSL : SlB ((w1.alloc (.cells #[.slice none 0 0] 25)).alloc (.cells #[.slice ao os.length cap] 25)) w1.heap.size (.slice ao os.length cap) os ao b off cap :=
  ⟨HS.out.val, HS.out.le, HS.out.cap, HS.out.at0, Nat.lt_of_lt_of_le HS.out.blk HS1.out, fun j hj => (hB0.cell (p := ⟨b, off + j, none⟩) (Nat.lt_of_lt_of_le HS.out.blk HS1.out)).trans ((HG1.out.cell (block_lt (HS.out.cell j hj))).trans (HS.out.cell j hj))⟩
 refine wpIn_rangeFunc_ownG hro (by omega) (gf := 53) (lb := #[.pointer (some ⟨w1.heap.size + 1, 0, none⟩)]) rfl trivial (enters_of Tryz.func53 (by kernel_rfl) rfl)
  (steps_stops 4 (w1.heap.size + 1) w1.heap.size _ hSL HBy.out (by simp) (by simp; omega) bS.cell) belowK_t (belowK_b (by simp; omega)) (Below.refl _ _) (fun _ => rfl)
  (fun pre W => BytesIn W w1.heap.size w1.heap.size (copAt os (begs pre)) ∧ Below w1.heap.size w1 W)
  (fun c pre W => False ∧ Below w1.heap.size w1 W)
  (OwnFrom.and (Own.from (bytesIn_own _ _ _) _) (ownFrom_below (Nat.le_refl _) (by simp; omega)))
  (fun c => OwnFrom.and (ownFrom_pure _ _) (ownFrom_below (Nat.le_refl _) (by simp; omega)))
  ⟨⟨_, bO.alloc _, World.ownsRow_nil _ _ _ _⟩, hB0⟩
  (fun x => { tmps := #[.slice ao os.length cap, undef, .slice none 0 0, u, .bool true, .pointer (some ⟨w1.heap.size, 0, none⟩), .int .u8 (os.getD x.1 0), .slice (some ⟨b, off + x.1, none⟩) (stepN os x.1) (stepN os x.1), .tuple #[u, .bool true], .slice ao os.length cap, .tuple #[u, .bool true], u, .bool true, .bool true, .bool false, .slice ao os.length cap, .func (.func 53) #[] #[.pointer (some ⟨w1.heap.size + 1, 0, none⟩)], .int .u8 (os.getD x.1 0), .slice (some ⟨b, off + x.1, none⟩) (stepN os x.1) (stepN os x.1), undef, undef, undef, undef, undef, undef, undef, undef, undef, undef, undef, undef], defers := [] }) ?assign ?body ?done ?stop
 case assign =>
  intro l x W K hK
  simp only [encO]
  gi_wp2
  exact hK
 case stop =>
  rintro D c pre W hD hpre ⟨hf, _⟩ hK
  exact absurd hf (fun h => h)
 case body =>
  rintro l pre x W ⟨⟨v, hv, hown⟩, hB⟩ hlt
  have hp := x.2
  obtain ⟨p, hpx⟩ : ∃ p, x.1 = p := ⟨_, rfl⟩
  rw [hpx] at hp
  have HPX := Lib.hid hpx
  obtain ⟨N, hN⟩ : ∃ N, stepN os p = N := ⟨_, rfl⟩
  obtain ⟨kk, hkk⟩ : ∃ k, os.getD p 0 = k := ⟨_, rfl⟩
  rw [hpx, hN, hkk]
  clear hpx
  by_cases hk : 128 ≤ kk
  ·have HH : Hid (copAt os (begs (pre ++ [x])) = copAt os (begs pre) ++ chunk os p) := by show _ = _; rw [begs_snoc, HPX.out]; exact copAt_hit (by rw [hkk]; exact hk)
   have hk2 : ¬ (kk < 128) := by omega
   have hcl := chunk_length hp.1
   have hle := stepN_le hp.1
   rw [hN] at hcl hle
   have HCL := Lib.hid hcl
   have HI : Hid (IntsV .u8 W (.slice (some ⟨b, off + p, none⟩) N N) (chunk os p)) := by
    refine Or.inr ⟨b, off + p, N, by rw [hcl], by omega, by have := HS.out.le; have := HS.out.cap; omega, fun i hi => ?_⟩
    rw [hcl] at hi
    have hc := HS.out.cell (p + i) (by omega)
    have hc1 := (HG1.out.cell (block_lt hc)).trans hc
    have hc2 := (hB.cell (p := ⟨b, off + (p + i), none⟩) (Nat.lt_of_lt_of_le HS.out.blk HS1.out)).trans hc1
    have e : (chunk os p).getD i 0 = os.getD (p + i) 0 := by
     unfold chunk
     simp only [List.getD_eq_getElem?_getD]
     rw [List.getElem?_take_of_lt (by omega), List.getElem?_drop]
    rw [e, Nat.add_assoc]
    exact hc2
   have hcv := hv.cell
   have HV := Lib.hid hv
   have HOWN := Lib.hid hown
   have HBd := Lib.hid hB
   have HLs : Hid ((copAt os (begs pre)).length + N ≤ 100000) := by
    show _ ≤ _
    have h1 := copAt_many os (begs pre)
    have h2 : (begs pre).length = pre.length := by unfold begs; rw [List.length_map]
    have h3 := HLn.out
    have h4 : (begs pre).length * os.length ≤ 41 * 40 := Nat.mul_le_mul (by omega) h3
    omega
   clear hN hkk hk hown hv hB hcl hle
   gi_wp2_with (first | (refine wpListIn_append_ints (k := .u8) _ rfl _ _ 25 rfl w1.heap.size 5 i0 1 Tryz.underlying25 hi hz0 hz1 hz2 v _ _ rfl HOWN.out _ (chunk os p) rfl HI.out ?c3 ?c4 ?c5 ?_))
   case c3 => have := HLs.out; have := HCL.out; unfold maxLen; omega
   case c4 => have := HLs.out; have := HCL.out; omega
   case c5 => exact HBd.out.size
   intro v' w3 hown' hgrow
   rw [← List.map_append, ← List.length_append, ← HH.out] at hown'
   obtain ⟨ao', cp', rfl, _, _⟩ := (ints_of_owns hown').shape
   obtain ⟨hv1, hv2, hr2, hk2, hb2⟩ := boxed_append (Grow.refl W) HV.out (by decide) HOWN.out HBd.out.size (Nat.le_refl _) hown' hgrow
   have hc1 := hv1.cell
   have hf1 := hv1.frozen
   have HFIN := Lib.hid (And.intro hv2 (And.intro hr2 (And.intro hk2 hb2)))
   clear hv1 hv2 hr2 hk2 hb2 hown' hgrow hcv
   gi_wp2
   exact ⟨HFIN.out.2.2.1.from _, HFIN.out.2.2.2, ⟨_, HFIN.out.1, HFIN.out.2.1⟩, HBd.out.trans HFIN.out.2.2.2⟩
  ·have HM : Hid (copAt os (begs (pre ++ [x])) = copAt os (begs pre)) := by show _ = _; rw [begs_snoc, HPX.out]; exact copAt_miss (by rw [hkk]; exact hk)
   have hk2 : kk < 128 := by omega
   clear hN hkk hk
   gi_wp2
   exact ⟨KeepsFrom.refl _ _, Below.refl _ _, ⟨v, hv, by rw [HM.out]; exact hown⟩, hB⟩
 case done =>
  rintro D ys W hD hys ⟨⟨v, hv, hown⟩, hB⟩ hK
  rw [hys] at hown
  have hcv := hv.cell
  have HC : Hid (copO os = copAt os (steps os) ++ List.replicate (padN (copAt os (steps os)).length) 0) := rfl
  have HCB := Lib.hid (copO_bytes HBy.out)
  have HLs : Hid ((copAt os (steps os)).length ≤ 40) := by
   have h1 : (copAt os (steps os)).length ≤ os.length := copAt_len os (os.length - 0) 0
   have h2 := HLn.out
   show _ ≤ _
   omega
  generalize copAt os (steps os) = CA at *
  obtain ⟨ao', cp', rfl, hlc, hcm⟩ := (ints_of_owns hown).shape
  obtain ⟨n, hn⟩ : ∃ n, CA.length = n := ⟨_, rfl⟩
  have HN := Lib.hid hn
  rw [hn] at hcv hown HC HLs hlc
  obtain ⟨K, hKn⟩ : ∃ K, padN n = K := ⟨_, rfl⟩
  have HKn := Lib.hid hKn
  rw [hKn] at HC
  have hK4 : K ≤ 3 := by rw [← hKn]; unfold padN; omega
  obtain ⟨r, hr⟩ : ∃ r : Nat, n % 4 = r := ⟨_, rfl⟩
  have e1 : (n : Int) % 4 = (r : Int) := by omega
  have e2 : (n : Int).tmod 4 = (r : Int) := by rw [Int.tmod_eq_emod_of_nonneg (by omega)]; exact e1
  have e3 : IntKind.i64.wrap (4 - (r : Int)) = 4 - (r : Int) := IntWalk.i64_in _ (by omega)
  have e4 : (4 - (r : Int)) % 4 = (K : Int) := by unfold padN at hKn; omega
  have e5 : (4 - (r : Int)).tmod 4 = (K : Int) := by rw [Int.tmod_eq_emod_of_nonneg (by omega)]; exact e4
  have HOWN := Lib.hid hown
  have HBd := Lib.hid hB
  have HK := Lib.hid hK
  have hDs : w1.heap.size ≤ D := by simp at hD; omega
  have HD := Lib.hid hDs
  clear hown hB hK hys hKn hn hr hD hDs
  gi_wp2_with (first | (refine wpListIn_append_zeros _ rfl _ _ 25 3 rfl w1.heap.size 5 i0 .u8 .i64 .i64 Tryz.underlying25 Tryz.underlying3 hi hz0 hz1 hz2 _ n _ rfl HOWN.out K rfl ?c6 ?c7 ?_))
  case c6 => have := HLs.out; omega
  case c7 => exact HBd.out.size
  intro v' w3 hown' hgrow
  have HRes : Hid (NewBytes w (copO os) v' (w3.putObj D (.deferred none)) ∧ w3.heap[D]? = some (.deferred (some []))) := by
   have hK3 : w3.heap[D]? = some (.deferred (some [])) := by
    refine (hgrow.block D (lt_of_block HK.out) (fun e => ?_)).trans HK.out
    rcases HOWN.out.2 with ⟨h, _⟩ | ⟨g, c, cur, h, _, hg, _⟩
    ·rw [h] at e; simp [Value.ownBlock] at e
    ·rw [h] at e
     have e2 : D = g := by simpa [Value.ownBlock] using e
     rw [← e2, HK.out] at hg
     cases hg
   have hG3 : Below w1.heap.size w1 w3 := HBd.out.grown hgrow HBd.out.size (fun k hk => (HOWN.out.lt k hk).1)
   have hG4 := hG3.trans (belowK_b (w := w1) (Nat.le_refl _) w3 D (.deferred (some [])) (.deferred none) HD.out hK3 rfl rfl)
   refine ⟨⟨?_, HG1.out.trans hG4⟩, hK3⟩
   refine own_less (ownsRow_putObj ?_ _ hK3 rfl) HS1.out
   rw [HC.out, List.length_append, List.length_replicate, HN.out, List.map_append, List.map_replicate]
   exact hown'
  clear hown' hgrow
  gi_wp2
  refine ⟨by simp, .inl ⟨_, _, rfl, run_takeDeferred HRes.out.2, ?_⟩⟩
  exact ⟨v', by simp [results, Tryz.f130, go_sem], v', rfl, HRes.out.1⟩
end
end Go.Proofs.YtgckhdepnmiejaaGreat
namespace Go.Proofs.YtgckhdepnmiejaaGreat
section
set_option maxRecDepth 100000
open Go.RowKit
/-- The piece at 'at': its options, how much of the payload it takes, its header (but for where its options lie). -/
def pieceO (os : List Int) (k : Nat) : List Int := if k = 0 then os else copO os
def pieceR (M : Nat) (os : List Int) (k : Nat) : Nat := M - (20 + (pieceO os k).length)
def pieceN (M L : Nat) (os : List Int) (k : Nat) : Nat := if pieceR M os k < L - k then pieceR M os k / 8 * 8 else L - k
def pieceH (h : Hd) (M L : Nat) (k : Nat) (v : Value) : Hd := { h with off := h.off + (k / 8 : Nat), mf := h.mf || decide (pieceR M h.os k < L - k), v := v, os := pieceO h.os k }
/-- What the closure leans on: a header, a payload, an MTU, each in a block. -/
structure PieceAt (w : World) (BH BP BM : Nat) (h : Hd) (ao : Option Addr) (cap : Nat) (po : Option Addr) (pc : Nat) (pl : List Int) (M : Nat) : Prop where
 hv : h.v = .slice ao h.os.length cap
 hd : w.heap[BH]? = some (.cells h.cells 27 (0, 0))
 pd : w.heap[BP]? = some (.cells #[.slice po pl.length pc] 25 (0, 0))
 md : w.heap[BM]? = some (.cells #[.int .i64 M] 3 (0, 0))
 ok : HdOk w h
 pay : BytesV w (.slice po pl.length pc) pl
 raw : Raw h
 m : 68 ≤ M ∧ M ≤ 65535
 l : pl.length ≤ 10000
theorem PieceAt.mono {w w' : World} {BH BP BM : Nat} {h : Hd} {ao : Option Addr} {cap : Nat} {po : Option Addr} {pc : Nat} {pl : List Int} {M : Nat} (p : PieceAt w BH BP BM h ao cap po pc pl M) (hg : Grow w w') : PieceAt w' BH BP BM h ao cap po pc pl M :=
 ⟨p.hv, (hg.block _ (lt_of_block p.hd)).trans p.hd, (hg.block _ (lt_of_block p.pd)).trans p.pd, (hg.block _ (lt_of_block p.md)).trans p.md, p.ok.mono hg, p.pay.mono hg, p.raw, p.m, p.l⟩
theorem pieceO_raw {h : Hd} (r : Raw h) (k : Nat) : goodO (pieceO h.os k) = true ∧ (pieceO h.os k).length ≤ 40 ∧ (pieceO h.os k).length % 4 = 0 ∧ Bytes (pieceO h.os k) := by
 unfold pieceO
 split
 ·exact ⟨r.good, r.len, r.four, r.by_⟩
 ·have := copO_len r.four
  exact ⟨copO_good r.good, by have := r.len; omega, this.2, copO_bytes r.by_⟩
theorem pieceR_ge {h : Hd} (r : Raw h) {M : Nat} (hM : 68 ≤ M) (k : Nat) : 8 ≤ pieceR M h.os k := by
 have := (pieceO_raw r k).2.1
 unfold pieceR
 omega
theorem pieceN_pos {h : Hd} (r : Raw h) {M L : Nat} (hM : 68 ≤ M) {k : Nat} (hk : k < L) : 0 < pieceN M L h.os k ∧ k + pieceN M L h.os k ≤ L ∧ (k + pieceN M L h.os k < L → pieceN M L h.os k % 8 = 0) := by
 have := pieceR_ge r hM k
 unfold pieceN
 split
 ·omega
 ·omega
theorem pieceN_fits {h : Hd} (r : Raw h) {M L : Nat} (hM : 68 ≤ M) {k : Nat} (hk : k < L) : 20 + (pieceO h.os k).length + pieceN M L h.os k ≤ M := by
 have := (pieceO_raw r k).2.1
 unfold pieceN pieceR
 split <;> omega
/-- The size of a header that has options alone. -/
theorem size_opts {w : World} {ao : Option Addr} {cap : Nat} {os : List Int} (hv : BytesV w (.slice ao os.length cap) os) (hg : goodO os = true) (hl : os.length ≤ 40) (h4 : os.length % 4 = 0) :
  Calls Tryz.prog 28 #[.agg #[.int .u8 0, .int .u16 0, .bool false, .bool false, .bool false, .int .i64 0, .int .u8 0, .int .u8 0, .int .u32 0, .int .u32 0, .slice ao os.length cap]] w fun e w' => e = .returned (.int .i64 (20 + os.length)) ∧ Grow w w' :=
 size_hdr ⟨0, 0, false, false, false, 0, 0, 0, 0, 0, .slice ao os.length cap, os⟩ w ⟨by unfold U8; simp, by unfold U16; simp, by simp, by unfold U8; simp, by unfold U8; simp, by unfold U32; simp, by unfold U32; simp, hv⟩ (decide_eq_true ⟨hg, hl, h4, by simp, by simp⟩)
end
end Go.Proofs.YtgckhdepnmiejaaGreat
namespace Go.Proofs.YtgckhdepnmiejaaGreat
section
set_option maxRecDepth 100000
open Go.RowKit
def Pieced (h : Hd) (M L k : Nat) (w : World) (e : Ending) (w' : World) : Prop :=
 ∃ v, e = .returned (.tuple #[(pieceH h M L k v).val, .int .i64 (pieceN M L h.os k)]) ∧ BytesV w' v (pieceO h.os k) ∧ Grow w w'
set_option maxHeartbeats 8000000 in
theorem piece_0s {w : World} {BH BP BM : Nat} {h : Hd} {ao : Option Addr} {cap : Nat} {po : Option Addr} {pc : Nat} {pl : List Int} {M : Nat} (p : PieceAt w BH BP BM h ao cap po pc pl M) (k : Nat) (hk : k < pl.length) (hk0 : k = 0) (hb : ¬ pieceR M h.os k < pl.length - k) :
  Calls Tryz.prog 129 #[.int .i64 k, .pointer (some ⟨BH, 0, none⟩), .pointer (some ⟨BP, 0, none⟩), .pointer (some ⟨BM, 0, none⟩)] w (Pieced h M pl.length k w) := by
 have hV : ∀ v, (pieceH h M pl.length k v).val = .agg #[.int .u8 h.tos, .int .u16 h.id, .bool h.evil, .bool h.df, .bool h.mf, .int .i64 (h.off + (k / 8 : Nat)), .int .u8 h.ttl, .int .u8 h.proto, .int .u32 h.src, .int .u32 h.dst, v] := fun v => by
  simp only [Hd.val, Hd.cells, hdCells, pieceH]
  simp [hb]
 have hN : pieceN M pl.length h.os k = pl.length - k := by unfold pieceN; rw [if_neg hb]
 have hR : pieceR M h.os k = M - (20 + (pieceO h.os k).length) := rfl
 obtain ⟨q1, q2, q3, q4⟩ := pieceO_raw p.raw k
 have hr8 := pieceR_ge p.raw p.m.1 k
 have HSz : Hid (∀ x a c, BytesV x (.slice a (pieceO h.os k).length c) (pieceO h.os k) → Calls Tryz.prog 28 #[.agg #[.int .u8 0, .int .u16 0, .bool false, .bool false, .bool false, .int .i64 0, .int .u8 0, .int .u8 0, .int .u32 0, .int .u32 0, .slice a (pieceO h.os k).length c]] x fun e w' => e = .returned (.int .i64 (20 + (pieceO h.os k).length)) ∧ Grow x w') := fun x a c hx => size_opts hx q1 q2 q3
 have HO : Hid (∀ x, Grow w x → BytesV x (.slice ao h.os.length cap) h.os) := fun x hx => by
  have := p.ok.body.mono hx
  rwa [p.hv] at this
 have hcells : h.cells = #[.int .u8 h.tos, .int .u16 h.id, .bool h.evil, .bool h.df, .bool h.mf, .int .i64 h.off, .int .u8 h.ttl, .int .u8 h.proto, .int .u32 h.src, .int .u32 h.dst, .slice ao h.os.length cap] := by
  unfold Hd.cells; rw [p.hv]; rfl
 have hhd := p.hd
 rw [hcells] at hhd
 have hofs := p.raw.off
 have hM := p.m
 have hL := p.l
 have HHd := Lib.hid hhd
 have HPd := Lib.hid p.pd
 have HMd := Lib.hid p.md
 have hpd := cell_of_one p.pd
 have hmd := cell_of_one p.md
 obtain ⟨tos, id, evil, df, mf, off, ttl, proto, src, dst, v0, os⟩ := h
 dsimp only at *
 obtain ⟨R, hRR⟩ : ∃ R, pieceR M os k = R := ⟨_, rfl⟩
 obtain ⟨N, hNN⟩ : ∃ N, pieceN M pl.length os k = N := ⟨_, rfl⟩
 obtain ⟨L, hLL⟩ : ∃ L, pl.length = L := ⟨_, rfl⟩
 subst hk0
 have hO : pieceO os 0 = os := rfl
 simp only [hO, Nat.sub_zero, Nat.zero_div, Int.natCast_zero, Int.add_zero] at *
 have hwO : IntKind.i64.wrap off = off := IntWalk.i64_in _ (by omega)
 have hwL : IntKind.i64.wrap (L : Int) = (L : Int) := IntWalk.i64_in _ (by omega)
 clear hcells q1 q2 q3 q4 p
 have hA : (w.alloc (.cells #[.int .u8 0, .int .u16 0, .bool false, .bool false, .bool false, .int .i64 0, .int .u8 0, .int .u8 0, .int .u32 0, .int .u32 0, .slice none 0 0] 27)).heap[BH]? = some (.cells #[.int .u8 tos, .int .u16 id, .bool evil, .bool df, .bool mf, .int .i64 off, .int .u8 ttl, .int .u8 proto, .int .u32 src, .int .u32 dst, .slice ao os.length cap] 27 (0, 0)) := (Below.heap_alloc _ _ _ (lt_of_block hhd)).trans hhd
 have HGA : Hid (Grow w (w.alloc (.cells #[.int .u8 0, .int .u16 0, .bool false, .bool false, .bool false, .int .i64 0, .int .u8 0, .int .u8 0, .int .u32 0, .int .u32 0, .slice none 0 0] 27))) := (Grow.refl w).alloc _
 have HGB : Hid (Grow w ((w.alloc (.cells #[.int .u8 0, .int .u16 0, .bool false, .bool false, .bool false, .int .i64 0, .int .u8 0, .int .u8 0, .int .u32 0, .int .u32 0, .slice none 0 0] 27)).alloc (.cells #[.int .u8 tos, .int .u16 id, .bool evil, .bool df, .bool mf, .int .i64 off, .int .u8 ttl, .int .u8 proto, .int .u32 src, .int .u32 dst, .slice ao os.length cap] 27))) := HGA.out.alloc _
 have pB := (HGB.out.cell (block_lt hpd)).trans hpd
 obtain ⟨⟨c0, c1, c2, c3, c4, c5⟩, c6, c7, c8, c9, c10⟩ := blkH hA
 clear hpd hmd hA hhd
 go_enter Tryz.func129, Tryz.ntmps129
 go_wp2_with fail
 obtain ⟨wB, hwB⟩ : ∃ x, (w.alloc (.cells #[.int .u8 0, .int .u16 0, .bool false, .bool false, .bool false, .int .i64 0, .int .u8 0, .int .u8 0, .int .u32 0, .int .u32 0, .slice none 0 0] 27)).alloc (.cells #[.int .u8 tos, .int .u16 id, .bool evil, .bool df, .bool mf, .int .i64 off, .int .u8 ttl, .int .u8 proto, .int .u32 src, .int .u32 dst, .slice ao os.length cap] 27) = x := ⟨_, rfl⟩
 have hsA : (w.alloc (.cells #[.int .u8 0, .int .u16 0, .bool false, .bool false, .bool false, .int .i64 0, .int .u8 0, .int .u8 0, .int .u32 0, .int .u32 0, .slice none 0 0] 27)).heap.size = w.heap.size + 1 := World.size_alloc _ _
 have hB := heap_alloc_new (w.alloc (.cells #[.int .u8 0, .int .u16 0, .bool false, .bool false, .bool false, .int .i64 0, .int .u8 0, .int .u8 0, .int .u32 0, .int .u32 0, .slice none 0 0] 27)) (.cells #[.int .u8 tos, .int .u16 id, .bool evil, .bool df, .bool mf, .int .i64 off, .int .u8 ttl, .int .u8 proto, .int .u32 src, .int .u32 dst, .slice ao os.length cap] 27)
 have hZ : ((w.alloc (.cells #[.int .u8 0, .int .u16 0, .bool false, .bool false, .bool false, .int .i64 0, .int .u8 0, .int .u8 0, .int .u32 0, .int .u32 0, .slice none 0 0] 27)).alloc (.cells #[.int .u8 tos, .int .u16 id, .bool evil, .bool df, .bool mf, .int .i64 off, .int .u8 ttl, .int .u8 proto, .int .u32 src, .int .u32 dst, .slice ao os.length cap] 27)).heap[w.heap.size]? = some (.cells #[.int .u8 0, .int .u16 0, .bool false, .bool false, .bool false, .int .i64 0, .int .u8 0, .int .u8 0, .int .u32 0, .int .u32 0, .slice none 0 0] 27 (0, 0)) := (Below.heap_alloc _ _ _ (by rw [hsA]; exact Nat.lt_succ_self _)).trans (heap_alloc_new w _)
 rw [hsA] at hB
 rw [hwB] at hB hZ HGB ⊢
 have HB := Lib.hid hB
 have HZ := Lib.hid hZ
 have HLL := Lib.hid hLL
 clear hsA hB hZ hwB pB c0 c1 c2 c3 c4 c5 c6 c7 c8 c9 c10 HGA hLL
 refine wpRg 7 ?_
 simp only [List.take_succ_cons, List.take_zero, List.drop_succ_cons, List.drop_zero]
 refine wpHd (.int .i64 M) (fun w' hg => ?_) ?_
 ·have hx := cell_of_one (((HGB.out.trans hg.below).block _ (lt_of_block HMd.out)).trans HMd.out)
  clear hg
  go_simp
  exact Below.refl _ _
 try go_simp
 repeat (refine wpHp fun K hK => ?_; go_simp; refine hK _ ?_; clear hK K)
 refine wpHd (.slice ao os.length cap) (fun w' hg => ?_) ?_
 ·obtain ⟨⟨y0, y1, y2, y3, y4, y5⟩, y6, y7, y8, y9, y10⟩ := blkH ((hg.below.block _ (lt_of_block HB.out)).trans HB.out)
  clear hg
  go_simp
  exact Below.refl _ _
 try go_simp
 repeat (refine wpHp fun K hK => ?_; go_simp; refine hK _ ?_; clear hK K)
 refine wpHd (.int .i64 (20 + (os.length : Int))) (fun w' hg => ?_) ?_
 ·have h := HSz.out w' ao cap (HO.out w' (HGB.out.trans hg.below))
  clear hg
  go_simp
  with_reducible refine h.mono ?_
  rintro e w1 ⟨rfl, hg⟩
  exact ⟨_, rfl, rfl, hg⟩
 try go_simp
 repeat (refine wpHp fun K hK => ?_; go_simp; refine hK _ ?_; clear hK K)
 refine wpH_nil ?_
 intro xs wC hg hx1 hx2
 have HGC := Lib.hid (HGB.out.trans hg.below)
 have hB := (hg.below.block _ (lt_of_block HB.out)).trans HB.out
 have hZ := (hg.below.block _ (lt_of_block HZ.out)).trans HZ.out
 have HBC := Lib.hid hB
 have HZC := Lib.hid hZ
 obtain ⟨⟨c0, c1, c2, c3, c4, c5⟩, c6, c7, c8, c9, c10⟩ := blkH hB
 obtain ⟨⟨d0, d1, d2, d3, d4, d5⟩, d6, d7, d8, d9, d10⟩ := blkH hZ
 obtain ⟨⟨f0, f1, f2, f3, f4, f5⟩, f6, f7, f8, f9, f10⟩ := blkHz hZ
 have g4 := (blkHz hB).1.2.2.2.2.1
 clear hg hx1 hx2 hB hZ HB HZ HGB
 simp only [fill]
 go_simp
 have hI : ¬ ((M : Int) - (20 + (os.length : Int)) < (L : Int)) := by have := HLL.out; omega
 go_wp2_with fail
 generalize hwD : (((((((((((wC.setCell ⟨w.heap.size, 0, none⟩ (.int .u8 tos)).setCell ⟨w.heap.size, 1, none⟩ (.int .u16 id)).setCell ⟨w.heap.size, 2, none⟩ (.bool evil)).setCell ⟨w.heap.size, 3, none⟩ (.bool df)).setCell ⟨w.heap.size, 4, none⟩ (.bool mf)).setCell ⟨w.heap.size, 5, none⟩ (.int .i64 off)).setCell ⟨w.heap.size, 6, none⟩ (.int .u8 ttl)).setCell ⟨w.heap.size, 7, none⟩ (.int .u8 proto)).setCell ⟨w.heap.size, 8, none⟩ (.int .u32 src)).setCell ⟨w.heap.size, 9, none⟩ (.int .u32 dst)).setCell ⟨w.heap.size, 10, none⟩ (.slice ao os.length cap)) = wD
 have hE : Hid (Grow w wC ∧ wC.heap[w.heap.size]? = some (.cells #[.int .u8 0, .int .u16 0, .bool false, .bool false, .bool false, .int .i64 0, .int .u8 0, .int .u8 0, .int .u32 0, .int .u32 0, .slice none 0 0] 27 (0, 0))) := ⟨HGC.out, HZC.out⟩
 have HBD : Hid (wD.heap[w.heap.size]? = some (.cells #[.int .u8 tos, .int .u16 id, .bool evil, .bool df, .bool mf, .int .i64 off, .int .u8 ttl, .int .u8 proto, .int .u32 src, .int .u32 dst, .slice ao os.length cap] 27 (0, 0))) := by rw [← hwD]; exact put11 hE.out.2 _ _ _ _ _ _ _ _ _ _ _
 have HGD : Hid (Grow w wD) := by rw [← hwD]; exact grow11 hE.out.1 (Nat.le_refl _) _ _ _ _ _ _ _ _ _ _ _
 clear hwD c0 c1 c2 c3 c4 c5 c6 c7 c8 c9 c10 d0 d1 d2 d3 d4 d5 d6 d7 d8 d9 d10 f0 f1 f2 f3 f4 f5 f6 f7 f8 f9 f10 g4
 obtain ⟨⟨c0, c1, c2, c3, c4, c5⟩, c6, c7, c8, c9, c10⟩ := blkH HBD.out
 refine bodyPost_ret (v := .tuple #[.agg #[.int .u8 tos, .int .u16 id, .bool evil, .bool df, .bool mf, .int .i64 off, .int .u8 ttl, .int .u8 proto, .int .u32 src, .int .u32 dst, .slice ao os.length cap], .int .i64 L]) (by simp [results, Tryz.results129, go_sem, c0, c1, c2, c3, c4, c5, c6, c7, c8, c9, c10]) rfl ?_
 have hfin : ((pieceN M pl.length os 0 : Nat) : Int) = L := by have := HLL.out; rw [hN]; omega
 refine ⟨.slice ao os.length cap, ?_, HO.out _ HGD.out, HGD.out⟩
 rw [hV]
 show _ = Ending.returned (.tuple #[_, .int .i64 ((pieceN M pl.length os 0 : Nat) : Int)])
 rw [hfin]
set_option maxHeartbeats 8000000 in
theorem piece_0b {w : World} {BH BP BM : Nat} {h : Hd} {ao : Option Addr} {cap : Nat} {po : Option Addr} {pc : Nat} {pl : List Int} {M : Nat} (p : PieceAt w BH BP BM h ao cap po pc pl M) (k : Nat) (hk : k < pl.length) (hk0 : k = 0) (hb : pieceR M h.os k < pl.length - k) :
  Calls Tryz.prog 129 #[.int .i64 k, .pointer (some ⟨BH, 0, none⟩), .pointer (some ⟨BP, 0, none⟩), .pointer (some ⟨BM, 0, none⟩)] w (Pieced h M pl.length k w) := by
 have hV : ∀ v, (pieceH h M pl.length k v).val = .agg #[.int .u8 h.tos, .int .u16 h.id, .bool h.evil, .bool h.df, .bool true, .int .i64 (h.off + (k / 8 : Nat)), .int .u8 h.ttl, .int .u8 h.proto, .int .u32 h.src, .int .u32 h.dst, v] := fun v => by
  simp only [Hd.val, Hd.cells, hdCells, pieceH]
  simp [hb]
 have hN : pieceN M pl.length h.os k = pieceR M h.os k / 8 * 8 := by unfold pieceN; rw [if_pos hb]
 have hR : pieceR M h.os k = M - (20 + (pieceO h.os k).length) := rfl
 obtain ⟨q1, q2, q3, q4⟩ := pieceO_raw p.raw k
 have hr8 := pieceR_ge p.raw p.m.1 k
 have HSz : Hid (∀ x a c, BytesV x (.slice a (pieceO h.os k).length c) (pieceO h.os k) → Calls Tryz.prog 28 #[.agg #[.int .u8 0, .int .u16 0, .bool false, .bool false, .bool false, .int .i64 0, .int .u8 0, .int .u8 0, .int .u32 0, .int .u32 0, .slice a (pieceO h.os k).length c]] x fun e w' => e = .returned (.int .i64 (20 + (pieceO h.os k).length)) ∧ Grow x w') := fun x a c hx => size_opts hx q1 q2 q3
 have HO : Hid (∀ x, Grow w x → BytesV x (.slice ao h.os.length cap) h.os) := fun x hx => by
  have := p.ok.body.mono hx
  rwa [p.hv] at this
 have hcells : h.cells = #[.int .u8 h.tos, .int .u16 h.id, .bool h.evil, .bool h.df, .bool h.mf, .int .i64 h.off, .int .u8 h.ttl, .int .u8 h.proto, .int .u32 h.src, .int .u32 h.dst, .slice ao h.os.length cap] := by
  unfold Hd.cells; rw [p.hv]; rfl
 have hhd := p.hd
 rw [hcells] at hhd
 have hofs := p.raw.off
 have hM := p.m
 have hL := p.l
 have HHd := Lib.hid hhd
 have HPd := Lib.hid p.pd
 have HMd := Lib.hid p.md
 have hpd := cell_of_one p.pd
 have hmd := cell_of_one p.md
 obtain ⟨tos, id, evil, df, mf, off, ttl, proto, src, dst, v0, os⟩ := h
 dsimp only at *
 obtain ⟨R, hRR⟩ : ∃ R, pieceR M os k = R := ⟨_, rfl⟩
 obtain ⟨N, hNN⟩ : ∃ N, pieceN M pl.length os k = N := ⟨_, rfl⟩
 obtain ⟨L, hLL⟩ : ∃ L, pl.length = L := ⟨_, rfl⟩
 subst hk0
 have hO : pieceO os 0 = os := rfl
 simp only [hO, Nat.sub_zero, Nat.zero_div, Int.natCast_zero, Int.add_zero] at *
 have hwO : IntKind.i64.wrap off = off := IntWalk.i64_in _ (by omega)
 have hwL : IntKind.i64.wrap (L : Int) = (L : Int) := IntWalk.i64_in _ (by omega)
 clear hcells q1 q2 q3 q4 p
 have hA : (w.alloc (.cells #[.int .u8 0, .int .u16 0, .bool false, .bool false, .bool false, .int .i64 0, .int .u8 0, .int .u8 0, .int .u32 0, .int .u32 0, .slice none 0 0] 27)).heap[BH]? = some (.cells #[.int .u8 tos, .int .u16 id, .bool evil, .bool df, .bool mf, .int .i64 off, .int .u8 ttl, .int .u8 proto, .int .u32 src, .int .u32 dst, .slice ao os.length cap] 27 (0, 0)) := (Below.heap_alloc _ _ _ (lt_of_block hhd)).trans hhd
 have HGA : Hid (Grow w (w.alloc (.cells #[.int .u8 0, .int .u16 0, .bool false, .bool false, .bool false, .int .i64 0, .int .u8 0, .int .u8 0, .int .u32 0, .int .u32 0, .slice none 0 0] 27))) := (Grow.refl w).alloc _
 have HGB : Hid (Grow w ((w.alloc (.cells #[.int .u8 0, .int .u16 0, .bool false, .bool false, .bool false, .int .i64 0, .int .u8 0, .int .u8 0, .int .u32 0, .int .u32 0, .slice none 0 0] 27)).alloc (.cells #[.int .u8 tos, .int .u16 id, .bool evil, .bool df, .bool mf, .int .i64 off, .int .u8 ttl, .int .u8 proto, .int .u32 src, .int .u32 dst, .slice ao os.length cap] 27))) := HGA.out.alloc _
 have pB := (HGB.out.cell (block_lt hpd)).trans hpd
 obtain ⟨⟨c0, c1, c2, c3, c4, c5⟩, c6, c7, c8, c9, c10⟩ := blkH hA
 clear hpd hmd hA hhd
 go_enter Tryz.func129, Tryz.ntmps129
 go_wp2_with fail
 obtain ⟨wB, hwB⟩ : ∃ x, (w.alloc (.cells #[.int .u8 0, .int .u16 0, .bool false, .bool false, .bool false, .int .i64 0, .int .u8 0, .int .u8 0, .int .u32 0, .int .u32 0, .slice none 0 0] 27)).alloc (.cells #[.int .u8 tos, .int .u16 id, .bool evil, .bool df, .bool mf, .int .i64 off, .int .u8 ttl, .int .u8 proto, .int .u32 src, .int .u32 dst, .slice ao os.length cap] 27) = x := ⟨_, rfl⟩
 have hsA : (w.alloc (.cells #[.int .u8 0, .int .u16 0, .bool false, .bool false, .bool false, .int .i64 0, .int .u8 0, .int .u8 0, .int .u32 0, .int .u32 0, .slice none 0 0] 27)).heap.size = w.heap.size + 1 := World.size_alloc _ _
 have hB := heap_alloc_new (w.alloc (.cells #[.int .u8 0, .int .u16 0, .bool false, .bool false, .bool false, .int .i64 0, .int .u8 0, .int .u8 0, .int .u32 0, .int .u32 0, .slice none 0 0] 27)) (.cells #[.int .u8 tos, .int .u16 id, .bool evil, .bool df, .bool mf, .int .i64 off, .int .u8 ttl, .int .u8 proto, .int .u32 src, .int .u32 dst, .slice ao os.length cap] 27)
 have hZ : ((w.alloc (.cells #[.int .u8 0, .int .u16 0, .bool false, .bool false, .bool false, .int .i64 0, .int .u8 0, .int .u8 0, .int .u32 0, .int .u32 0, .slice none 0 0] 27)).alloc (.cells #[.int .u8 tos, .int .u16 id, .bool evil, .bool df, .bool mf, .int .i64 off, .int .u8 ttl, .int .u8 proto, .int .u32 src, .int .u32 dst, .slice ao os.length cap] 27)).heap[w.heap.size]? = some (.cells #[.int .u8 0, .int .u16 0, .bool false, .bool false, .bool false, .int .i64 0, .int .u8 0, .int .u8 0, .int .u32 0, .int .u32 0, .slice none 0 0] 27 (0, 0)) := (Below.heap_alloc _ _ _ (by rw [hsA]; exact Nat.lt_succ_self _)).trans (heap_alloc_new w _)
 rw [hsA] at hB
 rw [hwB] at hB hZ HGB ⊢
 have HB := Lib.hid hB
 have HZ := Lib.hid hZ
 have HLL := Lib.hid hLL
 clear hsA hB hZ hwB pB c0 c1 c2 c3 c4 c5 c6 c7 c8 c9 c10 HGA hLL
 refine wpRg 7 ?_
 simp only [List.take_succ_cons, List.take_zero, List.drop_succ_cons, List.drop_zero]
 refine wpHd (.int .i64 M) (fun w' hg => ?_) ?_
 ·have hx := cell_of_one (((HGB.out.trans hg.below).block _ (lt_of_block HMd.out)).trans HMd.out)
  clear hg
  go_simp
  exact Below.refl _ _
 try go_simp
 repeat (refine wpHp fun K hK => ?_; go_simp; refine hK _ ?_; clear hK K)
 refine wpHd (.slice ao os.length cap) (fun w' hg => ?_) ?_
 ·obtain ⟨⟨y0, y1, y2, y3, y4, y5⟩, y6, y7, y8, y9, y10⟩ := blkH ((hg.below.block _ (lt_of_block HB.out)).trans HB.out)
  clear hg
  go_simp
  exact Below.refl _ _
 try go_simp
 repeat (refine wpHp fun K hK => ?_; go_simp; refine hK _ ?_; clear hK K)
 refine wpHd (.int .i64 (20 + (os.length : Int))) (fun w' hg => ?_) ?_
 ·have h := HSz.out w' ao cap (HO.out w' (HGB.out.trans hg.below))
  clear hg
  go_simp
  with_reducible refine h.mono ?_
  rintro e w1 ⟨rfl, hg⟩
  exact ⟨_, rfl, rfl, hg⟩
 try go_simp
 repeat (refine wpHp fun K hK => ?_; go_simp; refine hK _ ?_; clear hK K)
 refine wpH_nil ?_
 intro xs wC hg hx1 hx2
 have HGC := Lib.hid (HGB.out.trans hg.below)
 have hB := (hg.below.block _ (lt_of_block HB.out)).trans HB.out
 have hZ := (hg.below.block _ (lt_of_block HZ.out)).trans HZ.out
 have HBC := Lib.hid hB
 have HZC := Lib.hid hZ
 obtain ⟨⟨c0, c1, c2, c3, c4, c5⟩, c6, c7, c8, c9, c10⟩ := blkH hB
 obtain ⟨⟨d0, d1, d2, d3, d4, d5⟩, d6, d7, d8, d9, d10⟩ := blkH hZ
 obtain ⟨⟨f0, f1, f2, f3, f4, f5⟩, f6, f7, f8, f9, f10⟩ := blkHz hZ
 have g4 := (blkHz hB).1.2.2.2.2.1
 clear hg hx1 hx2 hB hZ HB HZ HGB
 simp only [fill]
 go_simp
 have hI :  ((M : Int) - (20 + (os.length : Int)) < (L : Int)) := by have := HLL.out; omega
 go_wp2_with fail
 generalize hwD : ((((((((((((wC.setCell ⟨w.heap.size + 1, 4, none⟩ (.bool true)).setCell ⟨w.heap.size, 0, none⟩ (.int .u8 tos)).setCell ⟨w.heap.size, 1, none⟩ (.int .u16 id)).setCell ⟨w.heap.size, 2, none⟩ (.bool evil)).setCell ⟨w.heap.size, 3, none⟩ (.bool df)).setCell ⟨w.heap.size, 4, none⟩ (.bool true)).setCell ⟨w.heap.size, 5, none⟩ (.int .i64 off)).setCell ⟨w.heap.size, 6, none⟩ (.int .u8 ttl)).setCell ⟨w.heap.size, 7, none⟩ (.int .u8 proto)).setCell ⟨w.heap.size, 8, none⟩ (.int .u32 src)).setCell ⟨w.heap.size, 9, none⟩ (.int .u32 dst)).setCell ⟨w.heap.size, 10, none⟩ (.slice ao os.length cap)) = wD
 have hE : Hid (Grow w (wC.setCell ⟨w.heap.size + 1, 4, none⟩ (.bool true)) ∧ (wC.setCell ⟨w.heap.size + 1, 4, none⟩ (.bool true)).heap[w.heap.size]? = some (.cells #[.int .u8 0, .int .u16 0, .bool false, .bool false, .bool false, .int .i64 0, .int .u8 0, .int .u8 0, .int .u32 0, .int .u32 0, .slice none 0 0] 27 (0, 0))) := ⟨HGC.out.setCell (Nat.le_succ _) _, (Below.heap_setCell _ _ _ _ (Nat.ne_of_lt (Nat.lt_succ_self _))).trans HZC.out⟩
 have HBD : Hid (wD.heap[w.heap.size]? = some (.cells #[.int .u8 tos, .int .u16 id, .bool evil, .bool df, .bool true, .int .i64 off, .int .u8 ttl, .int .u8 proto, .int .u32 src, .int .u32 dst, .slice ao os.length cap] 27 (0, 0))) := by rw [← hwD]; exact put11 hE.out.2 _ _ _ _ _ _ _ _ _ _ _
 have HGD : Hid (Grow w wD) := by rw [← hwD]; exact grow11 hE.out.1 (Nat.le_refl _) _ _ _ _ _ _ _ _ _ _ _
 clear hwD c0 c1 c2 c3 c4 c5 c6 c7 c8 c9 c10 d0 d1 d2 d3 d4 d5 d6 d7 d8 d9 d10 f0 f1 f2 f3 f4 f5 f6 f7 f8 f9 f10 g4
 obtain ⟨⟨c0, c1, c2, c3, c4, c5⟩, c6, c7, c8, c9, c10⟩ := blkH HBD.out
 refine bodyPost_ret (v := .tuple #[.agg #[.int .u8 tos, .int .u16 id, .bool evil, .bool df, .bool true, .int .i64 off, .int .u8 ttl, .int .u8 proto, .int .u32 src, .int .u32 dst, .slice ao os.length cap], .int .i64 (((M : Int) - (20 + (os.length : Int))) / 8 * 8)]) (by simp [results, Tryz.results129, go_sem, c0, c1, c2, c3, c4, c5, c6, c7, c8, c9, c10]) rfl ?_
 have hfin : ((pieceN M pl.length os 0 : Nat) : Int) = (((M : Int) - (20 + (os.length : Int))) / 8 * 8) := by have := HLL.out; rw [hN]; omega
 refine ⟨.slice ao os.length cap, ?_, HO.out _ HGD.out, HGD.out⟩
 rw [hV]
 show _ = Ending.returned (.tuple #[_, .int .i64 ((pieceN M pl.length os 0 : Nat) : Int)])
 rw [hfin]
end
end Go.Proofs.YtgckhdepnmiejaaGreat
