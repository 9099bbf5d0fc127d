/- What was taken of a key: reass.flow in memory (and what stands on it). -/
import Derived.Maps.OwnSet
import Derived.Maps.Views
import Derived.DeepKeys5
import Derived.IntWalk
import Derived.Scope
import Derived.Test.YtgckhdepnmiejaaGreatZ02
import Derived.Test.YtgckhdepnmiejaaGreatZ03
import Derived.Test.YtgckhdepnmiejaaGreatZ05
import Derived.Test.YtgckhdepnmiejaaGreatZ06
import Derived.Test.YtgckhdepnmiejaaGreatZ10
import Derived.Test.YtgckhdepnmiejaaGreatZ11
import Derived.Test.YtgckhdepnmiejaaGreatZ12
set_option linter.unusedVariables false
set_option linter.unusedSimpArgs false
namespace Go.Proofs.YtgckhdepnmiejaaGreat
section
set_option maxRecDepth 100000
open Go.RowKit
open Go.Maps (Keyed)
/-- Elements stand as they are. -/
def anyElem (v : Value) : Option (DataW Value × List MemPlace) := some (.held v, [])
theorem intKeyed : Keyed Tryz.prog 3 := Maps.int_keyed Tryz.underlying3
theorem int_key {k : Nat} (hk : k ≤ 1000000) : keyOf Tryz.prog 3 (.int .i64 k) = some (.int .i64 k) := Maps.keyOf_int_mk Tryz.underlying3 (by simp [Lit.wf, IntKind.min, IntKind.max, IntKind.signed, IntKind.bits]; omega)
theorem zero25 (w : World) : (zeroValue 25).run Tryz.prog w = .ok (.slice none 0 0) w := by kernel_rfl
/-- A payload's bytes, eight by eight. -/
def Blk (P : List Int) (k : Nat) : List Int := (P.drop (8 * k)).take 8
theorem Blk_length (P : List Int) (k : Nat) : (Blk P k).length = min 8 (P.length - 8 * k) := by simp [Blk]
/-- Blocks that were laid, in a map. -/
def AtMap (w : World) (m n base : Nat) (P : List Int) (K : Nat → Bool) : Prop :=
 ∃ D : DataW Value, w.ownsMap Tryz.prog 3 anyElem m n D ∧ ∀ k : Nat, k ≤ 1000000 → (K k = true → ∃ v, (∀ z, D.atKey (.int .i64 k) z = .held v) ∧ w.ownsRow base 5 1 v (Blk P k).length ((Blk P k).map (Value.int .u8))) ∧ (K k = false → ∀ z, D.atKey (.int .i64 k) z = z)
theorem owns_but {M : Nat → Prop} {w w' : World} {H : Type} {P : Program} {k : TypeId} {R : Value → Option (DataW H × List MemPlace)} {b n : Nat} {D : DataW H} (h : w.ownsMap P k R b n D) (hg : GrowBut M w w') (hm : ¬ M b) : w'.ownsMap P k R b n D := by
 have hlt := h.lt
 obtain ⟨es, clock, hb, h1⟩ := h
 exact ⟨es, clock, (hg.block b hlt hm).trans hb, h1⟩
theorem AtMap.lt {w : World} {m n base : Nat} {P : List Int} {K : Nat → Bool} (h : AtMap w m n base P K) : m < w.heap.size := by obtain ⟨D, h, _⟩ := h; exact h.lt
theorem AtMap.but {M : Nat → Prop} {w w' : World} {m n base : Nat} {P : List Int} {K : Nat → Bool} (h : AtMap w m n base P K) (hg : GrowBut M w w') (hm : ¬ M m) (hM : ∀ k, M k → k < base) : AtMap w' m n base P K := by
 obtain ⟨D, h1, h2⟩ := h
 refine ⟨D, owns_but h1 hg hm, fun k hk => ⟨fun e => ?_, (h2 k hk).2⟩⟩
 obtain ⟨v, h3, h4⟩ := (h2 k hk).1 e
 exact ⟨v, h3, own_but h4 hg hM⟩
theorem AtMap.mono {w w' : World} {m n base : Nat} {P : List Int} {K : Nat → Bool} (h : AtMap w m n base P K) (hg : Grow w w') : AtMap w' m n base P K := h.but (GrowBut.of_below (M := NoBlock) hg) (fun e => e) (fun k e => e.elim)
theorem AtMap.more {w : World} {m n n' base : Nat} {P : List Int} {K : Nat → Bool} (h : AtMap w m n base P K) (hn : n ≤ n') : AtMap w m n' base P K := by
 obtain ⟨D, h1, h2⟩ := h
 exact ⟨D, h1.mono hn, h2⟩
theorem AtMap.made (w : World) (base : Nat) (P : List Int) : AtMap (w.alloc (.map #[] 0)) w.heap.size 0 base P (fun _ => false) :=
 ⟨.map [], World.ownsMap_made w _ _ _, fun k _ => ⟨fun e => (by cases e), fun _ z => rfl⟩⟩
theorem AtMap.no {w : World} {m n base : Nat} {P : List Int} {K : Nat → Bool} (h : AtMap w m n base P K) {k : Nat} (hk : k ≤ 1000000) (hK : K k = false) :
  (Instr.lookup 92 (.map (some m)) (.int .i64 k) false).run Tryz.prog w = .ok (.slice none 0 0) w := by
 obtain ⟨D, h1, h2⟩ := h
 obtain ⟨v, ps, hr, hv⟩ := h1.lookup intKeyed Tryz.underlying92 (zero25 w) (zd := .held (.slice none 0 0)) (zp := []) rfl (int_key hk)
 rw [(h2 k hk).2 hK] at hv
 unfold anyElem at hv
 injection hv with hv
 injection hv with hv _
 injection hv with hv
 rw [hr, hv]
theorem AtMap.yes {w : World} {m n base : Nat} {P : List Int} {K : Nat → Bool} (h : AtMap w m n base P K) {k : Nat} (hk : k ≤ 1000000) (hK : K k = true) :
  ∃ v, (Instr.lookup 92 (.map (some m)) (.int .i64 k) false).run Tryz.prog w = .ok v w ∧ w.ownsRow base 5 1 v (Blk P k).length ((Blk P k).map (Value.int .u8)) := by
 obtain ⟨D, h1, h2⟩ := h
 obtain ⟨v, ps, hr, hv⟩ := h1.lookup intKeyed Tryz.underlying92 (zero25 w) (zd := .held (.slice none 0 0)) (zp := []) rfl (int_key hk)
 obtain ⟨u, hu, ho⟩ := (h2 k hk).1 hK
 rw [hu] at hv
 unfold anyElem at hv
 injection hv with hv
 injection hv with hv _
 injection hv with hv
 exact ⟨v, hr, by rw [hv]; exact ho⟩
theorem isKeyLit_int (k : Int) : WideAt.IsKeyLit (.int .i64 k) := by
 first | exact trivial | simp [WideAt.IsKeyLit] | exact Or.inr (Or.inl ⟨_, _, rfl⟩)
/-- One block more. -/
def lay1 (K : Nat → Bool) (k : Nat) : Nat → Bool := fun j => j == k || K j
theorem AtMap.put {w : World} {m n base : Nat} {P : List Int} {K : Nat → Bool} (h : AtMap w m n base P K) (hn : n < maxLen) {k : Nat} (hk : k ≤ 1000000) {v : Value} (hm : m < base) (hv : w.ownsRow base 5 1 v (Blk P k).length ((Blk P k).map (Value.int .u8))) :
  ∃ w', (Instr.mapUpdate 92 (.map (some m)) (.int .i64 k) v).run Tryz.prog w = .ok () w' ∧ AtMap w' m (n + 1) base P (lay1 K k) ∧ GrowBut (fun j => j = m) w w' := by
 obtain ⟨D, h1, h2⟩ := h
 obtain ⟨w', hr, h3, h4⟩ := h1.update intKeyed Tryz.underlying92 hn (int_key hk) (val := v) (d := .held v) (ps := []) rfl
 have hg : GrowBut (fun j => j = m) w w' := ⟨h4.os, h4.tape, h4.output, h4.size, fun k hlt hne => h4.block k hlt (fun e => hne (by injection e))⟩
 refine ⟨w', hr, ⟨_, h3, fun j hj => ?_⟩, hg⟩
 by_cases e : j = k
 ·subst e
  refine ⟨fun _ => ⟨v, fun z => Maps.atKey_put_same (h1.isMap) (isKeyLit_int _) _ _, own_but hv hg (fun q e => by have e : q = m := e; omega)⟩, fun hf => by simp [lay1] at hf⟩
 ·have hne : (Lit.int .i64 (j : Int)) ≠ .int .i64 (k : Int) := fun e' => by injection e' with _ e'; omega
  have hl : lay1 K k j = K j := by simp [lay1, e]
  rw [hl]
  refine ⟨fun hK => ?_, fun hK z => by rw [Maps.atKey_put_other hne]; exact (h2 j hj).2 hK z⟩
  obtain ⟨u, hu, ho⟩ := (h2 j hj).1 hK
  exact ⟨u, fun z => by rw [Maps.atKey_put_other hne]; exact hu z, own_but ho hg (fun q e => by have e : q = m := e; omega)⟩
/-- The store, for the walk. -/
theorem wpList_at_put {w : World} {m n base : Nat} {P : List Int} {K : Nat → Bool} (h : AtMap w m n base P K) (hn : n < maxLen) {k : Nat} (hk : k ≤ 1000000) {v : Value} (hm : m < base) (hv : w.ownsRow base 5 1 v (Blk P k).length ((Blk P k).map (Value.int .u8)))
  {ops : Array Oper} {rest : List Oper} {o : Oper} {a : Act} {Q : Exit → Act → World → Prop} (hg : o.guard = none) (x y z : Operand) (hop : o.op = Op.mapUpdate 92 x y z) (hx : a.eval x = .map (some m)) (hy : a.eval y = .int .i64 k) (hz : a.eval z = v)
  (hK : ∀ w', AtMap w' m (n + 1) base P (lay1 K k) → GrowBut (fun j => j = m) w w' → wpList Tryz.prog ops Q rest (a.put o.dst undef) w') : wpList Tryz.prog ops Q (o :: rest) a w := by
 refine wpList_plain hg fun K' hK' => ?_
 obtain ⟨w', hrun, r1, r2⟩ := h.put hn hk hm hv
 unfold Oper.wp
 simp [execOp, hop, hx, hy, hz, hrun, Result.andThen]
 exact hK' _ _ (hK w' r1 r2)
end
end Go.Proofs.YtgckhdepnmiejaaGreat
namespace Go.Proofs.YtgckhdepnmiejaaGreat
section
set_option maxRecDepth 100000
open Go.RowKit
open Go.Maps (Keyed IsMap)
theorem errKeyed : Keyed Tryz.prog 45 := Maps.int_keyed Tryz.underlying45
theorem key45 (x : Int) (h : (Lit.int .i64 x).wf = true) : keyOf Tryz.prog 45 (.int .i64 x) = some (.int .i64 x) := Maps.keyOf_int_mk Tryz.underlying45 h
theorem zero177 (w : World) : (zeroValue 177).run Tryz.prog w = .ok (.agg #[.int .u8 0, .int .u8 0, .int .u8 0, .int .u8 0, .int .u8 0, .int .u8 0, .slice none 0 0]) w := by kernel_rfl
theorem isMap_putV (D : DataW Value) (h : IsMap D) (k : Lit) (d : DataW Value) : IsMap (D.put k d) := by
 unfold IsMap at *
 cases D <;> simp_all [DataW.put]
def kindV (ty code : Int) : Value := .agg #[.int .u8 ty, .int .u8 code, .int .u8 0, .int .u8 0, .int .u8 0, .int .u8 0, .slice none 0 0]
def kindsD : DataW Value := (((DataW.map []).put (.int .i64 1) (.held (kindV 3 0))).put (.int .i64 2) (.held (kindV 3 4))).put (.int .i64 3) (.held (kindV 11 0))
theorem kinds_at (z : DataW Value) : kindsD.atKey (.int .i64 3) z = .held (kindV 11 0) := by
 unfold kindsD
 exact Maps.atKey_put_same (isMap_putV _ (isMap_putV _ ⟨[], rfl⟩ _ _) _ _) (show WideAt.IsKeyLit (.int .i64 3) from trivial) _ _
theorem kinds_has : Maps.has kindsD (.int .i64 3) = true := Maps.has_true_of_atKey (y := .held (kindV 11 0)) kinds_at
def KindsR (w : World) (e : Ending) (w' : World) : Prop := ∃ b, e = .returned (.map (some b)) ∧ w'.ownsMap Tryz.prog 45 anyElem b 3 kindsD ∧ Grow w w'
theorem grow_rowM {w w1 w2 : World} {b : Nat} (h : Grow w w1) (hb : w.heap.size ≤ b) (k : w1.grownBy w2 (some b)) : Grow w w2 :=
 h.grown k h.size (fun j hj => by cases hj; exact hb)
set_option maxHeartbeats 1000000 in
theorem kinds_any (w : World) : Calls Tryz.prog 110 #[] w (KindsR w) := by
 have hmm := @run_makeMap Tryz.prog
 have hown0 := World.ownsMap_made (H := Value) w Tryz.prog 45 anyElem
 have HG0 : Hid (Grow w (w.alloc (.map #[] 0))) := (Grow.refl w).alloc _
 go_enter Tryz.func110, Tryz.ntmps110
 go_wp2_with (first
  | (refine wpList_insert_own _ rfl _ _ _ 211 rfl 45 177 errKeyed Tryz.underlying211 anyElem w.heap.size 2 _ rfl hown2 (by decide) _ _ (.int .i64 3) rfl rfl (key45 3 (by decide)) (.held (kindV 11 0)) [] rfl ?_; intro w3 hown3 hg3; have HG3 := Lib.hid (grow_rowM HG2.out (Nat.le_refl _) hg3))
  | (refine wpList_insert_own _ rfl _ _ _ 211 rfl 45 177 errKeyed Tryz.underlying211 anyElem w.heap.size 1 _ rfl hown1 (by decide) _ _ (.int .i64 2) rfl rfl (key45 2 (by decide)) (.held (kindV 3 4)) [] rfl ?_; intro w2 hown2 hg2; have HG2 := Lib.hid (grow_rowM HG1.out (Nat.le_refl _) hg2))
  | (refine wpList_insert_own _ rfl _ _ _ 211 rfl 45 177 errKeyed Tryz.underlying211 anyElem w.heap.size 0 _ rfl hown0 (by decide) _ _ (.int .i64 1) rfl rfl (key45 1 (by decide)) (.held (kindV 3 0)) [] rfl ?_; intro w1 hown1 hg1; have HG1 := Lib.hid (grow_rowM HG0.out (Nat.le_refl _) hg1)))
 refine bodyPost_ret (v := .map (some w.heap.size)) (by simp [results, Tryz.results110, go_sem]) rfl ?_
 exact ⟨_, rfl, hown3, HG3.out⟩
/-- The header of the chapter's first packet. -/
def hdK (v : Value) : Hd := ⟨0, 0, false, false, false, 0, 1, 17, 184549381, 201326597, v, []⟩
theorem oneA : One4 184549381 := by unfold One4; omega
theorem oneB : One4 201326597 := by unfold One4; omega
set_option maxHeartbeats 1000000 in
theorem imay_known {va ua : Option Addr} {vl vc ul uc : Nat} (w : World) : Calls Tryz.prog 109 #[.agg #[.int .u8 0, .int .u16 0, .bool false, .bool false, .bool false, .int .i64 0, .int .u8 1, .int .u8 17, .int .u32 184549381, .int .u32 201326597, .slice va vl vc], .slice ua ul uc] w fun e w' => e = .returned (.bool true) ∧ Grow w w' := by
 have hN := heap_alloc_new w (.cells #[.int .u8 0, .int .u16 0, .bool false, .bool false, .bool false, .int .i64 0, .int .u8 1, .int .u8 17, .int .u32 184549381, .int .u32 201326597, .slice va vl vc] 27)
 have HG : Hid (Grow w (w.alloc (.cells #[.int .u8 0, .int .u16 0, .bool false, .bool false, .bool false, .int .i64 0, .int .u8 1, .int .u8 17, .int .u32 184549381, .int .u32 201326597, .slice va vl vc] 27))) := (Grow.refl w).alloc _
 have m1 := fun x => multicast_any oneA x
 have m2 := fun x => multicast_any oneB x
 have HM1 := Lib.hid m1
 have HM2 := Lib.hid m2
 clear m1 m2
 obtain ⟨⟨c0, c1, c2, c3, c4, c5⟩, c6, c7, c8, c9, c10⟩ := blkH hN
 clear hN
 go_enter Tryz.func109, Tryz.ntmps109
 go_wp2_with fail
 with_reducible refine (HM1.out _).mono ?_
 rintro e w1 ⟨rfl, rfl⟩
 go_wp2_with fail
 with_reducible refine (HM2.out _).mono ?_
 rintro e w1 ⟨rfl, rfl⟩
 go_wp2_with fail
 refine bodyPost_ret (v := .bool true) (by simp [results, Tryz.results109, go_sem]) rfl ?_
 exact ⟨rfl, HG.out⟩
def ParsedK (w : World) (pl : List Int) (e : Ending) (w' : World) : Prop := ∃ va vl vc ua uc, e = .returned (.tuple #[.agg #[.int .u8 0, .int .u16 0, .bool false, .bool false, .bool false, .int .i64 0, .int .u8 1, .int .u8 17, .int .u32 184549381, .int .u32 201326597, .slice va vl vc], .slice ua pl.length uc, .int .i64 0]) ∧ HdOk w' (hdK (.slice va vl vc)) ∧ pl.length ≤ uc ∧ uc ≤ maxLen ∧ Grow w w'
theorem parse_known {w : World} {b off L cap Z S : Nat} {zs pl : List Int} {v : Value} (p : PktAt w b off L cap Z S zs (hdK v) pl) (hL : L ≤ 10000) : Calls Tryz.prog 11 #[.slice (some ⟨b, off, none⟩) L cap] w (ParsedK w pl) := by
 refine (parse_any p hL).mono ?_
 rintro e w' ⟨v', u, rfl, hk, hu, hg⟩
 have hk : HdOk w' (hdK v') := hk
 obtain ⟨ua, uc, rfl, h1, h2⟩ := hu.shape
 obtain ⟨va, vl, vc, rfl⟩ : ∃ a l c, v' = .slice a l c := by obtain ⟨a, c, h, _, _⟩ := hk.body.shape; exact ⟨_, _, _, h⟩
 exact ⟨va, vl, vc, ua, uc, rfl, hk, h1, h2, hg⟩
set_option maxHeartbeats 1000000 in
theorem icmpMay {w : World} {b off L cap Z S : Nat} {zs pl : List Int} {v : Value} (p : PktAt w b off L cap Z S zs (hdK v) pl) (hL : L ≤ 10000) :
  Calls Tryz.prog 90 #[.slice (some ⟨b, off, none⟩) L cap] w fun e w' => e = .returned (.bool true) ∧ Grow w w' := by
 have HP := Lib.hid (parse_known p hL)
 clear p hL
 go_enter Tryz.func90, Tryz.ntmps90
 go_wp2_with fail
 with_reducible refine HP.out.mono ?_
 rintro e w1 ⟨va, vl, vc, ua, uc, rfl, _, _, _, hg⟩
 generalize pl.length = ul at *
 have HG1 := Lib.hid hg
 clear hg HP
 go_upto_region 2 with fail
 have hN := heap_alloc_new w1 (.cells #[.int .u8 0, .int .u16 0, .bool false, .bool false, .bool false, .int .i64 0, .int .u8 1, .int .u8 17, .int .u32 184549381, .int .u32 201326597, .slice va vl vc] 27)
 have hg : Grow w1 (w1.alloc (.cells #[.int .u8 0, .int .u16 0, .bool false, .bool false, .bool false, .int .i64 0, .int .u8 1, .int .u8 17, .int .u32 184549381, .int .u32 201326597, .slice va vl vc] 27)) := (Grow.refl w1).alloc _
 obtain ⟨w2, hw2⟩ : ∃ x, w1.alloc (.cells #[.int .u8 0, .int .u16 0, .bool false, .bool false, .bool false, .int .i64 0, .int .u8 1, .int .u8 17, .int .u32 184549381, .int .u32 201326597, .slice va vl vc] 27) = x := ⟨_, rfl⟩
 rw [hw2] at hN hg ⊢
 have HG2 := Lib.hid (HG1.out.trans hg)
 obtain ⟨⟨c0, c1, c2, c3, c4, c5⟩, c6, c7, c8, c9, c10⟩ := blkH hN
 clear hN hg hw2
 go_wp2_with fail
 with_reducible refine (imay_known _).mono ?_
 rintro e w3 ⟨rfl, hg⟩
 have HG3 := Lib.hid (HG2.out.trans hg)
 clear hg c0 c1 c2 c3 c4 c5 c6 c7 c8 c9 c10
 go_wp2_with fail
 refine bodyPost_ret (v := .bool true) (by simp [results, Tryz.results90, go_sem]) rfl ?_
 exact ⟨rfl, HG3.out⟩
set_option maxHeartbeats 1000000 in
theorem quote_known {w : World} {b off cap Z S : Nat} {zs pl : List Int} {v : Value} (p : PktAt w b off 27 cap Z S zs (hdK v) pl) (h7 : pl.length = 7) :
  Calls Tryz.prog 111 #[.slice (some ⟨b, off, none⟩) 27 cap] w fun e w' => ∃ u, e = .returned (.tuple #[u, .int .i64 0]) ∧ NewBytes w zs u w' := by
 have HP := Lib.hid (parse_known p (by omega))
 have HB := Lib.hid p.bytes
 have HM := Lib.hid p.raw.may
 have hc := p.capL
 have hm := p.capM
 unfold maxLen at hm
 clear p
 go_enter Tryz.func111, Tryz.ntmps111
 go_wp2_with fail
 with_reducible refine HP.out.mono ?_
 rintro e w1 ⟨va, vl, vc, ua, uc, rfl, hk, hu1, hu2, hg⟩
 have HSz : Hid (∀ x, Grow w1 x → Calls Tryz.prog 28 #[.agg #[.int .u8 0, .int .u16 0, .bool false, .bool false, .bool false, .int .i64 0, .int .u8 1, .int .u8 17, .int .u32 184549381, .int .u32 201326597, .slice va vl vc]] x fun e w' => e = .returned (.int .i64 20) ∧ Grow x w') := fun x hx => size_hdr (hdK (.slice va vl vc)) x (hk.mono hx) HM.out
 rw [h7] at hu1 ⊢
 have HG1 := Lib.hid hg
 unfold maxLen at hu2
 clear hg hk HP
 go_upto_region 4 with fail
 have hN := heap_alloc_new w1 (.cells #[.int .u8 0, .int .u16 0, .bool false, .bool false, .bool false, .int .i64 0, .int .u8 1, .int .u8 17, .int .u32 184549381, .int .u32 201326597, .slice va vl vc] 27)
 have hg : Grow w1 (w1.alloc (.cells #[.int .u8 0, .int .u16 0, .bool false, .bool false, .bool false, .int .i64 0, .int .u8 1, .int .u8 17, .int .u32 184549381, .int .u32 201326597, .slice va vl vc] 27)) := (Grow.refl w1).alloc _
 obtain ⟨w2, hw2⟩ : ∃ x, w1.alloc (.cells #[.int .u8 0, .int .u16 0, .bool false, .bool false, .bool false, .int .i64 0, .int .u8 1, .int .u8 17, .int .u32 184549381, .int .u32 201326597, .slice va vl vc] 27) = x := ⟨_, rfl⟩
 rw [hw2] at hN hg ⊢
 have HG2 := Lib.hid (HG1.out.trans hg)
 have HG12 := Lib.hid hg
 obtain ⟨⟨c0, c1, c2, c3, c4, c5⟩, c6, c7, c8, c9, c10⟩ := blkH hN
 clear hN hg hw2
 go_wp2_with fail
 with_reducible refine (HSz.out _ HG12.out).mono ?_
 rintro e w3 ⟨rfl, hg⟩
 have HG3 := Lib.hid (HG2.out.trans hg)
 clear hg c0 c1 c2 c3 c4 c5 c6 c7 c8 c9 c10
 have k1 : (27 : Int) ≤ (cap : Int) := by omega
 go_wp2_with fail
 have hq := clone_any (HB.out.mono HG3.out) (by omega)
 with_reducible refine hq.mono ?_
 clear hq
 rintro e w4 ⟨u, rfl, hn⟩
 have HN : Hid (NewBytes w zs u w4) := ⟨own_less hn.1 HG3.out.size, HG3.out.trans hn.2⟩
 clear hn
 go_wp2_with fail
 refine bodyPost_ret (v := .tuple #[u, .int .i64 0]) (by simp [results, Tryz.results111, go_sem]) rfl ?_
 exact ⟨u, rfl, HN.out⟩
set_option maxHeartbeats 2000000 in
theorem error_known {w : World} {b off cap Z S : Nat} {zs pl : List Int} {v : Value} (p : PktAt w b off 27 cap Z S zs (hdK v) pl) (h7 : pl.length = 7) :
  Calls Tryz.prog 91 #[.int .i64 3, .slice (some ⟨b, off, none⟩) 27 cap, .int .u32 167772161, .int .i64 0] w (ErrPkt w 35 167772161 184549381) := by
 have HP := Lib.hid p
 have H7 := Lib.hid h7
 clear p h7
 go_enter Tryz.func91, Tryz.ntmps91
 go_wp2_with fail
 with_reducible refine (kinds_any w).mono ?_
 rintro e w1 ⟨m, rfl, hown, hg⟩
 have HG1 := Lib.hid hg
 have HO := Lib.hid hown
 clear hg hown
 go_wp2_with (refine wpList_lookup_own_ok _ rfl _ _ 211 rfl 45 177 errKeyed Tryz.underlying211 anyElem (zero177 _) (.held (kindV 0 0)) [] rfl m 3 kindsD rfl HO.out (.int .i64 3) (.int .i64 3) rfl (key45 3 (by decide)) ?_)
 intro x ps hx
 rw [kinds_at] at hx
 rw [kinds_has]
 unfold anyElem at hx
 injection hx with hx
 injection hx with hx _
 injection hx with hx
 subst hx
 unfold kindV
 clear HO
 go_upto_region 2 with fail
 have hN := heap_alloc_new w1 (.cells #[.int .u8 11, .int .u8 0, .int .u8 0, .int .u8 0, .int .u8 0, .int .u8 0, .slice none 0 0] 177)
 have hg : Grow w1 (w1.alloc (.cells #[.int .u8 11, .int .u8 0, .int .u8 0, .int .u8 0, .int .u8 0, .int .u8 0, .slice none 0 0] 177)) := (Grow.refl w1).alloc _
 obtain ⟨w2, hw2⟩ : ∃ x, w1.alloc (.cells #[.int .u8 11, .int .u8 0, .int .u8 0, .int .u8 0, .int .u8 0, .int .u8 0, .slice none 0 0] 177) = x := ⟨_, rfl⟩
 rw [hw2] at hN hg ⊢
 obtain ⟨M, hM⟩ : ∃ x, w1.heap.size = x := ⟨_, rfl⟩
 rw [hM] at hN ⊢
 have HG2 := Lib.hid (HG1.out.trans hg)
 have HM2 := Lib.hid hN
 have HMs : Hid (w.heap.size ≤ M) := by rw [← hM]; exact Lib.hid HG1.out.size
 clear hN hg hw2 hM HG1
 go_wp2_with fail
 have hq := parse_known (HP.out.mono HG2.out) (by omega)
 with_reducible refine hq.mono ?_
 clear hq
 rintro e w3 ⟨va, vl, vc, ua, uc, rfl, _, hu1, hu2, hg⟩
 rw [H7.out] at hu1 ⊢
 have HG3 := Lib.hid (HG2.out.trans hg)
 have HM3 := Lib.hid ((hg.block _ (lt_of_block HM2.out)).trans HM2.out)
 clear hg HG2 HM2
 go_upto_region 3 with fail
 have hN := heap_alloc_new w3 (.cells #[.int .u8 0, .int .u16 0, .bool false, .bool false, .bool false, .int .i64 0, .int .u8 1, .int .u8 17, .int .u32 184549381, .int .u32 201326597, .slice va vl vc] 27)
 have hg : Grow w3 (w3.alloc (.cells #[.int .u8 0, .int .u16 0, .bool false, .bool false, .bool false, .int .i64 0, .int .u8 1, .int .u8 17, .int .u32 184549381, .int .u32 201326597, .slice va vl vc] 27)) := (Grow.refl w3).alloc _
 obtain ⟨w4, hw4⟩ : ∃ x, w3.alloc (.cells #[.int .u8 0, .int .u16 0, .bool false, .bool false, .bool false, .int .i64 0, .int .u8 1, .int .u8 17, .int .u32 184549381, .int .u32 201326597, .slice va vl vc] 27) = x := ⟨_, rfl⟩
 rw [hw4] at hN hg ⊢
 obtain ⟨B, hB⟩ : ∃ x, w3.heap.size = x := ⟨_, rfl⟩
 have HLB : Hid (M < B) := by rw [← hB]; exact Lib.hid (lt_of_block HM3.out)
 rw [hB] at hN ⊢
 have HG4 := Lib.hid (HG3.out.trans hg)
 have HB4 := Lib.hid hN
 have HM4 := Lib.hid ((hg.block _ (lt_of_block HM3.out)).trans HM3.out)
 clear hN hg hw4 hB HG3 HM3
 obtain ⟨⟨c0, c1, c2, c3, c4, c5⟩, c6, c7, c8, c9, c10⟩ := blkH HB4.out
 go_wp2_with fail
 with_reducible refine (imay_known _).mono ?_
 rintro e w5 ⟨rfl, hg⟩
 have HG5 := Lib.hid (HG4.out.trans hg)
 have HM5 := Lib.hid ((hg.block _ (lt_of_block HM4.out)).trans HM4.out)
 have HB5 := Lib.hid ((hg.block _ (lt_of_block HB4.out)).trans HB4.out)
 clear hg HG4 HM4 HB4 c0 c1 c2 c3 c4 c5 c6 c7 c8 c9 c10
 obtain ⟨c0, c1, c2, c3, c4, c5, c6⟩ := blk7 HM5.out
 have z4 : w5.frozen? ⟨M, 4, none⟩ = false := by simp [World.frozen?, HM5.out]
 have z5 : w5.frozen? ⟨M, 5, none⟩ = false := by simp [World.frozen?, HM5.out]
 go_upto_region 10 with fail
 clear c0 c1 c2 c3 c4 c5 c6 z4 z5
 have hm := heap_setCell_same _ _ 5 _ _ (.int .u8 0) (heap_setCell_same _ _ 4 _ _ (.int .u8 0) HM5.out)
 have hb := (Below.heap_setCell (w5.setCell ⟨M, 4, none⟩ (.int .u8 0)) ⟨M, 5, none⟩ (.int .u8 0) B (show B ≠ M by have := HLB.out; omega)).trans ((Below.heap_setCell w5 ⟨M, 4, none⟩ (.int .u8 0) B (show B ≠ M by have := HLB.out; omega)).trans HB5.out)
 have hg : Grow w ((w5.setCell ⟨M, 4, none⟩ (.int .u8 0)).setCell ⟨M, 5, none⟩ (.int .u8 0)) := only_new HG5.out HMs.out ((only_set _).trans (only_set _))
 obtain ⟨w6, hw6⟩ : ∃ x, (w5.setCell ⟨M, 4, none⟩ (.int .u8 0)).setCell ⟨M, 5, none⟩ (.int .u8 0) = x := ⟨_, rfl⟩
 rw [hw6] at hm hb hg ⊢
 have HM6 : Hid (w6.heap[M]? = some (.cells #[.int .u8 11, .int .u8 0, .int .u8 0, .int .u8 0, .int .u8 0, .int .u8 0, .slice none 0 0] 177 (0, 0))) := hm
 have HB6 := Lib.hid hb
 have HG6 := Lib.hid hg
 clear hm hb hg hw6 HM5 HB5 HG5
 go_wp2_with fail
 have hq := quote_known (HP.out.mono HG6.out) H7.out
 with_reducible refine hq.mono ?_
 clear hq
 rintro e w7 ⟨u, rfl, hn⟩
 have HZb := Lib.hid HP.out.bytes.1
 have HZl := Lib.hid HP.out.len
 have HU7 := Lib.hid (newb_bytes hn HZb.out)
 have HN7 := Lib.hid hn.1
 have HLM := Lib.hid (lt_of_block HM6.out)
 have HM7 := Lib.hid ((hn.2.block _ (lt_of_block HM6.out)).trans HM6.out)
 have HB7 := Lib.hid ((hn.2.block _ (lt_of_block HB6.out)).trans HB6.out)
 have HG7 := Lib.hid (HG6.out.trans hn.2)
 clear hn HM6 HB6 HG6
 obtain ⟨qa, qc, rfl, _, _⟩ := HU7.out.shape
 obtain ⟨c0, c1, c2, c3, c4, c5, c6⟩ := blk7 HM7.out
 have z6 : w7.frozen? ⟨M, 6, none⟩ = false := by simp [World.frozen?, HM7.out]
 go_upto_region 11 with fail
 clear c0 c1 c2 c3 c4 c5 c6 z6
 have hm := heap_setCell_same _ _ 6 _ _ (.slice qa zs.length qc) HM7.out
 have hb := (Below.heap_setCell w7 ⟨M, 6, none⟩ (.slice qa zs.length qc) B (show B ≠ M by have := HLB.out; omega)).trans HB7.out
 have hg : GrowBut (Only M) w7 (w7.setCell ⟨M, 6, none⟩ (.slice qa zs.length qc)) := only_set _
 obtain ⟨w8, hw8⟩ : ∃ x, w7.setCell ⟨M, 6, none⟩ (.slice qa zs.length qc) = x := ⟨_, rfl⟩
 rw [hw8] at hm hb hg ⊢
 have hm : w8.heap[M]? = some (.cells #[.int .u8 11, .int .u8 0, .int .u8 0, .int .u8 0, .int .u8 0, .int .u8 0, .slice qa zs.length qc] 177 (0, 0)) := hm
 have HG8 := Lib.hid (only_new HG7.out HMs.out hg)
 have HSd : Hid (Calls Tryz.prog 89 #[.agg #[.int .u8 11, .int .u8 0, .int .u8 0, .int .u8 0, .int .u8 0, .int .u8 0, .slice qa zs.length qc], .agg #[.int .u8 0, .int .u16 0, .bool false, .bool false, .bool false, .int .i64 0, .int .u8 0, .int .u8 0, .int .u32 167772161, .int .u32 184549381, .slice none 0 0]] w8 (ErrPkt w8 35 167772161 184549381)) := by
  have h := icmpsend (w := w8) (v := .slice qa zs.length qc) (zs := zs) (src := 167772161) (dst := 184549381) ⟨HZb.out, ints_of_owns (own_but HN7.out hg (fun k e => by rw [show k = M from e]; exact HLM.out))⟩ (by rw [HZl.out]; omega) (by unfold U32; omega) (by unfold U32; omega)
  rw [HZl.out] at h
  rw [HZl.out]
  exact Lib.hid h
 rw [HZl.out] at hm HSd ⊢
 obtain ⟨c0, c1, c2, c3, c4, c5, c6⟩ := blk7 hm
 obtain ⟨⟨d0, d1, d2, d3, d4, d5⟩, d6, d7, d8, d9, d10⟩ := blkH hb
 clear hm hb hg hw8
 go_wp2_with fail
 with_reducible refine HSd.out.mono ?_
 rintro e w9 ⟨u, ys, rfl, h1, h2, hn⟩
 have HR := Lib.hid (And.intro h1 (And.intro h2 hn))
 clear h1 h2 hn HSd c0 c1 c2 c3 c4 c5 c6 d0 d1 d2 d3 d4 d5 d6 d7 d8 d9 d10
 go_wp2_with fail
 refine bodyPost_ret (v := .tuple #[u, .int .i64 0]) (by simp [results, Tryz.results91, go_sem]) rfl ?_
 exact ⟨u, ys, rfl, HR.out.1, HR.out.2.1, own_less HR.out.2.2.1 HG8.out.size, HG8.out.trans HR.out.2.2.2⟩
end
end Go.Proofs.YtgckhdepnmiejaaGreat
namespace Go.Proofs.YtgckhdepnmiejaaGreat
section
set_option maxRecDepth 100000
open Go.RowKit
set_option maxHeartbeats 1000000 in
theorem mask_5 (w : World) : Calls Tryz.prog 103 #[.int .i64 5] w fun e w' => e = .returned (.int .u32 4160749568) ∧ w' = w := by
 go_enter Tryz.func103, Tryz.ntmps103
 go_wp2_with fail
 go_ret
 exact ⟨by first | rfl | (simp; done) | kernel_rfl | (simp; kernel_rfl), rfl⟩
set_option maxHeartbeats 1000000 in
theorem mask_7 (w : World) : Calls Tryz.prog 103 #[.int .i64 7] w fun e w' => e = .returned (.int .u32 4261412864) ∧ w' = w := by
 go_enter Tryz.func103, Tryz.ntmps103
 go_wp2_with fail
 go_ret
 exact ⟨by first | rfl | (simp; done) | kernel_rfl | (simp; kernel_rfl), rfl⟩
set_option maxHeartbeats 1000000 in
theorem mask_8 (w : World) : Calls Tryz.prog 103 #[.int .i64 8] w fun e w' => e = .returned (.int .u32 4278190080) ∧ w' = w := by
 go_enter Tryz.func103, Tryz.ntmps103
 go_wp2_with fail
 go_ret
 exact ⟨by first | rfl | (simp; done) | kernel_rfl | (simp; kernel_rfl), rfl⟩
set_option maxHeartbeats 1000000 in
theorem bit_184549376_7 (w : World) : Calls Tryz.prog 83 #[.int .u32 184549376, .int .i64 7] w fun e w' => e = .returned (.int .i64 1) ∧ w' = w := by
 go_enter Tryz.func83, Tryz.ntmps83
 go_wp2_with fail
 go_ret
 exact ⟨by first | rfl | (simp; done) | kernel_rfl | (simp; kernel_rfl), rfl⟩
set_option maxHeartbeats 1000000 in
theorem bit_167772160_7 (w : World) : Calls Tryz.prog 83 #[.int .u32 167772160, .int .i64 7] w fun e w' => e = .returned (.int .i64 0) ∧ w' = w := by
 go_enter Tryz.func83, Tryz.ntmps83
 go_wp2_with fail
 go_ret
 exact ⟨by first | rfl | (simp; done) | kernel_rfl | (simp; kernel_rfl), rfl⟩
set_option maxHeartbeats 1000000 in
theorem bit_201326592_5 (w : World) : Calls Tryz.prog 83 #[.int .u32 201326592, .int .i64 5] w fun e w' => e = .returned (.int .i64 1) ∧ w' = w := by
 go_enter Tryz.func83, Tryz.ntmps83
 go_wp2_with fail
 go_ret
 exact ⟨by first | rfl | (simp; done) | kernel_rfl | (simp; kernel_rfl), rfl⟩
set_option maxHeartbeats 1000000 in
theorem bit_167772160_5 (w : World) : Calls Tryz.prog 83 #[.int .u32 167772160, .int .i64 5] w fun e w' => e = .returned (.int .i64 0) ∧ w' = w := by
 go_enter Tryz.func83, Tryz.ntmps83
 go_wp2_with fail
 go_ret
 exact ⟨by first | rfl | (simp; done) | kernel_rfl | (simp; kernel_rfl), rfl⟩
set_option maxHeartbeats 1000000 in
theorem bit_184549381_5 (w : World) : Calls Tryz.prog 83 #[.int .u32 184549381, .int .i64 5] w fun e w' => e = .returned (.int .i64 0) ∧ w' = w := by
 go_enter Tryz.func83, Tryz.ntmps83
 go_wp2_with fail
 go_ret
 exact ⟨by first | rfl | (simp; done) | kernel_rfl | (simp; kernel_rfl), rfl⟩
set_option maxHeartbeats 1000000 in
theorem bit_184549381_7 (w : World) : Calls Tryz.prog 83 #[.int .u32 184549381, .int .i64 7] w fun e w' => e = .returned (.int .i64 1) ∧ w' = w := by
 go_enter Tryz.func83, Tryz.ntmps83
 go_wp2_with fail
 go_ret
 exact ⟨by first | rfl | (simp; done) | kernel_rfl | (simp; kernel_rfl), rfl⟩
set_option maxHeartbeats 1000000 in
theorem bit_184549381_8 (w : World) : Calls Tryz.prog 83 #[.int .u32 184549381, .int .i64 8] w fun e w' => e = .returned (.int .i64 0) ∧ w' = w := by
 go_enter Tryz.func83, Tryz.ntmps83
 go_wp2_with fail
 go_ret
 exact ⟨by first | rfl | (simp; done) | kernel_rfl | (simp; kernel_rfl), rfl⟩
set_option maxHeartbeats 1000000 in
theorem bit_201326597_5 (w : World) : Calls Tryz.prog 83 #[.int .u32 201326597, .int .i64 5] w fun e w' => e = .returned (.int .i64 1) ∧ w' = w := by
 go_enter Tryz.func83, Tryz.ntmps83
 go_wp2_with fail
 go_ret
 exact ⟨by first | rfl | (simp; done) | kernel_rfl | (simp; kernel_rfl), rfl⟩
set_option maxHeartbeats 1000000 in
theorem bit_201326597_8 (w : World) : Calls Tryz.prog 83 #[.int .u32 201326597, .int .i64 8] w fun e w' => e = .returned (.int .i64 0) ∧ w' = w := by
 go_enter Tryz.func83, Tryz.ntmps83
 go_wp2_with fail
 go_ret
 exact ⟨by first | rfl | (simp; done) | kernel_rfl | (simp; kernel_rfl), rfl⟩
set_option maxHeartbeats 1000000 in
theorem len_16777216 (w : World) : Calls Tryz.prog 122 #[.int .u32 16777216] w fun e w' => e = .returned (.int .i64 25) ∧ w' = w := by
 go_enter Tryz.func122, Tryz.ntmps122
 go_wp2_with fail
 go_ret
 exact ⟨by first | rfl | (simp; done) | kernel_rfl | (simp; kernel_rfl), rfl⟩
set_option maxHeartbeats 1000000 in
theorem lead_16777216 (w : World) : Calls Tryz.prog 104 #[.int .u32 16777216] w fun e w' => e = .returned (.int .i64 7) ∧ w' = w := by
 have HL := Lib.hid (len_16777216 w)
 go_enter Tryz.func104, Tryz.ntmps104
 go_wp2_with fail
 with_reducible refine HL.out.mono ?_
 rintro e w1 ⟨rfl, rfl⟩
 go_wp2_with fail
 go_ret
 exact ⟨by first | rfl | (simp; done) | kernel_rfl | (simp; kernel_rfl), rfl⟩
set_option maxHeartbeats 1000000 in
theorem len_100663296 (w : World) : Calls Tryz.prog 122 #[.int .u32 100663296] w fun e w' => e = .returned (.int .i64 27) ∧ w' = w := by
 go_enter Tryz.func122, Tryz.ntmps122
 go_wp2_with fail
 go_ret
 exact ⟨by first | rfl | (simp; done) | kernel_rfl | (simp; kernel_rfl), rfl⟩
set_option maxHeartbeats 1000000 in
theorem lead_100663296 (w : World) : Calls Tryz.prog 104 #[.int .u32 100663296] w fun e w' => e = .returned (.int .i64 5) ∧ w' = w := by
 have HL := Lib.hid (len_100663296 w)
 go_enter Tryz.func104, Tryz.ntmps104
 go_wp2_with fail
 with_reducible refine HL.out.mono ?_
 rintro e w1 ⟨rfl, rfl⟩
 go_wp2_with fail
 go_ret
 exact ⟨by first | rfl | (simp; done) | kernel_rfl | (simp; kernel_rfl), rfl⟩
end
end Go.Proofs.YtgckhdepnmiejaaGreat
namespace Go.Proofs.YtgckhdepnmiejaaGreat
section
set_option maxRecDepth 100000
open Go.RowKit
theorem blk2c {w : World} {B : Nat} {T : TypeId} {a b : Value} (hh : w.heap[B]? = some (.cells #[a, b] T (0, 0))) : w.cell? ⟨B, 0, none⟩ = some a ∧ w.cell? ⟨B, 1, none⟩ = some b := by
 refine ⟨?_, ?_⟩ <;> simp [World.cell?, hh]
set_option maxHeartbeats 2000000 in
theorem may_167772160 (w : World) : Calls Tryz.prog 80 #[.agg #[.int .u32 167772160, .int .i64 8]] w fun e w' => e = .returned (.bool true) ∧ Grow w w' := by
 have HN := Lib.hid (heap_alloc_new w (.cells #[.int .u32 167772160, .int .i64 8] 35))
 have HG : Hid (Grow w (w.alloc (.cells #[.int .u32 167772160, .int .i64 8] 35))) := (Grow.refl w).alloc _
 have hb : bits .andNot .u32 167772160 4278190080 = 0 := by decide +kernel
 go_enter Tryz.func80, Tryz.ntmps80
 go_wp2_with fail
 refine wpRg 18 ?_
 simp only [List.take_succ_cons, List.take_zero, List.drop_succ_cons, List.drop_zero]
 repeat (refine wpHp fun K hK => ?_; go_simp; refine hK _ ?_; clear hK K)
 refine wpHd (.int .i64 8) (fun w' hg => ?_) ?_
 ·obtain ⟨y0, y1⟩ := blk2c ((hg.below.block _ (lt_of_block HN.out)).trans HN.out)
  clear hg
  go_simp
  exact Below.refl _ _
 try go_simp
 repeat (refine wpHp fun K hK => ?_; go_simp; refine hK _ ?_; clear hK K)
 refine wpHd (.int .i64 8) (fun w' hg => ?_) ?_
 ·obtain ⟨y0, y1⟩ := blk2c ((hg.below.block _ (lt_of_block HN.out)).trans HN.out)
  clear hg
  go_simp
  exact Below.refl _ _
 try go_simp
 repeat (refine wpHp fun K hK => ?_; go_simp; refine hK _ ?_; clear hK K)
 refine wpHd (.int .u32 167772160) (fun w' hg => ?_) ?_
 ·obtain ⟨y0, y1⟩ := blk2c ((hg.below.block _ (lt_of_block HN.out)).trans HN.out)
  clear hg
  go_simp
  exact Below.refl _ _
 try go_simp
 repeat (refine wpHp fun K hK => ?_; go_simp; refine hK _ ?_; clear hK K)
 refine wpHd (.int .i64 8) (fun w' hg => ?_) ?_
 ·obtain ⟨y0, y1⟩ := blk2c ((hg.below.block _ (lt_of_block HN.out)).trans HN.out)
  clear hg
  go_simp
  exact Below.refl _ _
 try go_simp
 repeat (refine wpHp fun K hK => ?_; go_simp; refine hK _ ?_; clear hK K)
 refine wpHd (.int .u32 4278190080) (fun w' hg => ?_) ?_
 ·have h := mask_8 w'
  clear hg
  go_simp
  with_reducible refine h.mono ?_
  rintro e w1 ⟨rfl, rfl⟩
  exact ⟨_, rfl, rfl, Below.refl _ _⟩
 try go_simp
 repeat (refine wpHp fun K hK => ?_; go_simp; refine hK _ ?_; clear hK K)
 refine wpH_nil ?_
 intro xs w2 hg hx1 hx2
 have HG2 := Lib.hid (HG.out.trans hg.below)
 clear hg hx1 hx2
 simp only [fill]
 go_simp
 go_wp2_with fail
 refine bodyPost_ret (v := .bool true) (by simp [results, Tryz.results80, go_sem]) rfl ?_
 exact ⟨rfl, HG2.out⟩
set_option maxHeartbeats 2000000 in
theorem may_184549376 (w : World) : Calls Tryz.prog 80 #[.agg #[.int .u32 184549376, .int .i64 8]] w fun e w' => e = .returned (.bool true) ∧ Grow w w' := by
 have HN := Lib.hid (heap_alloc_new w (.cells #[.int .u32 184549376, .int .i64 8] 35))
 have HG : Hid (Grow w (w.alloc (.cells #[.int .u32 184549376, .int .i64 8] 35))) := (Grow.refl w).alloc _
 have hb : bits .andNot .u32 184549376 4278190080 = 0 := by decide +kernel
 go_enter Tryz.func80, Tryz.ntmps80
 go_wp2_with fail
 refine wpRg 18 ?_
 simp only [List.take_succ_cons, List.take_zero, List.drop_succ_cons, List.drop_zero]
 repeat (refine wpHp fun K hK => ?_; go_simp; refine hK _ ?_; clear hK K)
 refine wpHd (.int .i64 8) (fun w' hg => ?_) ?_
 ·obtain ⟨y0, y1⟩ := blk2c ((hg.below.block _ (lt_of_block HN.out)).trans HN.out)
  clear hg
  go_simp
  exact Below.refl _ _
 try go_simp
 repeat (refine wpHp fun K hK => ?_; go_simp; refine hK _ ?_; clear hK K)
 refine wpHd (.int .i64 8) (fun w' hg => ?_) ?_
 ·obtain ⟨y0, y1⟩ := blk2c ((hg.below.block _ (lt_of_block HN.out)).trans HN.out)
  clear hg
  go_simp
  exact Below.refl _ _
 try go_simp
 repeat (refine wpHp fun K hK => ?_; go_simp; refine hK _ ?_; clear hK K)
 refine wpHd (.int .u32 184549376) (fun w' hg => ?_) ?_
 ·obtain ⟨y0, y1⟩ := blk2c ((hg.below.block _ (lt_of_block HN.out)).trans HN.out)
  clear hg
  go_simp
  exact Below.refl _ _
 try go_simp
 repeat (refine wpHp fun K hK => ?_; go_simp; refine hK _ ?_; clear hK K)
 refine wpHd (.int .i64 8) (fun w' hg => ?_) ?_
 ·obtain ⟨y0, y1⟩ := blk2c ((hg.below.block _ (lt_of_block HN.out)).trans HN.out)
  clear hg
  go_simp
  exact Below.refl _ _
 try go_simp
 repeat (refine wpHp fun K hK => ?_; go_simp; refine hK _ ?_; clear hK K)
 refine wpHd (.int .u32 4278190080) (fun w' hg => ?_) ?_
 ·have h := mask_8 w'
  clear hg
  go_simp
  with_reducible refine h.mono ?_
  rintro e w1 ⟨rfl, rfl⟩
  exact ⟨_, rfl, rfl, Below.refl _ _⟩
 try go_simp
 repeat (refine wpHp fun K hK => ?_; go_simp; refine hK _ ?_; clear hK K)
 refine wpH_nil ?_
 intro xs w2 hg hx1 hx2
 have HG2 := Lib.hid (HG.out.trans hg.below)
 clear hg hx1 hx2
 simp only [fill]
 go_simp
 go_wp2_with fail
 refine bodyPost_ret (v := .bool true) (by simp [results, Tryz.results80, go_sem]) rfl ?_
 exact ⟨rfl, HG2.out⟩
set_option maxHeartbeats 2000000 in
theorem may_201326592 (w : World) : Calls Tryz.prog 80 #[.agg #[.int .u32 201326592, .int .i64 8]] w fun e w' => e = .returned (.bool true) ∧ Grow w w' := by
 have HN := Lib.hid (heap_alloc_new w (.cells #[.int .u32 201326592, .int .i64 8] 35))
 have HG : Hid (Grow w (w.alloc (.cells #[.int .u32 201326592, .int .i64 8] 35))) := (Grow.refl w).alloc _
 have hb : bits .andNot .u32 201326592 4278190080 = 0 := by decide +kernel
 go_enter Tryz.func80, Tryz.ntmps80
 go_wp2_with fail
 refine wpRg 18 ?_
 simp only [List.take_succ_cons, List.take_zero, List.drop_succ_cons, List.drop_zero]
 repeat (refine wpHp fun K hK => ?_; go_simp; refine hK _ ?_; clear hK K)
 refine wpHd (.int .i64 8) (fun w' hg => ?_) ?_
 ·obtain ⟨y0, y1⟩ := blk2c ((hg.below.block _ (lt_of_block HN.out)).trans HN.out)
  clear hg
  go_simp
  exact Below.refl _ _
 try go_simp
 repeat (refine wpHp fun K hK => ?_; go_simp; refine hK _ ?_; clear hK K)
 refine wpHd (.int .i64 8) (fun w' hg => ?_) ?_
 ·obtain ⟨y0, y1⟩ := blk2c ((hg.below.block _ (lt_of_block HN.out)).trans HN.out)
  clear hg
  go_simp
  exact Below.refl _ _
 try go_simp
 repeat (refine wpHp fun K hK => ?_; go_simp; refine hK _ ?_; clear hK K)
 refine wpHd (.int .u32 201326592) (fun w' hg => ?_) ?_
 ·obtain ⟨y0, y1⟩ := blk2c ((hg.below.block _ (lt_of_block HN.out)).trans HN.out)
  clear hg
  go_simp
  exact Below.refl _ _
 try go_simp
 repeat (refine wpHp fun K hK => ?_; go_simp; refine hK _ ?_; clear hK K)
 refine wpHd (.int .i64 8) (fun w' hg => ?_) ?_
 ·obtain ⟨y0, y1⟩ := blk2c ((hg.below.block _ (lt_of_block HN.out)).trans HN.out)
  clear hg
  go_simp
  exact Below.refl _ _
 try go_simp
 repeat (refine wpHp fun K hK => ?_; go_simp; refine hK _ ?_; clear hK K)
 refine wpHd (.int .u32 4278190080) (fun w' hg => ?_) ?_
 ·have h := mask_8 w'
  clear hg
  go_simp
  with_reducible refine h.mono ?_
  rintro e w1 ⟨rfl, rfl⟩
  exact ⟨_, rfl, rfl, Below.refl _ _⟩
 try go_simp
 repeat (refine wpHp fun K hK => ?_; go_simp; refine hK _ ?_; clear hK K)
 refine wpH_nil ?_
 intro xs w2 hg hx1 hx2
 have HG2 := Lib.hid (HG.out.trans hg.below)
 clear hg hx1 hx2
 simp only [fill]
 go_simp
 go_wp2_with fail
 refine bodyPost_ret (v := .bool true) (by simp [results, Tryz.results80, go_sem]) rfl ?_
 exact ⟨rfl, HG2.out⟩
set_option maxHeartbeats 2000000 in
theorem common_167772160_184549376 (w : World) : Calls Tryz.prog 82 #[.agg #[.int .u32 167772160, .int .i64 8], .agg #[.int .u32 184549376, .int .i64 8]] w fun e w' => e = .returned (.agg #[.int .u32 167772160, .int .i64 7]) ∧ Grow w w' := by
 obtain ⟨w1, hw1⟩ : ∃ x, ((w.alloc (.cells #[.int .u32 167772160, .int .i64 8] 35)).alloc (.cells #[.int .u32 184549376, .int .i64 8] 35)).alloc (.cells #[.int .u32 0, .int .i64 0] 35) = x := ⟨_, rfl⟩
 have s1 : (w.alloc (.cells #[.int .u32 167772160, .int .i64 8] 35)).heap.size = w.heap.size + 1 := World.size_alloc _ _
 have s2 : ((w.alloc (.cells #[.int .u32 167772160, .int .i64 8] 35)).alloc (.cells #[.int .u32 184549376, .int .i64 8] 35)).heap.size = w.heap.size + 1 + 1 := by rw [World.size_alloc, s1]
 have hA : (((w.alloc (.cells #[.int .u32 167772160, .int .i64 8] 35)).alloc (.cells #[.int .u32 184549376, .int .i64 8] 35)).alloc (.cells #[.int .u32 0, .int .i64 0] 35)).heap[w.heap.size]? = some (.cells #[.int .u32 167772160, .int .i64 8] 35 (0, 0)) := (Below.heap_alloc _ _ _ (by rw [s2]; omega)).trans ((Below.heap_alloc _ _ _ (by rw [s1]; omega)).trans (heap_alloc_new w _))
 have hB := heap_alloc_new (w.alloc (.cells #[.int .u32 167772160, .int .i64 8] 35)) (.cells #[.int .u32 184549376, .int .i64 8] 35)
 rw [s1] at hB
 have hB' : (((w.alloc (.cells #[.int .u32 167772160, .int .i64 8] 35)).alloc (.cells #[.int .u32 184549376, .int .i64 8] 35)).alloc (.cells #[.int .u32 0, .int .i64 0] 35)).heap[w.heap.size + 1]? = some (.cells #[.int .u32 184549376, .int .i64 8] 35 (0, 0)) := (Below.heap_alloc _ _ _ (by rw [s2]; omega)).trans hB
 have hC := heap_alloc_new ((w.alloc (.cells #[.int .u32 167772160, .int .i64 8] 35)).alloc (.cells #[.int .u32 184549376, .int .i64 8] 35)) (.cells #[.int .u32 0, .int .i64 0] 35)
 rw [s2] at hC
 have hG : Grow w (((w.alloc (.cells #[.int .u32 167772160, .int .i64 8] 35)).alloc (.cells #[.int .u32 184549376, .int .i64 8] 35)).alloc (.cells #[.int .u32 0, .int .i64 0] 35)) := (((Grow.refl w).alloc _).alloc _).alloc _
 rw [hw1] at hA hB' hC hG
 have HA := Lib.hid hA
 have HB := Lib.hid hB'
 have HC := Lib.hid hC
 have HG := Lib.hid hG
 clear hA hB hB' hC hG s1 s2
 have hx : bits .xor .u32 167772160 184549376 = 16777216 := by decide +kernel
 have hy : bits .and .u32 167772160 4261412864 = 167772160 := by decide +kernel
 go_enter Tryz.func82, Tryz.ntmps82
 go_wp2_with fail
 clear hw1
 refine wpRg 12 ?_
 simp only [List.take_succ_cons, List.take_zero, List.drop_succ_cons, List.drop_zero]
 repeat (refine wpHp fun K hK => ?_; go_simp; refine hK _ ?_; clear hK K)
 refine wpHd (.int .i64 8) (fun w' hg => ?_) ?_
 ·obtain ⟨y0, y1⟩ := blk2c ((hg.below.block _ (lt_of_block HA.out)).trans HA.out)
  clear hg
  go_simp
  exact Below.refl _ _
 try go_simp
 repeat (refine wpHp fun K hK => ?_; go_simp; refine hK _ ?_; clear hK K)
 refine wpHd (.int .i64 8) (fun w' hg => ?_) ?_
 ·obtain ⟨y0, y1⟩ := blk2c ((hg.below.block _ (lt_of_block HB.out)).trans HB.out)
  clear hg
  go_simp
  exact Below.refl _ _
 try go_simp
 repeat (refine wpHp fun K hK => ?_; go_simp; refine hK _ ?_; clear hK K)
 refine wpHd (.int .u32 167772160) (fun w' hg => ?_) ?_
 ·obtain ⟨y0, y1⟩ := blk2c ((hg.below.block _ (lt_of_block HA.out)).trans HA.out)
  clear hg
  go_simp
  exact Below.refl _ _
 try go_simp
 repeat (refine wpHp fun K hK => ?_; go_simp; refine hK _ ?_; clear hK K)
 refine wpHd (.int .u32 184549376) (fun w' hg => ?_) ?_
 ·obtain ⟨y0, y1⟩ := blk2c ((hg.below.block _ (lt_of_block HB.out)).trans HB.out)
  clear hg
  go_simp
  exact Below.refl _ _
 try go_simp
 repeat (refine wpHp fun K hK => ?_; go_simp; refine hK _ ?_; clear hK K)
 refine wpHd (.int .i64 7) (fun w' hg => ?_) ?_
 ·have h := lead_16777216 w'
  clear hg
  go_simp
  with_reducible refine h.mono ?_
  rintro e w1 ⟨rfl, rfl⟩
  exact ⟨_, rfl, rfl, Below.refl _ _⟩
 try go_simp
 repeat (refine wpHp fun K hK => ?_; go_simp; refine hK _ ?_; clear hK K)
 refine wpH_nil ?_
 intro xs w2 hg hx1 hx2
 have HG2 := Lib.hid (HG.out.trans hg.below)
 have HA2 := Lib.hid ((hg.below.block _ (lt_of_block HA.out)).trans HA.out)
 have HC2 := Lib.hid ((hg.below.block _ (lt_of_block HC.out)).trans HC.out)
 clear hg hx1 hx2 HA HB HC HG
 simp only [fill]
 go_simp
 go_wp2_with fail
 refine wpRg 7 ?_
 simp only [List.take_succ_cons, List.take_zero, List.drop_succ_cons, List.drop_zero]
 repeat (refine wpHp fun K hK => ?_; go_simp; refine hK _ ?_; clear hK K)
 refine wpHd (.int .u32 167772160) (fun w' hg => ?_) ?_
 ·obtain ⟨y0, y1⟩ := blk2c ((hg.below.block _ (lt_of_block HA2.out)).trans HA2.out)
  clear hg
  go_simp
  exact Below.refl _ _
 try go_simp
 repeat (refine wpHp fun K hK => ?_; go_simp; refine hK _ ?_; clear hK K)
 refine wpHd (.int .u32 4261412864) (fun w' hg => ?_) ?_
 ·have h := mask_7 w'
  clear hg
  go_simp
  with_reducible refine h.mono ?_
  rintro e w1 ⟨rfl, rfl⟩
  exact ⟨_, rfl, rfl, Below.refl _ _⟩
 try go_simp
 repeat (refine wpHp fun K hK => ?_; go_simp; refine hK _ ?_; clear hK K)
 refine wpH_nil ?_
 intro xs w3 hg hx1 hx2
 have HG3 := Lib.hid (HG2.out.trans hg.below)
 have HC3 := Lib.hid ((hg.below.block _ (lt_of_block HC2.out)).trans HC2.out)
 clear hg hx1 hx2 HA2 HC2 HG2
 simp only [fill]
 obtain ⟨n0, n1⟩ := blk2c HC3.out
 have z0 : w3.frozen? ⟨w.heap.size + 1 + 1, 0, none⟩ = false := by simp [World.frozen?, HC3.out]
 have z1 : w3.frozen? ⟨w.heap.size + 1 + 1, 1, none⟩ = false := by simp [World.frozen?, HC3.out]
 go_simp
 go_wp2_with fail
 refine bodyPost_ret (v := .agg #[.int .u32 167772160, .int .i64 7]) (by simp [results, Tryz.results82, go_sem, n0, n1]) rfl ?_
 exact ⟨rfl, (HG3.out.setCell (by show w.heap.size ≤ w.heap.size + 1 + 1; omega) _).setCell (by show w.heap.size ≤ w.heap.size + 1 + 1; omega) _⟩
set_option maxHeartbeats 2000000 in
theorem common_167772160_201326592 (w : World) : Calls Tryz.prog 82 #[.agg #[.int .u32 167772160, .int .i64 7], .agg #[.int .u32 201326592, .int .i64 8]] w fun e w' => e = .returned (.agg #[.int .u32 134217728, .int .i64 5]) ∧ Grow w w' := by
 obtain ⟨w1, hw1⟩ : ∃ x, ((w.alloc (.cells #[.int .u32 167772160, .int .i64 7] 35)).alloc (.cells #[.int .u32 201326592, .int .i64 8] 35)).alloc (.cells #[.int .u32 0, .int .i64 0] 35) = x := ⟨_, rfl⟩
 have s1 : (w.alloc (.cells #[.int .u32 167772160, .int .i64 7] 35)).heap.size = w.heap.size + 1 := World.size_alloc _ _
 have s2 : ((w.alloc (.cells #[.int .u32 167772160, .int .i64 7] 35)).alloc (.cells #[.int .u32 201326592, .int .i64 8] 35)).heap.size = w.heap.size + 1 + 1 := by rw [World.size_alloc, s1]
 have hA : (((w.alloc (.cells #[.int .u32 167772160, .int .i64 7] 35)).alloc (.cells #[.int .u32 201326592, .int .i64 8] 35)).alloc (.cells #[.int .u32 0, .int .i64 0] 35)).heap[w.heap.size]? = some (.cells #[.int .u32 167772160, .int .i64 7] 35 (0, 0)) := (Below.heap_alloc _ _ _ (by rw [s2]; omega)).trans ((Below.heap_alloc _ _ _ (by rw [s1]; omega)).trans (heap_alloc_new w _))
 have hB := heap_alloc_new (w.alloc (.cells #[.int .u32 167772160, .int .i64 7] 35)) (.cells #[.int .u32 201326592, .int .i64 8] 35)
 rw [s1] at hB
 have hB' : (((w.alloc (.cells #[.int .u32 167772160, .int .i64 7] 35)).alloc (.cells #[.int .u32 201326592, .int .i64 8] 35)).alloc (.cells #[.int .u32 0, .int .i64 0] 35)).heap[w.heap.size + 1]? = some (.cells #[.int .u32 201326592, .int .i64 8] 35 (0, 0)) := (Below.heap_alloc _ _ _ (by rw [s2]; omega)).trans hB
 have hC := heap_alloc_new ((w.alloc (.cells #[.int .u32 167772160, .int .i64 7] 35)).alloc (.cells #[.int .u32 201326592, .int .i64 8] 35)) (.cells #[.int .u32 0, .int .i64 0] 35)
 rw [s2] at hC
 have hG : Grow w (((w.alloc (.cells #[.int .u32 167772160, .int .i64 7] 35)).alloc (.cells #[.int .u32 201326592, .int .i64 8] 35)).alloc (.cells #[.int .u32 0, .int .i64 0] 35)) := (((Grow.refl w).alloc _).alloc _).alloc _
 rw [hw1] at hA hB' hC hG
 have HA := Lib.hid hA
 have HB := Lib.hid hB'
 have HC := Lib.hid hC
 have HG := Lib.hid hG
 clear hA hB hB' hC hG s1 s2
 have hx : bits .xor .u32 167772160 201326592 = 100663296 := by decide +kernel
 have hy : bits .and .u32 167772160 4160749568 = 134217728 := by decide +kernel
 go_enter Tryz.func82, Tryz.ntmps82
 go_wp2_with fail
 clear hw1
 refine wpRg 12 ?_
 simp only [List.take_succ_cons, List.take_zero, List.drop_succ_cons, List.drop_zero]
 repeat (refine wpHp fun K hK => ?_; go_simp; refine hK _ ?_; clear hK K)
 refine wpHd (.int .i64 7) (fun w' hg => ?_) ?_
 ·obtain ⟨y0, y1⟩ := blk2c ((hg.below.block _ (lt_of_block HA.out)).trans HA.out)
  clear hg
  go_simp
  exact Below.refl _ _
 try go_simp
 repeat (refine wpHp fun K hK => ?_; go_simp; refine hK _ ?_; clear hK K)
 refine wpHd (.int .i64 8) (fun w' hg => ?_) ?_
 ·obtain ⟨y0, y1⟩ := blk2c ((hg.below.block _ (lt_of_block HB.out)).trans HB.out)
  clear hg
  go_simp
  exact Below.refl _ _
 try go_simp
 repeat (refine wpHp fun K hK => ?_; go_simp; refine hK _ ?_; clear hK K)
 refine wpHd (.int .u32 167772160) (fun w' hg => ?_) ?_
 ·obtain ⟨y0, y1⟩ := blk2c ((hg.below.block _ (lt_of_block HA.out)).trans HA.out)
  clear hg
  go_simp
  exact Below.refl _ _
 try go_simp
 repeat (refine wpHp fun K hK => ?_; go_simp; refine hK _ ?_; clear hK K)
 refine wpHd (.int .u32 201326592) (fun w' hg => ?_) ?_
 ·obtain ⟨y0, y1⟩ := blk2c ((hg.below.block _ (lt_of_block HB.out)).trans HB.out)
  clear hg
  go_simp
  exact Below.refl _ _
 try go_simp
 repeat (refine wpHp fun K hK => ?_; go_simp; refine hK _ ?_; clear hK K)
 refine wpHd (.int .i64 5) (fun w' hg => ?_) ?_
 ·have h := lead_100663296 w'
  clear hg
  go_simp
  with_reducible refine h.mono ?_
  rintro e w1 ⟨rfl, rfl⟩
  exact ⟨_, rfl, rfl, Below.refl _ _⟩
 try go_simp
 repeat (refine wpHp fun K hK => ?_; go_simp; refine hK _ ?_; clear hK K)
 refine wpH_nil ?_
 intro xs w2 hg hx1 hx2
 have HG2 := Lib.hid (HG.out.trans hg.below)
 have HA2 := Lib.hid ((hg.below.block _ (lt_of_block HA.out)).trans HA.out)
 have HC2 := Lib.hid ((hg.below.block _ (lt_of_block HC.out)).trans HC.out)
 clear hg hx1 hx2 HA HB HC HG
 simp only [fill]
 go_simp
 go_wp2_with fail
 refine wpRg 7 ?_
 simp only [List.take_succ_cons, List.take_zero, List.drop_succ_cons, List.drop_zero]
 repeat (refine wpHp fun K hK => ?_; go_simp; refine hK _ ?_; clear hK K)
 refine wpHd (.int .u32 167772160) (fun w' hg => ?_) ?_
 ·obtain ⟨y0, y1⟩ := blk2c ((hg.below.block _ (lt_of_block HA2.out)).trans HA2.out)
  clear hg
  go_simp
  exact Below.refl _ _
 try go_simp
 repeat (refine wpHp fun K hK => ?_; go_simp; refine hK _ ?_; clear hK K)
 refine wpHd (.int .u32 4160749568) (fun w' hg => ?_) ?_
 ·have h := mask_5 w'
  clear hg
  go_simp
  with_reducible refine h.mono ?_
  rintro e w1 ⟨rfl, rfl⟩
  exact ⟨_, rfl, rfl, Below.refl _ _⟩
 try go_simp
 repeat (refine wpHp fun K hK => ?_; go_simp; refine hK _ ?_; clear hK K)
 refine wpH_nil ?_
 intro xs w3 hg hx1 hx2
 have HG3 := Lib.hid (HG2.out.trans hg.below)
 have HC3 := Lib.hid ((hg.below.block _ (lt_of_block HC2.out)).trans HC2.out)
 clear hg hx1 hx2 HA2 HC2 HG2
 simp only [fill]
 obtain ⟨n0, n1⟩ := blk2c HC3.out
 have z0 : w3.frozen? ⟨w.heap.size + 1 + 1, 0, none⟩ = false := by simp [World.frozen?, HC3.out]
 have z1 : w3.frozen? ⟨w.heap.size + 1 + 1, 1, none⟩ = false := by simp [World.frozen?, HC3.out]
 go_simp
 go_wp2_with fail
 refine bodyPost_ret (v := .agg #[.int .u32 134217728, .int .i64 5]) (by simp [results, Tryz.results82, go_sem, n0, n1]) rfl ?_
 exact ⟨rfl, (HG3.out.setCell (by show w.heap.size ≤ w.heap.size + 1 + 1; omega) _).setCell (by show w.heap.size ≤ w.heap.size + 1 + 1; omega) _⟩
end
end Go.Proofs.YtgckhdepnmiejaaGreat
namespace Go.Proofs.YtgckhdepnmiejaaGreat
section
set_option maxRecDepth 100000
open Go.RowKit
theorem blk4 {w : World} {B : Nat} {T : TypeId} {a b c d : Value} (hh : w.heap[B]? = some (.cells #[a, b, c, d] T (0, 0))) :
  (w.cell? ⟨B, 0, none⟩ = some a ∧ w.cell? ⟨B, 1, none⟩ = some b ∧ w.cell? ⟨B, 2, none⟩ = some c ∧ w.cell? ⟨B, 3, none⟩ = some d) ∧ (∀ i, w.frozen? ⟨B, i, none⟩ = false) := by
 refine ⟨⟨?_, ?_, ?_, ?_⟩, fun i => ?_⟩ <;> simp [World.cell?, World.frozen?, hh]
def TrieAtB (w : World) (T : Nat) (root : Value) (limit n : Int) : Prop := w.heap[T]? = some (.cells #[root, .int .i64 limit, .int .i64 n, .bool true] 221 (0, 0))
set_option maxHeartbeats 1000000 in
theorem thereB {w : World} {T : Nat} {root : Value} {limit n : Int} (h : TrieAtB w T root limit n) : Calls Tryz.prog 115 #[.pointer (some ⟨T, 0, none⟩)] w fun e w' => e = .returned (.bool true) ∧ w' = w := by
 obtain ⟨⟨c0, c1, c2, c3⟩, _⟩ := blk4 h
 clear h
 go_enter Tryz.func115, Tryz.ntmps115
 go_wp2_with fail
 go_ret
 exact ⟨by first | rfl | simp, rfl⟩
set_option maxHeartbeats 1000000 in
theorem newB (n : Nat) (w : World) (hn : n ≤ 1000) : Calls Tryz.prog 99 #[.int .i64 n] w fun e w' => ∃ T, e = .returned (.pointer (some ⟨T, 0, none⟩)) ∧ TrieAtB w' T (.pointer none) n 0 ∧ w.heap.size ≤ T ∧ Grow w w' := by
 have HN := Lib.hid (heap_alloc_new w (.cells #[.pointer none, .int .i64 n, .int .i64 0, .bool true] 221))
 have HG : Hid (Grow w (w.alloc (.cells #[.pointer none, .int .i64 n, .int .i64 0, .bool true] 221))) := (Grow.refl w).alloc _
 have h0 : ¬ ((n : Int) < 0) := by omega
 have h1 : (if (0 : Int) < (n : Int) then (n : Int) else 0) = (n : Int) := by split <;> omega
 have h2 : (if (n : Int) < 0 then 0 else (n : Int)) = (n : Int) := by split <;> omega
 have h3 : (if (n : Int) = 0 then 0 else (n : Int)) = (n : Int) := by split <;> omega
 have h4 : (if 0 < n then (n : Int) else 0) = (n : Int) := by split <;> omega
 go_enter Tryz.func99, Tryz.ntmps99
 go_wp2_with fail
 refine bodyPost_ret (v := .pointer (some ⟨w.heap.size, 0, none⟩)) (by simp [results, Tryz.results99, go_sem]) rfl ?_
 exact ⟨_, rfl, HN.out, Nat.le_refl _, HG.out⟩
set_option maxHeartbeats 2000000 in
theorem place0B {w : World} {T : Nat} {limit n a l : Int} (h : TrieAtB w T (.pointer none) limit n) : Calls Tryz.prog 116 #[.pointer (some ⟨T, 0, none⟩), .agg #[.int .u32 a, .int .i64 l]] w fun e w' => e = .returned (.pointer (some ⟨T, 0, none⟩)) ∧ Grow w w' := by
 have HG : Hid (Grow w (w.alloc (.cells #[.int .u32 a, .int .i64 l] 35))) := (Grow.refl w).alloc _
 obtain ⟨⟨c0, c1, c2, c3⟩, _⟩ := blk4 ((HG.out.block _ (lt_of_block h)).trans h)
 clear h
 go_enter Tryz.func116, Tryz.ntmps116
 go_wp2_with fail
 refine wp_scope_straight ?_
 go_wp2_with fail
 refine wp_label ?_
 go_wp2_with fail
 refine wp_loop_rounds 1 ?_
 rw [rounds_succ]
 go_wp2_with fail
 rename_i Q1 _ _ _
 simp only [Exit.noGoto]
 go_ret
 exact ⟨by first | rfl | simp, HG.out⟩
def TrieAtW (w : World) (T : Nat) (root : Value) (limit n : Int) : Prop := w.heap[T]? = some (.cells #[root, .int .i64 limit, .int .i64 n, .bool true] 159 (0, 0))
set_option maxHeartbeats 1000000 in
theorem thereW {w : World} {T : Nat} {root : Value} {limit n : Int} (h : TrieAtW w T root limit n) : Calls Tryz.prog 79 #[.pointer (some ⟨T, 0, none⟩)] w fun e w' => e = .returned (.bool true) ∧ w' = w := by
 obtain ⟨⟨c0, c1, c2, c3⟩, _⟩ := blk4 h
 clear h
 go_enter Tryz.func79, Tryz.ntmps79
 go_wp2_with fail
 go_ret
 exact ⟨by first | rfl | simp, rfl⟩
set_option maxHeartbeats 1000000 in
theorem newW (n : Nat) (w : World) (hn : n ≤ 1000) : Calls Tryz.prog 54 #[.int .i64 n] w fun e w' => ∃ T, e = .returned (.pointer (some ⟨T, 0, none⟩)) ∧ TrieAtW w' T (.pointer none) n 0 ∧ w.heap.size ≤ T ∧ Grow w w' := by
 have HN := Lib.hid (heap_alloc_new w (.cells #[.pointer none, .int .i64 n, .int .i64 0, .bool true] 159))
 have HG : Hid (Grow w (w.alloc (.cells #[.pointer none, .int .i64 n, .int .i64 0, .bool true] 159))) := (Grow.refl w).alloc _
 have h0 : ¬ ((n : Int) < 0) := by omega
 have h1 : (if (0 : Int) < (n : Int) then (n : Int) else 0) = (n : Int) := by split <;> omega
 have h2 : (if (n : Int) < 0 then 0 else (n : Int)) = (n : Int) := by split <;> omega
 have h3 : (if (n : Int) = 0 then 0 else (n : Int)) = (n : Int) := by split <;> omega
 have h4 : (if 0 < n then (n : Int) else 0) = (n : Int) := by split <;> omega
 go_enter Tryz.func54, Tryz.ntmps54
 go_wp2_with fail
 refine bodyPost_ret (v := .pointer (some ⟨w.heap.size, 0, none⟩)) (by simp [results, Tryz.results54, go_sem]) rfl ?_
 exact ⟨_, rfl, HN.out, Nat.le_refl _, HG.out⟩
set_option maxHeartbeats 2000000 in
theorem place0W {w : World} {T : Nat} {limit n a l : Int} (h : TrieAtW w T (.pointer none) limit n) : Calls Tryz.prog 81 #[.pointer (some ⟨T, 0, none⟩), .agg #[.int .u32 a, .int .i64 l]] w fun e w' => e = .returned (.pointer (some ⟨T, 0, none⟩)) ∧ Grow w w' := by
 have HG : Hid (Grow w (w.alloc (.cells #[.int .u32 a, .int .i64 l] 35))) := (Grow.refl w).alloc _
 obtain ⟨⟨c0, c1, c2, c3⟩, _⟩ := blk4 ((HG.out.block _ (lt_of_block h)).trans h)
 clear h
 go_enter Tryz.func81, Tryz.ntmps81
 go_wp2_with fail
 refine wp_scope_straight ?_
 go_wp2_with fail
 refine wp_label ?_
 go_wp2_with fail
 refine wp_loop_rounds 1 ?_
 rw [rounds_succ]
 go_wp2_with fail
 rename_i Q1 _ _ _
 simp only [Exit.noGoto]
 go_ret
 exact ⟨by first | rfl | simp, HG.out⟩
end
end Go.Proofs.YtgckhdepnmiejaaGreat
namespace Go.Proofs.YtgckhdepnmiejaaGreat
section
set_option maxRecDepth 100000
open Go.RowKit
set_option maxHeartbeats 4000000 in
theorem insertB {w : World} {T : Nat} {a : Int} (h : TrieAtB w T (.pointer none) 1 0) (hm : ∀ x : World, Calls Tryz.prog 80 #[.agg #[.int .u32 a, .int .i64 8]] x fun e w' => e = .returned (.bool true) ∧ Grow x w') :
  Calls Tryz.prog 100 #[.pointer (some ⟨T, 0, none⟩), .agg #[.int .u32 a, .int .i64 8], .bool true] w fun e w' => e = .returned (.int .i64 0) ∧ (∃ n, w'.heap[T]? = some n) ∧ GrowBut (Only T) w w' := by
 have HM := Lib.hid hm
 have HT : Hid (w.heap[T]? = some (.cells #[.pointer none, .int .i64 1, .int .i64 0, .bool true] 221 (0, 0))) := h
 have HN := Lib.hid (heap_alloc_new w (.cells #[.int .u32 a, .int .i64 8] 35))
 have HG : Hid (Grow w (w.alloc (.cells #[.int .u32 a, .int .i64 8] 35))) := (Grow.refl w).alloc _
 have HT0 := Lib.hid ((HG.out.block _ (lt_of_block HT.out)).trans HT.out)
 clear h hm
 go_enter Tryz.func100, Tryz.ntmps100
 go_wp2_with fail
 have hq := thereB (root := .pointer none) (limit := 1) (n := 0) HT0.out
 with_reducible refine hq.mono ?_
 clear hq
 rintro e w1 ⟨rfl, rfl⟩
 go_wp2_with fail
 with_reducible refine (HM.out _).mono ?_
 rintro e w1 ⟨rfl, hg⟩
 have HT1 := Lib.hid ((hg.block _ (lt_of_block HT0.out)).trans HT0.out)
 have hn1 := (hg.block _ (lt_of_block HN.out)).trans HN.out
 have HN1 := Lib.hid hn1
 have HG1 := Lib.hid (HG.out.trans hg)
 obtain ⟨d0, d1⟩ := blk2c hn1
 clear hg HT0 HG HN hn1 HM
 go_wp2_with fail
 have hq := place0B (a := a) (l := 8) (limit := 1) (n := 0) HT1.out
 with_reducible refine hq.mono ?_
 clear hq
 rintro e w2 ⟨rfl, hg⟩
 have HT2 := Lib.hid ((hg.block _ (lt_of_block HT1.out)).trans HT1.out)
 have HN2 := Lib.hid ((hg.block _ (lt_of_block HN1.out)).trans HN1.out)
 have HG2 := Lib.hid (HG1.out.trans hg)
 obtain ⟨⟨c0, c1, c2, c3⟩, _⟩ := blk4 HT2.out
 clear hg HT1 HN1 HG1 d0 d1
 go_wp2_with fail
 clear c0 c1 c2 c3
 refine wpRg 16 ?_
 simp only [List.take_succ_cons, List.take_zero, List.drop_succ_cons, List.drop_zero]
 repeat (refine wpHp fun K hK => ?_; go_simp; refine hK _ ?_; clear hK K)
 refine wpH_nil ?_
 intro xs w3 hg hx1 hx2
 have HT3 := Lib.hid ((hg.below.block _ (lt_of_block HT2.out)).trans HT2.out)
 have HN3 := Lib.hid ((hg.below.block _ (lt_of_block HN2.out)).trans HN2.out)
 have HG3 := Lib.hid (HG2.out.trans hg.below)
 clear hg hx1 hx2
 simp only [fill]
 go_simp
 go_wp2_with fail
 refine wpRg 9 ?_
 simp only [List.take_succ_cons, List.take_zero, List.drop_succ_cons, List.drop_zero]
 repeat (refine wpHp fun K hK => ?_; go_simp; refine hK _ ?_; clear hK K)
 refine wpHd (.int .i64 0) (fun w' hg => ?_) ?_
 ·obtain ⟨⟨y0, y1, y2, y3⟩, _⟩ := blk4 ((hg.below.block _ (lt_of_block HT3.out)).trans HT3.out)
  clear hg
  go_simp
  exact Below.refl _ _
 try go_simp
 repeat (refine wpHp fun K hK => ?_; go_simp; refine hK _ ?_; clear hK K)
 refine wpHd (.int .i64 1) (fun w' hg => ?_) ?_
 ·obtain ⟨⟨y0, y1, y2, y3⟩, _⟩ := blk4 ((hg.below.block _ (lt_of_block HT3.out)).trans HT3.out)
  clear hg
  go_simp
  exact Below.refl _ _
 try go_simp
 repeat (refine wpHp fun K hK => ?_; go_simp; refine hK _ ?_; clear hK K)
 refine wpH_nil ?_
 intro xs w4 hg hx1 hx2
 have HT4 := Lib.hid ((hg.below.block _ (lt_of_block HT3.out)).trans HT3.out)
 have HN4 := Lib.hid ((hg.below.block _ (lt_of_block HN3.out)).trans HN3.out)
 have HG4 := Lib.hid (HG3.out.trans hg.below)
 clear hg hx1 hx2
 simp only [fill]
 go_simp
 obtain ⟨⟨c0, c1, c2, c3⟩, cz⟩ := blk4 HT4.out
 have cz2 := cz 2
 have HLT : Hid (T < w.heap.size) := lt_of_block HT.out
 go_wp2_with fail
 generalize hw5 : w4.setCell ⟨T, 2, none⟩ (.int .i64 1) = w5
 have HT5 : Hid (w5.heap[T]? = some (.cells #[.pointer none, .int .i64 1, .int .i64 1, .bool true] 221 (0, 0))) := by rw [← hw5]; exact heap_setCell_same _ _ 2 _ _ _ HT4.out
 have HN5 : Hid (w5.heap[w.heap.size]? = some (.cells #[.int .u32 a, .int .i64 8] 35 (0, 0))) := by rw [← hw5]; exact (Below.heap_setCell _ _ _ _ (show w.heap.size ≠ T by have := HLT.out; omega)).trans HN4.out
 have HG5 : Hid (GrowBut (Only T) w w5) := by rw [← hw5]; exact (only_of HG4.out).trans (only_set _)
 clear hw5 c0 c1 c2 c3 cz cz2 HT4 HN4 HG4 HT2 HT3 HN2 HN3 HG2 HG3
 refine wpRg 10 ?_
 simp only [List.take_succ_cons, List.take_zero, List.drop_succ_cons, List.drop_zero]
 repeat (refine wpHp fun K hK => ?_; go_simp; refine hK _ ?_; clear hK K)
 refine wpH_nil ?_
 intro xs w6 hg hx1 hx2
 have HT6 := Lib.hid ((hg.below.block _ (lt_of_block HT5.out)).trans HT5.out)
 have HN6 := Lib.hid ((hg.below.block _ (lt_of_block HN5.out)).trans HN5.out)
 have HG6 : Hid (GrowBut (Only T) w w6) := HG5.out.trans (GrowBut.of_below hg.below)
 clear hg hx1 hx2
 simp only [fill]
 go_simp
 obtain ⟨d0, d1⟩ := blk2c HN6.out
 have HLT6 : Hid (T < w6.heap.size) := lt_of_block HT6.out
 obtain ⟨nd, hnd⟩ : ∃ x, x = Obj.cells #[.int .u32 a, .int .i64 8, .bool true, .bool true, .pointer none, .pointer none] 226 := ⟨_, rfl⟩
 have ht := (Below.heap_alloc w6 nd T HLT6.out).trans HT6.out
 rw [hnd] at ht
 obtain ⟨⟨c0, c1, c2, c3⟩, cz⟩ := blk4 ht
 have cz0 := cz 0
 have HT7 := Lib.hid ht
 clear hnd ht cz
 go_wp2_with fail
 go_ret
 exact ⟨by first | rfl | simp, ⟨_, heap_setCell_same _ _ 0 _ _ _ HT7.out⟩, (HG6.out.trans (only_of ((Grow.refl _).alloc _))).trans (only_set _)⟩
set_option maxHeartbeats 1000000 in
theorem weight_one {port dist : Int} (w : World) (hd : dist = 1 ∨ dist = 3) : Calls Tryz.prog 117 #[.agg #[.int .i64 port, .int .i64 dist]] w fun e w' => e = .returned (.int .i64 (65536 / (dist + 1))) ∧ Grow w w' := by
 have HG : Hid (Grow w (w.alloc (.cells #[.int .i64 port, .int .i64 dist] 37))) := (Grow.refl w).alloc _
 rcases hd with rfl | rfl
 ·go_enter Tryz.func117, Tryz.ntmps117
  go_wp2_with fail
  go_ret
  exact ⟨by first | rfl | (simp; done) | kernel_rfl | (simp; kernel_rfl), HG.out⟩
 ·go_enter Tryz.func117, Tryz.ntmps117
  go_wp2_with fail
  go_ret
  exact ⟨by first | rfl | (simp; done) | kernel_rfl | (simp; kernel_rfl), HG.out⟩
set_option maxHeartbeats 4000000 in
theorem splitmay_one {w : World} {nb no nc : Nat} {port dist : Int} (hc0 : w.cell? ⟨nb, no, none⟩ = some (.int .i64 port)) (hc1 : w.cell? ⟨nb, no + 1, none⟩ = some (.int .i64 dist)) (hp : 0 ≤ port ∧ port < 8) (hd : dist = 1 ∨ dist = 3) (hnc : 1 ≤ nc) :
  Calls Tryz.prog 101 #[.slice (some ⟨nb, no, none⟩) 1 nc] w fun e w' => e = .returned (.bool true) ∧ Grow w w' := by
 have HW : Hid (∀ x, Calls Tryz.prog 117 #[.agg #[.int .i64 port, .int .i64 dist]] x fun e w' => e = .returned (.int .i64 (65536 / (dist + 1))) ∧ Grow x w') := fun x => weight_one x hd
 obtain ⟨wt, hwt⟩ : ∃ x, 65536 / (dist + 1) = x := ⟨_, rfl⟩
 have hw1 : (wt == 0) = false := by rcases hd with rfl | rfl <;> (subst hwt; decide)
 rw [hwt] at HW
 have h1 : ¬ (port ≤ -1) := by omega
 have h2 : ¬ (8 ≤ port) := by omega
 have h3 : decide (port ≤ -1) = false := decide_eq_false h1
 have h4 : decide (8 ≤ port) = false := decide_eq_false h2
 have HN := Lib.hid (heap_alloc_new w (.cells #[.int .i64 port, .int .i64 dist] 37))
 have HG : Hid (Grow w (w.alloc (.cells #[.int .i64 port, .int .i64 dist] 37))) := (Grow.refl w).alloc _
 clear hwt hd hp
 go_enter Tryz.func101, Tryz.ntmps101
 go_wp2_with fail
 refine wp_loop_rounds 2 ?_
 rw [rounds_succ]
 go_wp2_with fail
 with_reducible refine (HW.out _).mono ?_
 rintro e w1 ⟨rfl, hg⟩
 obtain ⟨d0, d1⟩ := blk2c ((hg.block _ (lt_of_block HN.out)).trans HN.out)
 have HG1 := Lib.hid (HG.out.trans hg)
 clear hg HN HG HW
 go_wp2_with fail
 rw [rounds_succ]
 go_wp2_with fail
 go_ret
 exact ⟨by first | rfl | simp, HG1.out⟩
end
end Go.Proofs.YtgckhdepnmiejaaGreat
