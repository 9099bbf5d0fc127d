/- A header's flags and offset: ip.flags ranges over a map of three (and what stands on it). -/
import Derived.Maps.RangeWalk
import Derived.LoopTactic
import Derived.Carry
import Derived.Maps.AppendAt
import Derived.Test.YtgckhdepnmiejaaGreatZ03
import Derived.Test.YtgckhdepnmiejaaGreatZ04
import Derived.Test.YtgckhdepnmiejaaGreatZ06
import Derived.Test.YtgckhdepnmiejaaGreatZ09
set_option linter.unusedVariables false
set_option linter.unusedSimpArgs false
namespace Go.Proofs.YtgckhdepnmiejaaGreat
section
set_option maxRecDepth 100000
open Go.RowKit Go.Maps
theorem u64Keyed : Keyed Tryz.prog 80 := int_keyed Tryz.underlying80
/-- How an element reads. -/
def isElem : Value → Option (DataW Unit × List MemPlace)
 | .agg cs => match cs.toList with
  | [.bool x] => some (.lit (.bool x), [])
  | _ => none
 | _ => none
theorem isElem_inv {v : Value} {y : DataW Unit × List MemPlace} (h : isElem v = some y) : ∃ x, v = .agg #[.bool x] ∧ y = (.lit (.bool x), []) := by
 unfold isElem at h
 split at h
 ·rename_i cs
  split at h
  ·rename_i x e
   simp at h
   refine ⟨x, ?_, h.symm⟩
   congr 1
   exact Array.ext' e
  ·cases h
 ·cases h
def kA : Lit := .int .u64 32768
def kB : Lit := .int .u64 16384
def kC : Lit := .int .u64 8192
theorem keyA : WideAt.IsKeyLit kA := trivial
theorem keyB : WideAt.IsKeyLit kB := trivial
theorem keyC : WideAt.IsKeyLit kC := trivial
theorem lit_ne {x y : Int} (h : x ≠ y) : (Lit.int .u64 x) ≠ .int .u64 y := fun e => h (by injection e)
theorem nAB : kA ≠ kB := lit_ne (by decide)
theorem nAC : kA ≠ kC := lit_ne (by decide)
theorem nBC : kB ≠ kC := lit_ne (by decide)
def flD (e d m : Bool) : DataW Unit := (((DataW.map []).put kA (.lit (.bool e))).put kB (.lit (.bool d))).put kC (.lit (.bool m))
def accF (f : Int) (e d m : Bool) (left : Lit → Bool) : Int := f + (if left kA then 0 else if e then 32768 else 0) + (if left kB then 0 else if d then 16384 else 0) + (if left kC then 0 else if m then 8192 else 0)
theorem isMap_put (D : DataW Unit) (h : IsMap D) (k : Lit) (d : DataW Unit) : IsMap (D.put k d) := by
 unfold IsMap at *
 cases D <;> simp_all [DataW.put]
theorem fl_who {e d m : Bool} {x : Int} {y : DataW Unit} (h : ∀ zd, (flD e d m).atKey (.int .u64 x) zd = y) : (x = 32768 ∧ y = .lit (.bool e)) ∨ (x = 16384 ∧ y = .lit (.bool d)) ∨ (x = 8192 ∧ y = .lit (.bool m)) := by
 have hm0 : IsMap (DataW.map [] : DataW Unit) := ⟨[], rfl⟩
 have hmA : IsMap ((DataW.map [] : DataW Unit).put kA (.lit (.bool e))) := isMap_put _ hm0 _ _
 have hmB : IsMap (((DataW.map [] : DataW Unit).put kA (.lit (.bool e))).put kB (.lit (.bool d))) := isMap_put _ hmA _ _
 by_cases h3 : x = 8192
 ·subst h3
  refine Or.inr (Or.inr ⟨rfl, ?_⟩)
  have := h (.lit (.bool true))
  unfold flD at this
  rw [show (Lit.int .u64 8192) = kC from rfl, atKey_put_same hmB keyC] at this
  exact this.symm
 ·have n3 : (Lit.int .u64 x) ≠ kC := fun hh => h3 (by injection hh)
  by_cases h2 : x = 16384
  ·subst h2
   refine Or.inr (Or.inl ⟨rfl, ?_⟩)
   have := h (.lit (.bool true))
   unfold flD at this
   rw [atKey_put_other n3, show (Lit.int .u64 16384) = kB from rfl, atKey_put_same hmA keyB] at this
   exact this.symm
  ·have n2 : (Lit.int .u64 x) ≠ kB := fun hh => h2 (by injection hh)
   by_cases h1 : x = 32768
   ·subst h1
    refine Or.inl ⟨rfl, ?_⟩
    have := h (.lit (.bool true))
    unfold flD at this
    rw [atKey_put_other n3, atKey_put_other n2, show (Lit.int .u64 32768) = kA from rfl, atKey_put_same hm0 keyA] at this
    exact this.symm
   ·have n1 : (Lit.int .u64 x) ≠ kA := fun hh => h1 (by injection hh)
    have a := h (.lit (.bool true))
    have b := h (.lit (.bool false))
    unfold flD at a b
    rw [atKey_put_other n3, atKey_put_other n2, atKey_put_other n1, atKey_of_not_has rfl] at a b
    rw [← a] at b
    cases b
theorem or_bit (x i : Nat) (h : x < 65536) (hi : i < 16) (h0 : x / 2 ^ i % 2 = 0) : bits .or .u64 (x : Int) ((2 ^ i : Nat) : Int) = ((x + 2 ^ i : Nat) : Int) := by
 have hp : 2 ^ i < 65536 := Nat.pow_lt_pow_right (by omega) (show i < 16 from hi)
 rw [u64_or_nat x (2 ^ i) (by omega) (by omega)]
 congr 1
 have hq := Nat.div_add_mod x (2 ^ i)
 have hr := Nat.mod_lt x (Nat.two_pow_pos i)
 have e : x = x / 2 ^ (i + 1) * 2 ^ (i + 1) + x % 2 ^ i := by
  have h2 : x / 2 ^ (i + 1) = x / 2 ^ i / 2 := by rw [Nat.pow_succ, Nat.div_div_eq_div_mul]
  rw [h2, Nat.pow_succ]
  have : x / 2 ^ i = 2 * (x / 2 ^ i / 2) := by omega
  calc x = 2 ^ i * (x / 2 ^ i) + x % 2 ^ i := hq.symm
   _ = 2 ^ i * (2 * (x / 2 ^ i / 2)) + x % 2 ^ i := by rw [← this]
   _ = x / 2 ^ i / 2 * (2 ^ i * 2) + x % 2 ^ i := by rw [Nat.mul_comm (x / 2 ^ i / 2), Nat.mul_assoc]
 have j1 : (x / 2 ^ (i + 1) * 2 ^ (i + 1)) ||| (2 ^ i + x % 2 ^ i) = x / 2 ^ (i + 1) * 2 ^ (i + 1) + (2 ^ i + x % 2 ^ i) := nat_join (i + 1) _ _ (Nat.mul_mod_left _ _) (by rw [Nat.pow_succ]; omega)
 have j2 : (2 ^ i) ||| (x % 2 ^ i) = 2 ^ i + x % 2 ^ i := nat_join i _ _ (Nat.mod_self _) hr
 have j3 : (x / 2 ^ (i + 1) * 2 ^ (i + 1)) ||| (x % 2 ^ i) = x / 2 ^ (i + 1) * 2 ^ (i + 1) + x % 2 ^ i := nat_join (i + 1) _ _ (Nat.mul_mod_left _ _) (by rw [Nat.pow_succ]; omega)
 calc x ||| 2 ^ i = ((x / 2 ^ (i + 1) * 2 ^ (i + 1)) ||| (x % 2 ^ i)) ||| 2 ^ i := by rw [j3, ← e]
  _ = (x / 2 ^ (i + 1) * 2 ^ (i + 1)) ||| ((2 ^ i) ||| (x % 2 ^ i)) := by rw [Nat.or_assoc, Nat.or_comm (x % 2 ^ i)]
  _ = x / 2 ^ (i + 1) * 2 ^ (i + 1) + (2 ^ i + x % 2 ^ i) := by rw [j2, j1]
  _ = x + 2 ^ i := by omega
theorem accF_nat {f : Int} (h : 0 ≤ f ∧ f ≤ 8191) (e d m : Bool) (left : Lit → Bool) :
  ∃ n : Nat, accF f e d m left = (n : Int) ∧ n < 65536 ∧ (left kA = true → n / 32768 % 2 = 0) ∧ (left kB = true → n / 16384 % 2 = 0) ∧ (left kC = true → n / 8192 % 2 = 0) := by
 refine ⟨(accF f e d m left).toNat, ?_, ?_, ?_, ?_, ?_⟩ <;> unfold accF <;> cases left kA <;> cases left kB <;> cases left kC <;> cases e <;> cases d <;> cases m <;> simp <;> omega
theorem sameA : (kA.sameKey kA = true) ∧ (kB.sameKey kA = false) ∧ (kC.sameKey kA = false) := by decide
theorem sameB : (kA.sameKey kB = false) ∧ (kB.sameKey kB = true) ∧ (kC.sameKey kB = false) := by decide
theorem sameC : (kA.sameKey kC = false) ∧ (kB.sameKey kC = false) ∧ (kC.sameKey kC = true) := by decide
/-- A round: what it adds. -/
theorem acc_step {f : Int} (hf : 0 ≤ f ∧ f ≤ 8191) {e d m : Bool} {left : Lit → Bool} {x : Int} {c : Bool} (hl : left (.int .u64 x) = true) (h : ∀ zd, (flD e d m).atKey (.int .u64 x) zd = .lit (.bool c)) :
  (if c then bits .or .u64 (accF f e d m left) x else accF f e d m left) = accF f e d m (fun z => left z && !z.sameKey (.int .u64 x)) := by
 obtain ⟨n, hn, hn2, hA, hB, hC⟩ := accF_nat hf e d m left
 rcases fl_who h with ⟨rfl, hy⟩ | ⟨rfl, hy⟩ | ⟨rfl, hy⟩
 ·have hy : c = e := by injection hy with hy; injection hy
  subst hy
  have ho : bits .or .u64 (n : Int) 32768 = ((n + 32768 : Nat) : Int) := or_bit n 15 hn2 (by omega) (hA hl)
  have hl' : left kA = true := hl
  rw [hn, ho]
  have e2 : accF f c d m (fun z => left z && !z.sameKey kA) = accF f c d m left + (if c then 32768 else 0) := by
   unfold accF
   simp only [sameA.1, sameA.2.1, sameA.2.2, hl']
   cases c <;> simp <;> omega
  rw [show (Lit.int .u64 32768) = kA from rfl, e2, hn]
  cases c <;> simp
 ·have hy : c = d := by injection hy with hy; injection hy
  subst hy
  have ho : bits .or .u64 (n : Int) 16384 = ((n + 16384 : Nat) : Int) := or_bit n 14 hn2 (by omega) (hB hl)
  have hl' : left kB = true := hl
  rw [hn, ho]
  have e2 : accF f e c m (fun z => left z && !z.sameKey kB) = accF f e c m left + (if c then 16384 else 0) := by
   unfold accF
   simp only [sameB.1, sameB.2.1, sameB.2.2, hl']
   cases c <;> simp <;> omega
  rw [show (Lit.int .u64 16384) = kB from rfl, e2, hn]
  cases c <;> simp
 ·have hy : c = m := by injection hy with hy; injection hy
  subst hy
  have ho : bits .or .u64 (n : Int) 8192 = ((n + 8192 : Nat) : Int) := or_bit n 13 hn2 (by omega) (hC hl)
  have hl' : left kC = true := hl
  rw [hn, ho]
  have e2 : accF f e d c (fun z => left z && !z.sameKey kC) = accF f e d c left + (if c then 8192 else 0) := by
   unfold accF
   simp only [sameC.1, sameC.2.1, sameC.2.2, hl']
   cases c <;> simp <;> omega
  rw [show (Lit.int .u64 8192) = kC from rfl, e2, hn]
  cases c <;> simp
theorem acc_start (f : Int) (e d m : Bool) : accF f e d m (Maps.has (flD e d m)) = f := by
 have hm0 : IsMap (DataW.map [] : DataW Unit) := ⟨[], rfl⟩
 have hmA : IsMap ((DataW.map [] : DataW Unit).put kA (.lit (.bool e))) := isMap_put _ hm0 _ _
 have hmB : IsMap (((DataW.map [] : DataW Unit).put kA (.lit (.bool e))).put kB (.lit (.bool d))) := isMap_put _ hmA _ _
 have a1 : Maps.has (flD e d m) kA = true := by
  unfold flD; rw [has_put_other nAC, has_put_other nAB, has_put_same hm0 keyA]
 have a2 : Maps.has (flD e d m) kB = true := by
  unfold flD; rw [has_put_other nBC, has_put_same hmA keyB]
 have a3 : Maps.has (flD e d m) kC = true := by
  unfold flD; rw [has_put_same hmB keyC]
 unfold accF
 rw [a1, a2, a3]
 simp
theorem acc_end {f : Int} {e d m : Bool} {left : Lit → Bool} (h : ∀ k, left k = false) : accF f e d m left = (if e then 32768 else 0) + (if d then 16384 else 0) + (if m then 8192 else 0) + f := by
 unfold accF
 rw [h, h, h]
 simp
 omega
theorem key_a : keyOf Tryz.prog 80 (.int .u64 32768) = some kA := keyOf_int_mk Tryz.underlying80 (by decide)
theorem key_b : keyOf Tryz.prog 80 (.int .u64 16384) = some kB := keyOf_int_mk Tryz.underlying80 (by decide)
theorem key_c : keyOf Tryz.prog 80 (.int .u64 8192) = some kC := keyOf_int_mk Tryz.underlying80 (by decide)
theorem grow_row {w w' : World} {b : Nat} {B : Nat} (h : w.grownBy w' (some b)) (hb : B ≤ b) (hB : B ≤ w.heap.size) : Below B w w' :=
 ⟨h.os, h.tape, h.output, h.size, fun k hk => h.block k (by omega) (fun e => by injection e; omega)⟩
theorem wpList_insert_own {H : Type} {P : Program} (w : World) {ops : Array Oper} {rest : List Oper} {o : Oper} {a : Act} {Q : Exit → Act → World → Prop}
  (hg : o.guard = none) (m x v : Operand) (t : TypeId) (hop : o.op = Op.insert t m x v)
  (k e : TypeId) (K : Keyed P k) (ht : P.underlying t = some (.map k e)) (R : Value → Option (DataW H × List MemPlace)) (b n : Nat) (D : DataW H)
  (hm : a.eval m = .map (some b)) (hown : w.ownsMap P k R b n D) (hn : n < maxLen) (key val : Value) (kl : Lit) (hx : a.eval x = key) (hv : a.eval v = val) (hkey : keyOf P k key = some kl)
  (d : DataW H) (ps : List MemPlace) (hval : R val = some (d, ps))
  (hK : ∀ w', w'.ownsMap P k R b (n + 1) (D.put kl d) → w.grownBy w' (some b) → wpList P ops Q rest (a.put o.dst undef) w') :
  wpList P ops Q (o :: rest) a w := by
 refine wpList_plain hg fun K' hK' => ?_
 obtain ⟨w', hrun, r1, r2⟩ := hown.update K ht hn hkey hval
 unfold Oper.wp
 simp [execOp, hop, hm, hx, hv, hrun, Result.andThen]
 exact hK' _ _ (hK w' r1 r2)
set_option maxHeartbeats 4000000 in
theorem flags_any (h : Hd) (w : World) (hok : HdOk w h) (ho : 0 ≤ h.off ∧ h.off ≤ 8191) : Calls Tryz.prog 75 #[h.val] w fun e w' => e = .returned (.int .u64 (fwH h)) ∧ Grow w w' := by
 obtain ⟨ao, cap, hv, h1, h2⟩ := hok.body.shape
 clear hok
 obtain ⟨tos, id, evil, df, mf, off, ttl, proto, src, dst, v, os⟩ := h
 dsimp only at *
 subst hv
 have HF : Hid (fwH ⟨tos, id, evil, df, mf, off, ttl, proto, src, dst, .slice ao os.length cap, os⟩ = (if evil then 32768 else 0) + (if df then 16384 else 0) + (if mf then 8192 else 0) + off) := rfl
 generalize fwH ⟨tos, id, evil, df, mf, off, ttl, proto, src, dst, .slice ao os.length cap, os⟩ = F at *
 simp only [Hd.val, Hd.cells, hdCells] at *
 unfold maxLen at h2
 generalize os.length = m at *
 have HO := Lib.hid ho
 have hwo : IntKind.u64.wrap off = off := by simp [IntKind.wrap, IntKind.signed, IntKind.bits]; omega
 obtain ⟨w0, hw0⟩ : ∃ x, w.alloc (.cells #[.int .u8 tos, .int .u16 id, .bool evil, .bool df, .bool mf, .int .i64 off, .int .u8 ttl, .int .u8 proto, .int .u32 src, .int .u32 dst, .slice ao m cap] 27) = x := ⟨_, rfl⟩
 have hN := heap_alloc_new w (.cells #[.int .u8 tos, .int .u16 id, .bool evil, .bool df, .bool mf, .int .i64 off, .int .u8 ttl, .int .u8 proto, .int .u32 src, .int .u32 dst, .slice ao m cap] 27)
 have hs0 : w0.heap.size = w.heap.size + 1 := by rw [← hw0]; simp
 rw [hw0] at hN
 have HG0 : Hid (Grow w w0) := by rw [← hw0]; exact (Grow.refl w).alloc _
 have HN := Lib.hid hN
 have HW0 := Lib.hid hw0
 have HS0 := Lib.hid hs0
 obtain ⟨⟨c0, c1, c2, c3, c4, c5⟩, c6, c7, c8, c9, c10⟩ := blkH hN
 have hown0 := World.ownsMap_made (H := Unit) w0 Tryz.prog 80 isElem
 have HC := Lib.hid (And.intro c2 (And.intro c3 c4))
 clear hN hw0 hs0 ho
 go_enter Tryz.func75, Tryz.ntmps75
 go_wp2_with fail
 rw [HW0.out, run_makeMap]
 have d2 : (w0.alloc (.map #[] 0)).cell? ⟨w.heap.size, 2, none⟩ = some (.bool evil) := ((((Below.refl w0.heap.size w0).alloc (Nat.le_refl _) _)).cell (by rw [HS0.out]; exact Nat.lt_succ_self _)).trans HC.out.1
 have hmm := @run_makeMap Tryz.prog
 go_wp2_with (first
  | (refine wpList_insert_own _ rfl _ _ _ 195 rfl 80 194 u64Keyed Tryz.underlying195 isElem w0.heap.size 2 _ rfl hown2 (by decide) _ _ kC rfl rfl key_c (.lit (.bool mf)) [] rfl ?_; intro w3 hown3 hg3; have HB3 := Lib.hid (HB2.out.trans (grow_row hg3 (Nat.le_refl _) HB2.out.size)))
  | (refine wpList_insert_own _ rfl _ _ _ 195 rfl 80 194 u64Keyed Tryz.underlying195 isElem w0.heap.size 1 _ rfl hown1 (by decide) _ _ kB rfl rfl key_b (.lit (.bool df)) [] rfl ?_; intro w2 hown2 hg2; have HB2 := Lib.hid (HB1.out.trans (grow_row hg2 (Nat.le_refl _) HB1.out.size)); have d4 := (HB2.out.cell (by rw [HS0.out]; exact Nat.lt_succ_self _)).trans HC.out.2.2)
  | (refine wpList_insert_own _ rfl _ _ _ 195 rfl 80 194 u64Keyed Tryz.underlying195 isElem w0.heap.size 0 _ rfl hown0 (by decide) _ _ kA rfl rfl key_a (.lit (.bool evil)) [] rfl ?_; intro w1 hown1 hg1; have HB1 : Hid (Below w0.heap.size w0 w1) := ((Below.refl _ _).alloc (Nat.le_refl _) _).trans (grow_row hg1 (Nat.le_refl _) (by simp)); have d3 := (HB1.out.cell (by rw [HS0.out]; exact Nat.lt_succ_self _)).trans HC.out.2.1)
  | (at_range; refine wpList_range_own _ rfl _ 195 rfl 80 194 u64Keyed Tryz.underlying195 isElem w0.heap.size 3 _ rfl hown3 ?_; intro w4 hrg0 hg4 hs4))
 have HB4 : Hid (Below w0.heap.size w0 w4) := HB3.out.trans ⟨hg4.os, hg4.tape, hg4.output, hg4.size, fun k hk => hg4.block k (Nat.lt_of_lt_of_le hk HB3.out.size) (by simp)⟩
 have HR : Hid (w0.heap.size ≤ w3.heap.size) := HB3.out.size
 have HRG := Lib.hid hrg0
 generalize w3.heap.size = r at *
 clear hg1 hg2 hg3 hg4 hown1 hown2 hown3 hown0 hrg0 hs4 d2 d3 d4 hmm c0 c1 c2 c3 c4 c5 c6 c7 c8 c9 c10 HB1 HB2 HB3
 go_frame
 go_loopw [3] (fun n wr => ∃ (left : Lit → Bool) (cnt : Nat), Hid (wr.ranges Tryz.prog 80 isElem w0.heap.size r 3 (flD evil df mf) left cnt) ∧ n = .int .u64 (accF off evil df mf left) ∧ Hid (Below w0.heap.size w0 wr))
  (fun _ wr => wr.rangeLeft w0.heap.size r)
 case atStart => exact ⟨_, _, HRG.out, congrArg (Value.int .u64) (acc_start off evil df mf).symm, HB4⟩
 case round =>
  obtain ⟨left, cnt, HRW, rfl, HBW⟩ := hrel
  go_wp2_with (first
   | (at_next; refine wpList_next_ranges _ rfl _ rfl 80 u64Keyed isElem (Value.int .u64) (fun x : Int => .agg #[.bool (x == 1)]) ?invK ?invV w0.heap.size r 3 _ _ _ rfl HRW.out ?_ ?_))
  case invK =>
   intro key kl hk
   obtain ⟨x, e, _⟩ := Maps.keyOf_int_inv Tryz.underlying80 hk
   exact ⟨x, e⟩
  case invV =>
   intro v y hv
   obtain ⟨x, e, _⟩ := isElem_inv hv
   exact ⟨if x then 1 else 0, by rw [e]; cases x <;> rfl⟩
  ·intro _ hl0
   have HE : Hid (accF off evil df mf left = F) := by show _ = _; rw [acc_end hl0, HF.out]
   clear hl0
   go_wp2_with fail
   go_ret
   exact ⟨by first | rfl | (simp; done) | (simp; exact HE.out) , HG0.out.trans HBW.out⟩
  ·intro x c kl ya yb w5 cnt1 hkey hlx hR hat hrg1 hlt hg5 hs5 hen
   obtain ⟨x', ex, rfl, _⟩ := Maps.keyOf_int_inv Tryz.underlying80 hkey
   cases ex
   obtain ⟨c', ec, ey⟩ := isElem_inv hR
   injection ey with ey1 ey2
   subst ey1
   subst ey2
   have hcc : (c == 1) = c' := by injection ec with ec; simpa using ec
   rw [hcc] at hen ⊢
   have HS := Lib.hid (acc_step HO.out hlx hat)
   have HRG5 := Lib.hid hrg1
   have HLT := Lib.hid hlt
   have HB5 : Hid (Below w0.heap.size w0 w5) := HBW.out.trans (grow_row hg5 HR.out HBW.out.size)
   clear hkey hlx hR hat hrg1 hlt hg5 hs5 ec hcc
   cases c'
   ·have HS' : Hid (accF off evil df mf left = accF off evil df mf (fun z => left z && !z.sameKey (.int .u64 x))) := HS.out
    clear HS
    go_wp2_with fail
    refine ⟨⟨_, cnt1, HRG5.out.alloc _, by rw [← HS'.out], HB5.out.alloc HB5.out.size _⟩, ?_⟩
    rw [(HRG5.out.alloc _).left_eq, HRW.out.left_eq]
    exact HLT.out
   ·have HS' : Hid (bits .or .u64 (accF off evil df mf left) x = accF off evil df mf (fun z => left z && !z.sameKey (.int .u64 x))) := HS.out
    clear HS
    go_wp2_with fail
    refine ⟨⟨_, cnt1, HRG5.out.alloc _, by rw [← HS'.out], HB5.out.alloc HB5.out.size _⟩, ?_⟩
    rw [(HRG5.out.alloc _).left_eq, HRW.out.left_eq]
    exact HLT.out
end
end Go.Proofs.YtgckhdepnmiejaaGreat
namespace Go.Proofs.YtgckhdepnmiejaaGreat
section
set_option maxRecDepth 100000
open Go.RowKit
theorem rows_stay (rows : List (List Int)) : ∀ (u : Value) (w w' : World), GrowBut NoBlock w w' → RowsV w u rows → RowsV w' u rows := fun _ _ _ h hr => hr.mono h.below
theorem PutAt.but {w w' : World} {B base A : Nat} {zs : List Int} (h : PutAt w B base A zs) (hg : Grow w w') : PutAt w' B base A zs := h.grow hg
theorem grow_mv {w wA w' : World} {A base : Nat} (hb : w.heap.size < base) (h : Grow w wA) (hg : GrowBut (Mv base A) wA w') : Grow w w' :=
 ⟨hg.os.trans h.os, hg.tape.trans h.tape, hg.output.trans h.output, Nat.le_trans h.size hg.size, fun k hk => (hg.block k (Nat.lt_of_lt_of_le hk h.size) (fun hm => by have := hm.1; omega)).trans (h.block k hk)⟩
theorem put_store {w w2 : World} {B base A : Nat} {v v' : Value} {zs ys : List Int} (h1 : w.heap[B]? = some (.cells #[v] 25 (0, 0))) (h2 : w.ownsRow base 5 1 v zs.length (zs.map (Value.int .u8))) (h3 : v.ownBlock ≠ some B) (h4 : v.ownBlock ≠ some A)
  (hB : base ≤ B) (hBA : B ≠ A) (hA : A < w.heap.size) (hown : w2.ownsRow base 5 1 v' (zs.length + ys.length) (zs.map (Value.int .u8) ++ ys.map (Value.int .u8))) (hgrow : w.grownBy w2 v.ownBlock) (hob : v'.ownBlock = v.ownBlock ∨ v'.ownBlock = some w.heap.size) :
  w2.heap[B]? = some (.cells #[v] 25 (0, 0)) ∧ PutAt (w2.setCell ⟨B, 0, none⟩ v') B base A (zs ++ ys) ∧ GrowBut (Mv base A) w (w2.setCell ⟨B, 0, none⟩ v') := by
 have hBl := lt_of_block h1
 have hB2 : w2.heap[B]? = some (.cells #[v] 25 (0, 0)) := (hgrow.block B (lt_of_block h1) (fun e => h3 e.symm)).trans h1
 have hnB : v'.ownBlock ≠ some B := by
  rcases hob with e | e
  ·rw [e]; exact h3
  ·rw [e]; intro hh; injection hh with hh; omega
 have hnA : v'.ownBlock ≠ some A := by
  rcases hob with e | e
  ·rw [e]; exact h4
  ·rw [e]; intro hh; injection hh with hh; omega
 have hobv : ∀ j, v.ownBlock = some j → base ≤ j := fun j hj => (h2.lt j hj).1
 refine ⟨hB2, ⟨v', one_setCell hB2, ?_, hnB, hnA⟩, ?_⟩
 ·rw [List.length_append, List.map_append]
  obtain ⟨q1, q2⟩ := hown
  refine ⟨q1, ?_⟩
  rcases q2 with q2 | ⟨g, cap, cur, e1, e2, e3, e4⟩
  ·exact Or.inl q2
  ·refine Or.inr ⟨g, cap, cur, e1, e2, (Below.heap_setCell _ _ _ _ (fun hh => hnB (by rw [e1]; show some g = some B; rw [show g = B from hh]))).trans e3, e4⟩
 ·have hg2 : GrowBut (Mv base A) w w2 := ⟨hgrow.os, hgrow.tape, hgrow.output, hgrow.size, fun k hk hm => hgrow.block k hk (fun e => hm ⟨hobv k e.symm, fun hh => h4 (by rw [← e, hh])⟩)⟩
  exact hg2.setCell (a := ⟨B, 0, none⟩) ⟨hB, hBA⟩ _
theorem own_up {w : World} {base n cap g : Nat} {e : TypeId} {xs : List Value} (h : w.ownsRow base e 1 (.slice (some ⟨g, 0, none⟩) n cap) n xs) (hn : 0 < n) (hg : g ≠ base) : w.ownsRow (base + 1) e 1 (.slice (some ⟨g, 0, none⟩) n cap) n xs := by
 have hb := own_base h hn
 obtain ⟨h1, h2⟩ := h
 refine ⟨h1, ?_⟩
 rcases h2 with h2 | ⟨g', cap, cur, e1, e2, e3⟩
 ·exact Or.inl h2
 ·injection e1 with e1 _ e5
  injection e1 with e1
  injection e1 with e1
  subst e1; subst e5
  exact Or.inr ⟨g, _, cur, rfl, by omega, e3⟩
theorem putB_pkt (h : Hd) (n : Nat) : putB (hd0 h n) 10 (bel 2 (ckH h n)) = hdr h n := by
 unfold putB hdr hd0
 rw [List.take_append_of_le_length (by rw [topH_length]; exact Nat.le_refl _), List.take_of_length_le (by rw [topH_length]; exact Nat.le_refl _), bel_length, List.append_assoc]
 congr 2
theorem bel_two_zero : bel 2 0 = [0, 0] := by rw [bel2']; rfl
theorem hd0_fields (h : Hd) (n : Nat) (Q T : Int) (hQ : Q = 64 + (20 + (h.os.length : Int)) / 4) (hb : 0 ≤ Q ∧ Q < 256) (hT : T = 20 + h.os.length + n) (h1 : 0 ≤ h.tos ∧ h.tos < 256) (h2 : 0 ≤ h.ttl ∧ h.ttl < 256) (h3 : 0 ≤ h.proto ∧ h.proto < 256) :
  [] ++ bel 1 Q ++ bel 1 h.tos ++ bel 2 T ++ bel 2 h.id ++ bel 2 (fwH h) ++ bel 1 h.ttl ++ bel 1 h.proto ++ bel 2 0 ++ bel 4 h.src ++ bel 4 h.dst ++ h.os = hd0 h n := by
 unfold hd0 topH endH
 rw [bel1, bel1, bel1, bel1, bel_two_zero, Int.emod_eq_of_lt hb.1 hb.2, Int.emod_eq_of_lt h1.1 h1.2, Int.emod_eq_of_lt h2.1 h2.2, Int.emod_eq_of_lt h3.1 h3.2, hQ, hT]
 simp
set_option maxHeartbeats 8000000 in
theorem ipbytes_any (h : Hd) (pl : List Int) (u : Value) (w : World) (hok : HdOk w h) (hm : mayH h = true) (hu : BytesV w u pl) (hl : 20 + h.os.length + pl.length ≤ 65535) :
  Calls Tryz.prog 50 #[h.val, u] w fun e w' => ∃ v, e = .returned (.tuple #[v, .int .i64 0]) ∧ NewBytes w (pkt h pl) v w' := by
 obtain ⟨i0, hi, hz0, hz1, hz2⟩ := info_parts infoByte
 have r := raw_of hok hm
 have HSz : Hid (∀ x, Grow w x → Calls Tryz.prog 28 #[h.val] x fun e w' => e = .returned (.int .i64 (20 + h.os.length)) ∧ Grow x w') := fun x hx => size_hdr h x (hok.mono hx) hm
 have HFl : Hid (∀ x, Grow w x → Calls Tryz.prog 75 #[h.val] x fun e w' => e = .returned (.int .u64 (fwH h)) ∧ Grow x w') := fun x hx => flags_any h x (hok.mono hx) r.off
 have HFB := Lib.hid (fwH_bd r)
 have HPk : Hid (pkt h pl = hdr h pl.length ++ pl) := rfl
 have HPb := Lib.hid (putB_pkt h pl.length)
 have HCk : Hid (65535 - nrm (bsum (hd0 h pl.length)) = ckH h pl.length) := rfl
 have HCB := Lib.hid (ckH_bd h pl.length)
 have HFd := Lib.hid (hd0_fields h pl.length _ _ rfl (by have := r.len; omega) rfl r.tos r.ttl r.proto)
 have HH0 := Lib.hid (hd0_bytes r pl.length)
 have HHl := Lib.hid (hd0_length h pl.length)
 have HHr := Lib.hid (hdr_length h pl.length)
 have h40 := r.len
 have hb1 := r.tos; have hb2 := r.id; have hb3 := r.ttl; have hb4 := r.proto; have hb5 := r.src; have hb6 := r.dst
 generalize hpk : pkt h pl = PK at *
 generalize hdr h pl.length = HDR at *
 generalize hd0 h pl.length = H0 at *
 generalize ckH h pl.length = CK at *
 generalize fwH h = FW at *
 obtain ⟨bo, cap', rfl, hl1, hl2⟩ := hu.shape
 obtain ⟨ao, cap, hv, h1, h2⟩ := hok.body.shape
 have HBody := Lib.hid hok.body
 have HPay := Lib.hid hu
 clear hok hu hm r hpk
 obtain ⟨tos, id, evil, df, mf, off, ttl, proto, src, dst, v, os⟩ := h
 dsimp only at *
 subst hv
 simp only [Hd.val, Hd.cells, hdCells] at *
 unfold maxLen at h2 hl2
 unfold U8 U16 U32 at *
 generalize hmm : os.length = m at *
 generalize hnn : pl.length = n at *
 obtain ⟨Z, hZ⟩ : ∃ Z, (20 : Int) + (m : Int) = Z := ⟨_, rfl⟩
 obtain ⟨Q, hQ⟩ : ∃ Q, (64 : Int) + (20 + (m : Int)) / 4 = Q := ⟨_, rfl⟩
 obtain ⟨T, hT⟩ : ∃ T, (20 : Int) + (m : Int) + (n : Int) = T := ⟨_, rfl⟩
 have HMl := Lib.hid hmm
 have HNl := Lib.hid hnn
 rw [hQ, hT] at HFd
 rw [hZ] at HSz
 have hq : Z.tdiv 4 = Q - 64 := by rw [Int.tdiv_eq_ediv_of_nonneg (by omega)]; omega
 have hq2 : Z / 4 = Q - 64 := by omega
 have hw1 : IntKind.i64.wrap Q = Q := IntWalk.i64_in _ (by omega)
 have hw1b : IntKind.i64.wrap (Q - 64) = Q - 64 := IntWalk.i64_in _ (by omega)
 have hw1c : (64 : Int) + (Q - 64) = Q := by omega
 have hw2 : IntKind.u64.wrap Q = Q := by simp [IntKind.wrap, IntKind.signed, IntKind.bits]; omega
 have hw3 : IntKind.u64.wrap tos = tos := by simp [IntKind.wrap, IntKind.signed, IntKind.bits]; omega
 have hZT : Z + (n : Int) = T := by omega
 have hw4 : IntKind.i64.wrap T = T := IntWalk.i64_in _ (by omega)
 have hw5 : IntKind.u64.wrap T = T := by simp [IntKind.wrap, IntKind.signed, IntKind.bits]; omega
 have hw6 : IntKind.u64.wrap id = id := by simp [IntKind.wrap, IntKind.signed, IntKind.bits]; omega
 have hw7 : IntKind.u64.wrap ttl = ttl := by simp [IntKind.wrap, IntKind.signed, IntKind.bits]; omega
 have hw8 : IntKind.u64.wrap proto = proto := by simp [IntKind.wrap, IntKind.signed, IntKind.bits]; omega
 have hw9 : IntKind.u64.wrap src = src := by simp [IntKind.wrap, IntKind.signed, IntKind.bits]; omega
 have hw10 : IntKind.u64.wrap dst = dst := by simp [IntKind.wrap, IntKind.signed, IntKind.bits]; omega
 have hw11 : IntKind.u64.wrap CK = CK := by have := HCB.out; simp [IntKind.wrap, IntKind.signed, IntKind.bits]; omega
 have hw12 : IntKind.i64.wrap (65535 - Z) = 65535 - Z := IntWalk.i64_in _ (by omega)
 have g1 : (Z == 0) = false := by rw [beq_eq_false_iff_ne]; omega
 have g2 : ¬ (65535 - Z < (n : Int)) := by omega
 have hQb : 0 ≤ Q ∧ Q < 256 := by omega
 have hTb : 0 ≤ T ∧ T < 65536 := by omega
 obtain ⟨wX, hwX⟩ : ∃ x, w.alloc (.cells #[.int .u8 tos, .int .u16 id, .bool evil, .bool df, .bool mf, .int .i64 off, .int .u8 ttl, .int .u8 proto, .int .u32 src, .int .u32 dst, .slice ao m cap] 27) = x := ⟨_, rfl⟩
 have hN := heap_alloc_new w (.cells #[.int .u8 tos, .int .u16 id, .bool evil, .bool df, .bool mf, .int .i64 off, .int .u8 ttl, .int .u8 proto, .int .u32 src, .int .u32 dst, .slice ao m cap] 27)
 have hs0 : wX.heap.size = w.heap.size + 1 := by rw [← hwX]; simp
 rw [hwX] at hN
 have HGX : Hid (Grow w wX) := by rw [← hwX]; exact (Grow.refl w).alloc _
 have HN := Lib.hid hN
 have HX := Lib.hid hwX
 have HS := Lib.hid hs0
 obtain ⟨⟨c0, c1, c2, c3, c4, c5⟩, c6, c7, c8, c9, c10⟩ := blkH hN
 clear hwX hs0 hN hmm hnn hZ hQ hT
 go_enter Tryz.func50, Tryz.ntmps50
 go_wp2_with fail
 rw [HX.out]
 clear HX
 have HC := Lib.hid (HSz.out _ HGX.out)
 with_reducible refine HC.out.mono ?_
 rintro e w1 ⟨rfl, hg⟩
 have HG1 := Lib.hid (HGX.out.trans hg)
 have hh := (hg.block _ (lt_of_block HN.out)).trans HN.out
 clear hg HC c0 c1 c2 c3 c4 c5 c6 c7 c8 c9 c10
 have HB : Hid (w.heap.size < w1.heap.size) := lt_of_block hh
 have HP0 : Hid (PutAt (w1.alloc (.cells #[.slice none 0 0] 25)) w1.heap.size w1.heap.size w.heap.size []) :=
  ⟨.slice none 0 0, heap_alloc_new w1 _, World.ownsRow_nil _ _ _ _, by simp [Value.ownBlock], by simp [Value.ownBlock]⟩
 have hH0 : (w1.alloc (.cells #[.slice none 0 0] 25)).heap[w.heap.size]? = some (.cells #[.int .u8 tos, .int .u16 id, .bool evil, .bool df, .bool mf, .int .i64 off, .int .u8 ttl, .int .u8 proto, .int .u32 src, .int .u32 dst, .slice ao m cap] 27 (0, 0)) := (Below.heap_alloc _ _ _ HB.out).trans hh
 have HGA : Hid (Grow w (w1.alloc (.cells #[.slice none 0 0] 25))) := HG1.out.alloc _
 obtain ⟨⟨c0, c1, c2, c3, c4, c5⟩, c6, c7, c8, c9, c10⟩ := blkH hH0
 have HH := Lib.hid hH0
 clear hh hH0
 have HK0 : Hid (GrowBut (Mv w1.heap.size w.heap.size) (w1.alloc (.cells #[.slice none 0 0] 25)) (w1.alloc (.cells #[.slice none 0 0] 25))) := GrowBut.refl _ _
 have HSA : Hid ((w1.alloc (.cells #[.slice none 0 0] 25)).heap.size = w1.heap.size + 1) := World.size_alloc _ _
 generalize hwA : w1.alloc (.cells #[.slice none 0 0] 25) = wA at *
 generalize hBB : w1.heap.size = B at *
 have HWA := Lib.hid hwA
 have HBB := Lib.hid hBB
 clear hwA hBB
 go_wp2_with fail
 rw [HWA.out, HBB.out]
 clear HWA HBB
 -- field 0
 have HC := Lib.hid (put_closure (s := 1) (n := Q) (ys := bel 1 Q) (fun y => iput_1 Q y hQb) HP0.out (Nat.le_refl _) (Nat.ne_of_gt HB.out) (by have := HK0.out.size; have := HSA.out; have := HB.out; omega) (by simp [bel_length]) (by rw [bel_length]; omega))
 with_reducible refine HC.out.mono ?_
 rintro e wk1 ⟨rfl, hp, hg⟩
 have HP1 := Lib.hid hp
 have HK1 := Lib.hid (HK0.out.trans hg)
 have hh := (hg.block _ (lt_of_block HH.out) (fun hm => hm.2 rfl)).trans HH.out
 obtain ⟨⟨c0, c1, c2, c3, c4, c5⟩, c6, c7, c8, c9, c10⟩ := blkH hh
 have HH1 := Lib.hid hh
 clear hh hg hp HC
 -- field 1
 go_wp2_with fail
 have HC := Lib.hid (put_closure (s := 1) (n := tos) (ys := bel 1 tos) (fun y => iput_1 tos y hb1) HP1.out (Nat.le_refl _) (Nat.ne_of_gt HB.out) (by have := HK1.out.size; have := HSA.out; have := HB.out; omega) (by simp [bel_length]) (by rw [bel_length]; omega))
 with_reducible refine HC.out.mono ?_
 rintro e wk2 ⟨rfl, hp, hg⟩
 have HP2 := Lib.hid hp
 have HK2 := Lib.hid (HK1.out.trans hg)
 have hh := (hg.block _ (lt_of_block HH1.out) (fun hm => hm.2 rfl)).trans HH1.out
 obtain ⟨⟨c0, c1, c2, c3, c4, c5⟩, c6, c7, c8, c9, c10⟩ := blkH hh
 have HH2 := Lib.hid hh
 clear hh hg hp HC
 -- field 2
 go_wp2_with fail
 have HC := Lib.hid (put_closure (s := 2) (n := T) (ys := bel 2 T) (fun y => iput_2 T y hTb) HP2.out (Nat.le_refl _) (Nat.ne_of_gt HB.out) (by have := HK2.out.size; have := HSA.out; have := HB.out; omega) (by simp [bel_length]) (by rw [bel_length]; omega))
 with_reducible refine HC.out.mono ?_
 rintro e wk3 ⟨rfl, hp, hg⟩
 have HP3 := Lib.hid hp
 have HK3 := Lib.hid (HK2.out.trans hg)
 have hh := (hg.block _ (lt_of_block HH2.out) (fun hm => hm.2 rfl)).trans HH2.out
 obtain ⟨⟨c0, c1, c2, c3, c4, c5⟩, c6, c7, c8, c9, c10⟩ := blkH hh
 have HH3 := Lib.hid hh
 clear hh hg hp HC
 -- field 3
 go_wp2_with fail
 have HC := Lib.hid (put_closure (s := 2) (n := id) (ys := bel 2 id) (fun y => iput_2 id y hb2) HP3.out (Nat.le_refl _) (Nat.ne_of_gt HB.out) (by have := HK3.out.size; have := HSA.out; have := HB.out; omega) (by simp [bel_length]) (by rw [bel_length]; omega))
 with_reducible refine HC.out.mono ?_
 rintro e wk4 ⟨rfl, hp, hg⟩
 have HP4 := Lib.hid hp
 have HK4 := Lib.hid (HK3.out.trans hg)
 have hh := (hg.block _ (lt_of_block HH3.out) (fun hm => hm.2 rfl)).trans HH3.out
 obtain ⟨⟨c0, c1, c2, c3, c4, c5⟩, c6, c7, c8, c9, c10⟩ := blkH hh
 have HH4 := Lib.hid hh
 clear hh hg hp HC
 -- field 4
 go_wp2_with fail
 have HC := Lib.hid (HFl.out wk4 (grow_mv HB.out HGA.out HK4.out))
 with_reducible refine HC.out.mono ?_
 rintro e wF ⟨rfl, hg⟩
 have HPF := Lib.hid (HP4.out.grow hg)
 have HKF := Lib.hid (HK4.out.trans (GrowBut.of_below hg))
 have hh := (hg.block _ (lt_of_block HH4.out)).trans HH4.out
 obtain ⟨⟨c0, c1, c2, c3, c4, c5⟩, c6, c7, c8, c9, c10⟩ := blkH hh
 have HHF := Lib.hid hh
 clear hh hg HC
 go_wp2_with fail
 have HC := Lib.hid (put_closure (s := 2) (n := FW) (ys := bel 2 FW) (fun y => iput_2 FW y HFB.out) HPF.out (Nat.le_refl _) (Nat.ne_of_gt HB.out) (by have := HKF.out.size; have := HSA.out; have := HB.out; omega) (by simp [bel_length]) (by rw [bel_length]; omega))
 with_reducible refine HC.out.mono ?_
 rintro e wk5 ⟨rfl, hp, hg⟩
 have HP5 := Lib.hid hp
 have HK5 := Lib.hid (HKF.out.trans hg)
 have hh := (hg.block _ (lt_of_block HHF.out) (fun hm => hm.2 rfl)).trans HHF.out
 obtain ⟨⟨c0, c1, c2, c3, c4, c5⟩, c6, c7, c8, c9, c10⟩ := blkH hh
 have HH5 := Lib.hid hh
 clear hh hg hp HC
 -- field 5
 go_wp2_with fail
 have HC := Lib.hid (put_closure (s := 1) (n := ttl) (ys := bel 1 ttl) (fun y => iput_1 ttl y hb3) HP5.out (Nat.le_refl _) (Nat.ne_of_gt HB.out) (by have := HK5.out.size; have := HSA.out; have := HB.out; omega) (by simp [bel_length]) (by rw [bel_length]; omega))
 with_reducible refine HC.out.mono ?_
 rintro e wk6 ⟨rfl, hp, hg⟩
 have HP6 := Lib.hid hp
 have HK6 := Lib.hid (HK5.out.trans hg)
 have hh := (hg.block _ (lt_of_block HH5.out) (fun hm => hm.2 rfl)).trans HH5.out
 obtain ⟨⟨c0, c1, c2, c3, c4, c5⟩, c6, c7, c8, c9, c10⟩ := blkH hh
 have HH6 := Lib.hid hh
 clear hh hg hp HC
 -- field 6
 go_wp2_with fail
 have HC := Lib.hid (put_closure (s := 1) (n := proto) (ys := bel 1 proto) (fun y => iput_1 proto y hb4) HP6.out (Nat.le_refl _) (Nat.ne_of_gt HB.out) (by have := HK6.out.size; have := HSA.out; have := HB.out; omega) (by simp [bel_length]) (by rw [bel_length]; omega))
 with_reducible refine HC.out.mono ?_
 rintro e wk7 ⟨rfl, hp, hg⟩
 have HP7 := Lib.hid hp
 have HK7 := Lib.hid (HK6.out.trans hg)
 have hh := (hg.block _ (lt_of_block HH6.out) (fun hm => hm.2 rfl)).trans HH6.out
 obtain ⟨⟨c0, c1, c2, c3, c4, c5⟩, c6, c7, c8, c9, c10⟩ := blkH hh
 have HH7 := Lib.hid hh
 clear hh hg hp HC
 -- field 7
 go_wp2_with fail
 have HC := Lib.hid (put_closure (s := 2) (n := 0) (ys := bel 2 0) (fun y => iput_2 0 y (by omega)) HP7.out (Nat.le_refl _) (Nat.ne_of_gt HB.out) (by have := HK7.out.size; have := HSA.out; have := HB.out; omega) (by simp [bel_length]) (by rw [bel_length]; omega))
 with_reducible refine HC.out.mono ?_
 rintro e wk8 ⟨rfl, hp, hg⟩
 have HP8 := Lib.hid hp
 have HK8 := Lib.hid (HK7.out.trans hg)
 have hh := (hg.block _ (lt_of_block HH7.out) (fun hm => hm.2 rfl)).trans HH7.out
 obtain ⟨⟨c0, c1, c2, c3, c4, c5⟩, c6, c7, c8, c9, c10⟩ := blkH hh
 have HH8 := Lib.hid hh
 clear hh hg hp HC
 -- field 8
 go_wp2_with fail
 have HC := Lib.hid (put_closure (s := 4) (n := src) (ys := bel 4 src) (fun y => iput_4 src y hb5) HP8.out (Nat.le_refl _) (Nat.ne_of_gt HB.out) (by have := HK8.out.size; have := HSA.out; have := HB.out; omega) (by simp [bel_length]) (by rw [bel_length]; omega))
 with_reducible refine HC.out.mono ?_
 rintro e wk9 ⟨rfl, hp, hg⟩
 have HP9 := Lib.hid hp
 have HK9 := Lib.hid (HK8.out.trans hg)
 have hh := (hg.block _ (lt_of_block HH8.out) (fun hm => hm.2 rfl)).trans HH8.out
 obtain ⟨⟨c0, c1, c2, c3, c4, c5⟩, c6, c7, c8, c9, c10⟩ := blkH hh
 have HH9 := Lib.hid hh
 clear hh hg hp HC
 -- field 9
 go_wp2_with fail
 have HC := Lib.hid (put_closure (s := 4) (n := dst) (ys := bel 4 dst) (fun y => iput_4 dst y hb6) HP9.out (Nat.le_refl _) (Nat.ne_of_gt HB.out) (by have := HK9.out.size; have := HSA.out; have := HB.out; omega) (by simp [bel_length]) (by rw [bel_length]; omega))
 with_reducible refine HC.out.mono ?_
 rintro e wk10 ⟨rfl, hp, hg⟩
 have HP10 := Lib.hid hp
 have HK10 := Lib.hid (HK9.out.trans hg)
 have hh := (hg.block _ (lt_of_block HH9.out) (fun hm => hm.2 rfl)).trans HH9.out
 obtain ⟨⟨c0, c1, c2, c3, c4, c5⟩, c6, c7, c8, c9, c10⟩ := blkH hh
 have HH10 := Lib.hid hh
 clear hh hg hp HC
 -- the options
 have HK10 := HK10
 obtain ⟨L10, hL10⟩ : ∃ l, [] ++ bel 1 Q ++ bel 1 tos ++ bel 2 T ++ bel 2 id ++ bel 2 FW ++ bel 1 ttl ++ bel 1 proto ++ bel 2 0 ++ bel 4 src ++ bel 4 dst = l := ⟨_, rfl⟩
 have HL10 : Hid (L10.length = 20) := by show _ = _; rw [← hL10]; simp [bel_length]
 have HFd2 : Hid (L10 ++ os = H0) := by show _ = _; rw [← hL10]; exact HFd.out
 rw [hL10] at HP10
 clear HP0 HP1 HP2 HP3 HP4 HPF HP5 HP6 HP7 HP8 HP9 HK0 HK1 HK2 HK3 HK4 HKF HK5 HK6 HK7 HK8 HK9 HH HH1 HH2 HH3 HH4 HHF HH5 HH6 HH7 HH8 HH9 hL10 HFd
 obtain ⟨v, p1, p2, p3, p4⟩ := HP10.out
 have hcB := cell_of_one p1
 have hszk : wA.heap.size ≤ wk10.heap.size := HK10.out.size
 have hle : B ≤ wk10.heap.size := by have := HSA.out; omega
 have hAk : w.heap.size < wk10.heap.size := by have := HSA.out; have := HB.out; omega
 have HP1 := Lib.hid p1
 have HP2 := Lib.hid p2
 have HPn := Lib.hid (And.intro p3 p4)
 have HI := Lib.hid (HBody.out.mono (grow_mv HB.out HGA.out HK10.out)).2
 clear p1 p2 p3 p4
 go_wp2_with (at_builtin; refine wpList_append_ints_at (k := .u8) rfl _ _ 25 rfl B 5 i0 1 Tryz.underlying25 hi hz0 hz1 hz2 _ L10.length _ rfl HP2.out _ os rfl HI.out ?c3 ?c4 hle ?_)
 case c3 => have := HL10.out; have := HMl.out; unfold maxLen; omega
 case c4 => have := HL10.out; have := HMl.out; omega
 intro v' w2 hown hgrow hob
 obtain ⟨hB2, hp2, hk2⟩ := put_store HP1.out HP2.out HPn.out.1 HPn.out.2 (Nat.le_refl _) (Nat.ne_of_gt HB.out) hAk hown hgrow hob
 rw [HFd2.out] at hp2
 have HP11 := Lib.hid hp2
 have HK11 := Lib.hid (HK10.out.trans hk2)
 have c20 := cell_of_one hB2
 have f20 := free_of_one hB2
 have hsh := hown
 rw [← List.map_append] at hsh
 obtain ⟨ao', cp', rfl, _, _⟩ := (ints_of_owns hsh).shape
 rw [List.length_append] at HP11 HK11
 clear hown hgrow hob hB2 hp2 hk2 hsh c0 c1 c2 c3 c4 c5 c6 c7 c8 c9 c10 hcB HP10 hszk hle hAk HH10
 go_wp2_with fail
 -- the checksum
 generalize w2.setCell ⟨B, 0, none⟩ (.slice ao' (L10.length + os.length) cp') = w11 at *
 clear c20 f20
 obtain ⟨v, p1, p2, p3, p4⟩ := HP11.out
 obtain ⟨Lh, hLh⟩ : ∃ Lh : Nat, 20 + m = Lh := ⟨_, rfl⟩
 have HLh := Lib.hid hLh
 rw [HHl.out, hLh] at p2
 obtain ⟨g, cp, cur, rfl, hbg, hcur, hncp, hcpm, hcsz, hct⟩ := own_row p2 (by omega)
 have hgB : g ≠ B := fun e => p3 (by rw [e]; rfl)
 have HgB := Lib.hid hgB
 have HP1 := Lib.hid p1
 have HP2 := Lib.hid (own_up p2 (by omega) hgB)
 have HBH := Lib.hid (show BytesV w11 _ H0 from ⟨HH0.out, ints_of_owns p2⟩)
 have HG11 := Lib.hid (grow_mv HB.out HGA.out HK11.out)
 have k1 : (Lh : Int) ≤ (cp : Int) := by omega
 have k2 : ¬ cp = 10 := by omega
 have k3 : (10 : Int) ≤ (Lh : Int) := by omega
 have k4 : (10 : Int) ≤ (cp : Int) := by omega
 have K5 : Hid (20 ≤ Lh) := by show _ ≤ _; omega
 have HB11 : Hid (B < w11.heap.size) := lt_of_block p1
 unfold maxLen at hcpm
 clear p1 p2 p3 p4 hbg hcur hncp hcsz hct hLh hgB
 refine wpRg 7 ?_
 simp only [List.take_succ_cons, List.take_zero, List.drop_succ_cons, List.drop_zero]
 refine wpHd (.slice (some ⟨g, 0, none⟩) Lh cp) (fun w' hg => ?_) ?_
 ·have hx := cell_of_one ((hg.below.block _ HB11.out).trans HP1.out)
  clear hg
  go_simp
  exact Below.refl _ _
 try go_simp
 repeat (refine wpHp fun K hK => ?_; go_simp; refine hK _ ?_; clear hK K)
 refine wpHd (.slice (some ⟨g, 0, none⟩) Lh cp) (fun w' hg => ?_) ?_
 ·have hx := cell_of_one ((hg.below.block _ HB11.out).trans HP1.out)
  clear hg
  go_simp
  exact Below.refl _ _
 try go_simp
 repeat (refine wpHp fun K hK => ?_; go_simp; refine hK _ ?_; clear hK K)
 refine wpH_hid' (fun u x => RowsV x u [H0]) (by intro _ _ h; cases h) rfl (by rfl) (rows_stay _) (by rfl) (by rfl) (fun w' hg => ?_) ?_
 ·have hr := rows_new (w := w') [.slice (some ⟨g, 0, none⟩) Lh cp] [H0] 25 rfl (by simp [maxLen]) (fun i x hx => by
   match i, hx with
   | 0, hx => simp at hx; subst hx; exact HBH.out.mono hg.below)
  simp only [List.length_cons, List.length_nil, Nat.zero_add] at hr
  have HR := Lib.hid hr
  clear hg hr
  go_simp
  exact ⟨HR.out, (Below.refl _ _).alloc (Nat.le_refl _) _⟩
 try go_simp
 refine wpH_det (.int .u16 CK) (by rfl) (fun xs => by rfl) (fun xs w' hg hf => ?_) ?_
 ·have h1 := hf _ (List.Mem.head _) (by rfl)
  try dsimp only at h1
  have h := check_any _ _ _ h1
  simp only [List.flatten_cons, List.flatten_nil, List.append_nil, HCk.out] at h
  clear hf hg h1
  simp only [fill]
  generalize xs 77 = y77 at *
  go_simp
  with_reducible refine h.mono ?_
  rintro e w1 ⟨rfl, hg⟩
  exact ⟨_, rfl, rfl, hg⟩
 try go_simp
 repeat (refine wpHp fun K hK => ?_; go_simp; refine hK _ ?_; clear hK K)
 refine wpH_hid' (fun u x => BytesV x u (bel 2 CK)) (by intro _ _ h; cases h) rfl (by rfl) (bytes_stay _) (by rfl) (by rfl) (fun w' hg => ?_) ?_
 ·have h := iput_2 CK w' HCB.out
  clear hg
  go_simp
  with_reducible refine h.mono ?_
  rintro e w1 ⟨v, rfl, h⟩
  exact ⟨_, rfl, newb_bytes h (bel_bytes _ _), h.2⟩
 try go_simp
 refine wpH_nil ?_
 intro xs w12 hg hx1 hx2
 have hy := hx2 _ _ (List.Mem.head _)
 try dsimp only at hy
 have HG12 : Hid (Grow w11 w12) := hg.below
 have HO12 := Lib.hid (own_stays HP2.out hg.below)
 have HP12 := Lib.hid ((hg.below.block _ HB11.out).trans HP1.out)
 have HY := Lib.hid hy
 clear hg hy hx1 hx2
 simp only [fill]
 generalize xs 80 = y80 at *
 generalize xs 77 = y77 at *
 go_simp
 refine wpList_put2 rfl _ _ 25 5 rfl Tryz.underlying25 (by kernel_rfl) g Lh cp 10 (Lh - 10) (cp - 10) rfl y80 rfl (bel 2 CK) 2 (bel_length _ _) (by omega) HY.out (by have := K5.out; omega) (B + 1) w11 H0 HO12.out (by have := K5.out; omega) (HG12.out.mono (Nat.succ_le_of_lt HB11.out)) ?_
 rw [HPb.out]
 intro w13 vv HO13 hb13
 have hB13 := (hb13.block B (Nat.lt_succ_self _)).trans HP1.out
 have c30 := cell_of_one hB13
 have HG13 : Hid (Grow w w13) := ⟨hb13.os.trans HG11.out.os, hb13.tape.trans HG11.out.tape, hb13.output.trans HG11.out.output, Nat.le_trans HG11.out.size hb13.size, fun k hk => (hb13.block k (by have := HB.out; omega)).trans (HG11.out.block k hk)⟩
 clear hb13 hB13
 -- the payload
 have HI2 := Lib.hid (HPay.out.mono HG13.out).2
 have hdl : (HDR.map (Value.int .u8)).length = Lh := by rw [List.length_map, HHr.out]; exact HLh.out
 have HLd : Hid (HDR.length = Lh) := by show _ = _; rw [HHr.out]; exact HLh.out
 have hle : B + 1 ≤ w13.heap.size := by have := HO13.out.lt g rfl; omega
 clear hdl
 go_wp2_with (at_builtin; refine wpList_append_ints (k := .u8) rfl _ _ 25 rfl (B + 1) 5 i0 1 Tryz.underlying25 hi hz0 hz1 hz2 _ Lh _ rfl HO13.out _ pl rfl HI2.out ?c3 ?c4 hle ?_)
 case c3 => have := HNl.out; have := HLh.out; unfold maxLen; omega
 case c4 => have := HNl.out; have := HLh.out; omega
 intro v' w14 hown hgrow
 have HRes : Hid (NewBytes w PK v' w14) := by
  refine ⟨?_, HG13.out.grown hgrow HG13.out.size (fun k hk => by have e : g = k := (by simpa [Value.ownBlock] using hk); have := (HO13.out.lt g rfl).1; have := HB.out; omega)⟩
  rw [HPk.out, List.length_append, HLd.out, List.map_append]
  exact own_less hown (by have := HB.out; omega)
 clear hown hgrow
 go_wp2_with fail
 go_ret2
 exact ⟨_, rfl, HRes.out⟩
end
end Go.Proofs.YtgckhdepnmiejaaGreat
namespace Go.Proofs.YtgckhdepnmiejaaGreat
section
set_option maxRecDepth 100000
open Go.RowKit Go.Shelf
attribute [local go_sem] Oper.semAt_some
/-- A piece's bytes. -/
def pieceP (pl : List Int) (M : Nat) (os : List Int) (k : Nat) : List Int := (pl.drop k).take (pieceN M pl.length os k)
def pieceB (h : Hd) (pl : List Int) (M k : Nat) : List Int := pkt (pieceH h M pl.length k (.slice none 0 0)) (pieceP pl M h.os k)
theorem pieceH_raw {h : Hd} (r : Raw h) {M L : Nat} (v : Value) (k : Nat) (hk : h.off + (k / 8 : Nat) ≤ 8191) : Raw (pieceH h M L k v) := by
 obtain ⟨q1, q2, q3, q4⟩ := pieceO_raw r k
 exact ⟨r.tos, r.id, by have := r.off; constructor <;> simp only [pieceH] <;> omega, r.ttl, r.proto, r.src, r.dst, q4, q2, q3, q1⟩
theorem pieceP_length {h : Hd} (r : Raw h) {pl : List Int} {M k : Nat} (hM : 68 ≤ M) (hk : k < pl.length) : (pieceP pl M h.os k).length = pieceN M pl.length h.os k := by
 have := pieceN_pos r hM hk
 unfold pieceP
 rw [List.length_take, List.length_drop]; omega
theorem piece_bytes {x : World} {h : Hd} {pl : List Int} {M k : Nat} (r : Raw h) (hM : 68 ≤ M) (hlt : k < pl.length) (hof : h.off + pl.length ≤ 8000) (hl : pl.length ≤ 10000) {v u : Value}
  (hv : BytesV x v (pieceO h.os k)) (hu : BytesV x u (pieceP pl M h.os k)) :
  Calls Tryz.prog 50 #[(pieceH h M pl.length k v).val, u] x fun e w' => ∃ v, e = .returned (.tuple #[v, .int .i64 0]) ∧ NewBytes x (pieceB h pl M k) v w' := by
 have r2 : Raw (pieceH h M pl.length k v) := pieceH_raw r v k (by omega)
 have hn := pieceN_pos r hM hlt
 have hb : 20 + (pieceH h M pl.length k v).os.length + (pieceP pl M h.os k).length ≤ 65535 := by
  rw [pieceP_length r hM hlt]
  have h1 := (pieceO_raw r k).2.1
  show 20 + (pieceO h.os k).length + _ ≤ _
  omega
 exact ipbytes_any (pieceH h M pl.length k v) (pieceP pl M h.os k) u x (r2.ok hv.2) r2.may hu hb
/-- Bytes of one's own, in a pair with a nought. -/
def TupB (base : Nat) (zs : List Int) (u : Value) (x : World) : Prop := ∃ v, u = .tuple #[v, .int .i64 0] ∧ x.ownsRow base 5 1 v zs.length (zs.map (Value.int .u8))
theorem tupB_stay {base : Nat} {zs : List Int} {u : Value} {x x' : World} (h : TupB base zs u x) (hg : Grow x x') : TupB base zs u x' := by
 obtain ⟨v, e, ho⟩ := h
 exact ⟨v, e, own_grow ho hg⟩
set_option maxHeartbeats 8000000 in
theorem pieces_seq (n : Nat) {BP BF : Nat} {h : Hd} {pl : List Int} {M : Nat} (w w₁ : World) (hw : Below w.heap.size w w₁) (hP : PiecesAt w BP BF h pl M) (hof : h.off + pl.length ≤ 8000) :
  SeqR Fence.wide n Tryz.prog 131 #[.pointer (some ⟨BP, 0, none⟩), .pointer (some ⟨BF, 0, none⟩)] (fun x : Come => #[x.v]) (Come.is w.heap.size) (Below w.heap.size) (fun xs => xs.map (·.zs) = (cuts M pl.length h.os).map (pieceB h pl M)) 10000 w₁ := by
 intro l J W hW' hJ hY h0
 have hW : Below w.heap.size w W := hw.trans (hW'.mono hw.size)
 clear hW' hw
 obtain ⟨BH, BM, ao, cap, po, pc, hPA, hF⟩ := hP
 have HPA := Lib.hid (hPA.mono hW)
 have HF := Lib.hid ((hW.block _ (lt_of_block hF)).trans hF)
 have HY := Lib.hid hY
 have HW := Lib.hid hW
 have HJ := Lib.hid hJ
 have HOF := Lib.hid hof
 have HLT : Hid (BH < w.heap.size ∧ BP < w.heap.size ∧ BM < w.heap.size ∧ BF < w.heap.size) := ⟨lt_of_block hPA.hd, lt_of_block hPA.pd, lt_of_block hPA.md, lt_of_block hF⟩
 have HPW := Lib.hid hPA
 clear hPA hF hY hW hJ hof
 refine callsIn_of_wp Tryz.func131 rfl trivial ?_ rfl
 simp only [Tryz.ntmps131, List.size_toArray, List.length_cons, List.length_nil, Nat.reduceAdd, Nat.reduceSub, Array.replicate_succ, Array.replicate_zero, List.push_toArray, List.append_toArray, List.nil_append, List.cons_append]
 gi_wp2
 gi_loopw [4] (fun i wr => ∃ (k : Nat) (pre : List Come), i = .int .i64 k ∧ k ≤ pl.length ∧ Hid (pre.map (·.zs) ++ (cutsFrom M pl.length h.os k).map (pieceB h pl M) = (cuts M pl.length h.os).map (pieceB h pl M)) ∧ pre.length ≤ k ∧ J pre wr ∧ Below w.heap.size w wr)
  (fun i _ => pl.length - (intOf i).toNat)
 case atStart => exact ⟨0, [], rfl, Nat.zero_le _, rfl, Nat.le_refl _, h0, HW.out⟩
 case round =>
  obtain ⟨k, pre, rfl, hk, HS, hpk, hJ, hb⟩ := hrel
  have HPr : Hid (PieceAt wr BH BP BM h ao cap po pc pl M) := HPW.out.mono hb
  have c0 := cell_of_one HPr.out.pd
  have hF0 : w.heap[BF]? = some (.cells #[.func (.func 129) #[] #[.pointer (some ⟨BH, 0, none⟩), .pointer (some ⟨BP, 0, none⟩), .pointer (some ⟨BM, 0, none⟩)]] 233 (0, 0)) := by
   have := HF.out
   exact (HW.out.block BF HLT.out.2.2.2).symm.trans this
  have c1 := cell_of_one ((hb.block _ HLT.out.2.2.2).trans hF0)
  by_cases hlt : k < pl.length
  ·have hpc := piece_any HPr.out k hlt
   unfold Pieced at hpc
   simp only [Hd.val, Hd.cells, hdCells, pieceH] at hpc
   obtain ⟨OF, hOF⟩ : ∃ x : Int, x = h.off + ((k / 8 : Nat) : Int) := ⟨_, rfl⟩
   obtain ⟨MF, hMF⟩ : ∃ x : Bool, x = (h.mf || decide (pieceR M h.os k < pl.length - k)) := ⟨_, rfl⟩
   obtain ⟨N, hN⟩ : ∃ x : Nat, x = pieceN M pl.length h.os k := ⟨_, rfl⟩
   rw [← hOF, ← hMF, ← hN] at hpc
   have HPc := Lib.hid hpc
   have HEq : Hid (OF = h.off + ((k / 8 : Nat) : Int) ∧ MF = (h.mf || decide (pieceR M h.os k < pl.length - k)) ∧ N = pieceN M pl.length h.os k) := ⟨hOF, hMF, hN⟩
   have hnp := pieceN_pos HPr.out.raw HPr.out.m.1 hlt
   rw [← hN] at hnp
   obtain ⟨hn0, hn1, _⟩ := hnp
   have hpl := HPr.out.l
   have hwk : IntKind.i64.wrap ((k : Int) + (N : Int)) = (k : Int) + (N : Int) := IntWalk.i64_in _ (by omega)
   clear hpc hOF hMF hN
   gi_wp2
   refine ⟨trivial, fun h => (by cases h), (callsIn_wide.2 HPc.out).mono ?_⟩
   rintro e w5 ⟨v, rfl, hv, hg⟩
   obtain ⟨av, cv, rfl, _, _⟩ := hv.shape
   have HV5 := Lib.hid hv
   have HG5 := Lib.hid hg
   have c1' := (hg.cell (block_lt c1)).trans c1
   have c0' := (hg.cell (block_lt c0)).trans c0
   clear hv hg HPc
   gi_wp2
   obtain ⟨w6, hw6⟩ : ∃ x, w5.alloc (.cells #[.int .u8 h.tos, .int .u16 h.id, .bool h.evil, .bool h.df, .bool MF, .int .i64 OF, .int .u8 h.ttl, .int .u8 h.proto, .int .u32 h.src, .int .u32 h.dst, .slice av (pieceO h.os k).length cv] 27) = x := ⟨_, rfl⟩
   have hB := heap_alloc_new w5 (.cells #[.int .u8 h.tos, .int .u16 h.id, .bool h.evil, .bool h.df, .bool MF, .int .i64 OF, .int .u8 h.ttl, .int .u8 h.proto, .int .u32 h.src, .int .u32 h.dst, .slice av (pieceO h.os k).length cv] 27)
   have hG6 : Grow w5 (w5.alloc (.cells #[.int .u8 h.tos, .int .u16 h.id, .bool h.evil, .bool h.df, .bool MF, .int .i64 OF, .int .u8 h.ttl, .int .u8 h.proto, .int .u32 h.src, .int .u32 h.dst, .slice av (pieceO h.os k).length cv] 27)) := (Grow.refl w5).alloc _
   rw [hw6] at hB hG6 ⊢
   have HB6 := Lib.hid hB
   have HG6 := Lib.hid (HG5.out.trans hG6)
   have HV6 := Lib.hid (HV5.out.mono hG6)
   have HPA6 := Lib.hid (HPr.out.mono HG6.out)
   obtain ⟨bp, op, cp, hpo, hpc1, hpc2⟩ := HPr.out.pay.2.solid (by intro e; rw [e] at hlt; simp at hlt)
   injection hpo with hpo1 hpo2 hpo3
   subst hpo1 hpo3
   have HPB : Hid (BytesV wr (.slice (some ⟨bp, op, none⟩) pl.length pc) pl) := HPr.out.pay
   have c0'' := (HG6.out.cell (block_lt c0)).trans c0
   clear hw6 hB hG6 HV5 HPr c1 c1' c0 c0' hpo2
   unfold maxLen at hpc2
   have hk1 : (k : Int) + (N : Int) ≤ (pc : Int) := by omega
   have hk2 : (k : Int) ≤ (k : Int) + (N : Int) := by omega
   have hk3 : ¬ pc = k := by omega
   have hk4 : (k : Int) + (N : Int) - (k : Int) = (N : Int) := by omega
   have hk5 : ¬ N = 0 := by omega
   have hk6 : ((k : Int) + (N : Int)).toNat = k + N := by omega
   have hk7 : k + N - k = N := by omega
   have hk8 : ¬ k + N = k := by omega
   have hby : ∀ x, Grow w6 x → Calls Tryz.prog 50 #[.agg #[.int .u8 h.tos, .int .u16 h.id, .bool h.evil, .bool h.df, .bool MF, .int .i64 OF, .int .u8 h.ttl, .int .u8 h.proto, .int .u32 h.src, .int .u32 h.dst, .slice av (pieceO h.os k).length cv], .slice (some ⟨bp, op + k, none⟩) N N] x fun e w' => ∃ v, e = .returned (.tuple #[v, .int .i64 0]) ∧ NewBytes x (pieceB h pl M k) v w' := fun x hx => by
    obtain ⟨e1, e2, e3⟩ := HEq.out
    have hs := bytes_sub (HPB.out.mono (HG6.out.trans hx)) k (k + N) (by omega) hn1
    rw [show k + N - k = N by omega] at hs
    have hll : ((pl.drop k).take N).length = N := by rw [List.length_take, List.length_drop]; omega
    have hs2 : BytesV x (.slice (some ⟨bp, op + k, none⟩) N N) ((pl.drop k).take N) := ⟨hs.1, Or.inr ⟨bp, op + k, N, by rw [hll], by rw [hll]; exact Nat.le_refl _, by unfold maxLen; omega, hs.2.cells⟩⟩
    rw [e3] at hs2
    have := piece_bytes HPA6.out.raw HPA6.out.m.1 hlt HOF.out HPA6.out.l (HV6.out.mono hx) hs2
    simp only [Hd.val, Hd.cells, hdCells, pieceH] at this
    rw [← e1, ← e2, ← e3] at this
    exact this
   have HBy := Lib.hid hby
   clear hby
   refine wpIn_region_grow (opened_wide _ _) 16 [] NoBlock (fun _ => True) (by kernel_rfl) (by kernel_rfl) (by kernel_rfl) (by rfl) (fun _ _ _ _ => trivial) trivial ?_
   simp only [List.take_succ_cons, List.take_zero, List.drop_succ_cons, List.drop_zero]
   refine wpHd (.agg #[.int .u8 h.tos, .int .u16 h.id, .bool h.evil, .bool h.df, .bool MF, .int .i64 OF, .int .u8 h.ttl, .int .u8 h.proto, .int .u32 h.src, .int .u32 h.dst, .slice av (pieceO h.os k).length cv]) (fun w' hg => ?_) ?_
   ·obtain ⟨⟨y0, y1, y2, y3, y4, y5⟩, y6, y7, y8, y9, y10⟩ := blkH ((hg.below.block _ (lt_of_block HB6.out)).trans HB6.out)
    clear hg
    go_simp
    exact Below.refl _ _
   try go_simp
   refine wpHd (.slice (some ⟨bp, op, none⟩) pl.length pc) (fun w' hg => ?_) ?_
   ·have hx := (hg.below.cell (block_lt c0'')).trans c0''
    clear hg
    go_simp
    exact Below.refl _ _
   try go_simp
   repeat (refine wpHp fun K hK => ?_; go_simp; refine hK _ ?_; clear hK K)
   refine wpH_hid' (TupB w6.heap.size (pieceB h pl M k)) (by intro _ _ h; cases h) rfl (by rfl) (fun u x x' hg h => tupB_stay h hg.below) (by rfl) (by rfl) (fun w' hg => ?_) ?_
   ·have h := HBy.out w' hg.below
    have HS := Lib.hid hg.below.size
    clear hg
    go_simp
    with_reducible refine h.mono ?_
    rintro e w1 ⟨u, rfl, hn⟩
    exact ⟨_, rfl, ⟨u, rfl, own_less hn.1 HS.out⟩, hn.2⟩
   try go_simp
   refine wpH_hid (TupB w6.heap.size (pieceB h pl M k)) rfl (by rfl) (fun u x x' hg h => tupB_stay h hg.below) (fun xs => by rfl) (fun xs w' hg hf => ?_) ?_
   ·have h1 := hf _ (List.Mem.head _) (by rfl)
    dsimp only at h1
    simp only [fill]
    generalize xs 30 = y at *
    clear hf hg
    obtain ⟨u, rfl, ho⟩ := h1
    have HO := Lib.hid ho
    clear ho
    go_simp
    exact ⟨⟨u, rfl, HO.out⟩, Below.refl _ _⟩
   refine wpH_hid (OwnB w6.heap.size (pieceB h pl M k)) rfl (by rfl) (fun u x x' hg h => own_grow h hg.below) (fun xs => by rfl) (fun xs w' hg hf => ?_) ?_
   ·have h1 := hf _ (List.Mem.head _) (by rfl)
    dsimp only at h1
    simp only [fill]
    generalize xs 19 = y at *
    clear hf hg
    obtain ⟨u, rfl, ho⟩ := h1
    have HO := Lib.hid ho
    clear ho
    go_simp
    exact ⟨HO.out, Below.refl _ _⟩
   refine wpH_det (.int .i64 0) (by rfl) (fun xs => by rfl) (fun xs w' hg hf => ?_) ?_
   ·have h1 := hf _ (List.Mem.tail _ (List.Mem.head _)) (by rfl)
    dsimp only at h1
    simp only [fill]
    generalize xs 19 = y at *
    clear hf hg
    obtain ⟨u, rfl, ho⟩ := h1
    clear ho
    go_simp
    exact Below.refl _ _
   try go_simp
   refine wpH_hid (OwnB w6.heap.size (pieceB h pl M k)) rfl (by rfl) (fun u x x' hg h => own_grow h hg.below) (fun xs => by rfl) (fun xs w' hg hf => ?_) ?_
   ·have h1 := hf _ (List.Mem.head _) (by rfl)
    dsimp only at h1
    simp only [fill]
    generalize xs 31 = y at *
    clear hf hg
    have HO := Lib.hid h1
    clear h1
    go_simp
    exact ⟨HO.out, Below.refl _ _⟩
   try go_simp
   repeat (refine wpHp fun K hK => ?_; go_simp; refine hK _ ?_; clear hK K)
   refine wpH_nil ?_
   intro xs w7 hg hc hx2
   have h7 := hx2 _ _ (List.Mem.head _)
   try dsimp only at h7
   have hG7 : Grow wr w7 := HG6.out.trans hg.below
   have hs6 : w.heap.size ≤ w6.heap.size := Nat.le_trans hb.size HG6.out.size
   have hJ7 := HJ.out _ _ _ none hJ (grown_none hG7) (fun r e => by cases e)
   have hby : Bytes (pieceB h pl M k) := pkt_bytes (pieceH_raw HPA6.out.raw _ k (by have := HOF.out; omega)) (fun x hx => HPB.out.1 x (List.mem_of_mem_drop (List.mem_of_mem_take hx)))
   have hb7 : Below w.heap.size w w7 := hb.trans (Below.mono hG7 hb.size)
   have HF7 := Lib.hid h7
   clear hx2 hc hg h7
   simp only [fill]
   generalize xs 7 = y7 at *
   generalize xs 19 = y19 at *
   generalize xs 30 = y30 at *
   generalize xs 31 = y31 at *
   have hsh : ∃ a n c, y7 = .slice a n c := by obtain ⟨a, c, e, _, _⟩ := (ints_of_owns HF7.out).shape; exact ⟨a, _, c, e⟩
   obtain ⟨fn, tmps, assign, body, hy, hR⟩ := HY.out pre ⟨y7, pieceB h pl M k, hsh⟩ w7 hJ7 ⟨own_less HF7.out hs6, hby⟩ (by omega)
   dsimp only at hy
   have HR := Lib.hid hR
   have HB7 := Lib.hid hb7
   clear hG7 hJ7 hby hb7 hR hs6
   gi_wp2
   refine ⟨fun h => (by cases h), HR.out.mono ?_⟩
   rintro e W3 ⟨rfl, hJ4, hk4⟩
   have HJ4 := Lib.hid hJ4
   have HB4 := Lib.hid (HB7.out.trans hk4)
   have HS4 : Hid ((pre ++ [(⟨y7, pieceB h pl M k, hsh⟩ : Come)]).map (·.zs) ++ (cutsFrom M pl.length h.os (k + N)).map (pieceB h pl M) = (cuts M pl.length h.os).map (pieceB h pl M)) := by
    show _ = _
    rw [← HS.out, cuts_eq HPA6.out.raw HPA6.out.m.1 hlt, ← HEq.out.2.2, List.map_append, List.append_assoc]
    rfl
   clear hJ4 hk4 hy HS
   gi_wp2
   go_roundw
   case rel => exact ⟨k + N, _, by simp, hn1, HS4.out, by simp; omega, HJ4.out, HB4.out⟩
   case measure => simp [intOf]; omega
  ·gi_wp2
   go_end0
   have hS := HS.out
   rw [cuts_end hlt, List.map_nil, List.append_nil] at hS
   exact ⟨⟨_, rfl⟩, pre, hS, hJ⟩
end
end Go.Proofs.YtgckhdepnmiejaaGreat
namespace Go.Proofs.YtgckhdepnmiejaaGreat
section
set_option maxRecDepth 100000
open Go.RowKit Go.Shelf
attribute [local go_sem] Oper.semAt_some
theorem own_keeps {X Y : World} {base n : Nat} {e : TypeId} {size : Nat} {v : Value} {xs : List Value} {row : Option Nat} (h : X.ownsRow base e size v n xs) (hg : X.grownBy Y row) (hr : ∀ r, row = some r → ∃ o : Obj, X.heap[r]? = some o ∧ o.isCells = false) : Y.ownsRow base e size v n xs := by
 obtain ⟨h1, h2⟩ := h
 refine ⟨h1, h2.imp id ?_⟩
 rintro ⟨g, cap, cur, e1, e2, e3, e4⟩
 refine ⟨g, cap, cur, e1, e2, (hg.block g (lt_of_block e3) (fun hh => ?_)).trans e3, e4⟩
 obtain ⟨o, ho, hc⟩ := hr g hh.symm
 rw [e3] at ho
 cases ho
 cases hc
def Comes (n₀ : Nat) (W : World) (l : List Come) : Prop := ∀ x ∈ l, x.is n₀ W
theorem comes_nil (n₀ : Nat) (W : World) : Comes n₀ W [] := fun x hx => absurd hx (by simp)
theorem comes_own (n₀ : Nat) : Own (fun (s : List Come) W => Comes n₀ W s) := fun s X Y row hs hg hr x hx => ⟨own_keeps (hs x hx).1 hg hr, (hs x hx).2⟩
def Cuts (W : World) (n₀ B : Nat) (l : List Come) : Prop := ∃ v, Boxed W B 33 v ∧ W.ownsRow n₀ 25 1 v l.length (l.map (·.v))
theorem cuts_own (n₀ B : Nat) : Own (fun (s : List Come) W => Cuts W n₀ B s) := by
 rintro s X Y row ⟨v, hv, hr⟩ hg hrow
 obtain ⟨v', hv', hr', rfl⟩ := holdsRow_own n₀ B 33 25 1 (fun s : List Come => s.length) (fun s => s.map (·.v)) (fun _ u => u = v) s X Y row ⟨v, hv, hr, rfl⟩ hg hrow
 exact ⟨_, hv', hr'⟩
/-- What has come stays, where the list grows and its box is written. -/
theorem come_stays {W w1 : World} {n₀ B : Nat} {v v' : Value} {k : Nat} {xs : List Value} {o : Obj} {y : Come} (hy : y.is n₀ W) (hv : Boxed W B 33 v) (hrow : W.ownsRow n₀ 25 1 v k xs) (hgrow : (W.alloc o).grownBy w1 v.ownBlock) : y.is n₀ (w1.setCell ⟨B, 0, none⟩ v') := by
 obtain ⟨⟨h1, h2⟩, hb⟩ := hy
 refine ⟨⟨h1, h2.imp id ?_⟩, hb⟩
 rintro ⟨g, cap, cur, e1, e2, e3, e4⟩
 refine ⟨g, cap, cur, e1, e2, ?_, e4⟩
 have hgB : g ≠ B := fun e => by
  have h : W.heap[B]? = _ := hv
  rw [← e, e3] at h
  simp at h
 rw [Below.heap_setCell _ _ _ _ (show g ≠ B from hgB)]
 refine (hgrow.block g (by rw [World.size_alloc]; exact Nat.lt_succ_of_lt (lt_of_block e3)) (fun hh => ?_)).trans ((Below.heap_alloc _ _ _ (lt_of_block e3)).trans e3)
 rcases hrow.2 with ⟨rfl, _⟩ | ⟨g', cap', cur', rfl, _, hgb, _⟩
 ·simp [Value.ownBlock] at hh
 ·obtain rfl : g = g' := by simpa [Value.ownBlock] using hh
  rw [e3] at hgb
  simp at hgb
theorem infoBs : (Tryz.prog.info? 25).map (fun i => (i.zero, i.size, i.bytes)) = some (some (.slice none 0 0), 1, 24) := by kernel_rfl
/-- Its pieces' bytes. -/
def frags (h : Hd) (pl : List Int) (M : Nat) : List (List Int) := if 20 + h.os.length + pl.length ≤ M then [pkt h pl] else (cuts M pl.length h.os).map (pieceB h pl M)
/-- A new list of new slices of bytes. -/
def RowsN (W : World) (n₀ : Nat) (v : Value) (rows : List (List Int)) : Prop :=
 ∃ vs : List Value, vs.length = rows.length ∧ W.ownsRow n₀ 25 1 v vs.length vs ∧ ∀ i, i < rows.length → W.ownsRow n₀ 5 1 (vs.getD i undef) (rows.getD i []).length ((rows.getD i []).map (Value.int .u8)) ∧ Bytes (rows.getD i [])
theorem own_less1 {w : World} {base base' n size : Nat} {e : TypeId} {v : Value} {xs : List Value} (h : w.ownsRow base e size v n xs) (hb : base' ≤ base) : w.ownsRow base' e size v n xs := by
 obtain ⟨h1, h2⟩ := h
 exact ⟨h1, h2.imp id fun ⟨g, cap, cur, e1, e2, e3⟩ => ⟨g, cap, cur, e1, Nat.le_trans hb e2, e3⟩⟩
theorem RowsN.less {W : World} {n₀ n₁ : Nat} {v : Value} {rows : List (List Int)} (h : RowsN W n₀ v rows) (hn : n₁ ≤ n₀) : RowsN W n₁ v rows := by
 obtain ⟨vs, h1, h2, h3⟩ := h
 exact ⟨vs, h1, own_less1 h2 hn, fun i hi => ⟨own_less1 (h3 i hi).1 hn, (h3 i hi).2⟩⟩
theorem RowsN.mono {W W' : World} {n₀ : Nat} {v : Value} {rows : List (List Int)} (h : RowsN W n₀ v rows) (hg : Grow W W') : RowsN W' n₀ v rows := by
 obtain ⟨vs, h1, h2, h3⟩ := h
 exact ⟨vs, h1, own_grow h2 hg, fun i hi => ⟨own_grow (h3 i hi).1 hg, (h3 i hi).2⟩⟩
theorem RowsN.but {M : Nat → Prop} {W W' : World} {n₀ : Nat} {v : Value} {rows : List (List Int)} (h : RowsN W n₀ v rows) (hg : GrowBut M W W') (hm : ∀ k, M k → k < n₀) : RowsN W' n₀ v rows := by
 obtain ⟨vs, h1, h2, h3⟩ := h
 exact ⟨vs, h1, own_but h2 hg hm, fun i hi => ⟨own_but (h3 i hi).1 hg hm, (h3 i hi).2⟩⟩
/-- The walk of Cut behind the call of Pieces. -/
def Cutted (h : Hd) (pl : List Int) (M : Nat) (w : World) (e : Ending) (w' : World) : Prop :=
 ∃ v, e = .returned (.tuple #[v, .int .i64 0]) ∧ RowsN w' w.heap.size v (frags h pl M) ∧ Grow w w'
theorem owns_shape {W : World} {base n : Nat} {e : TypeId} {v : Value} {xs : List Value} (h : W.ownsRow base e 1 v n xs) : ∃ ao cap, v = .slice ao n cap ∧ n ≤ cap ∧ cap ≤ maxLen := by
 obtain ⟨h1, h2⟩ := h
 rcases h2 with ⟨rfl, h3⟩ | ⟨g, cap, cur, rfl, e2, e3, e4, e5, e6, e7⟩
 ·exact ⟨none, 0, by rw [h3], by omega, Nat.zero_le _⟩
 ·exact ⟨_, cap, rfl, e4, e5⟩
/-- The list, read as rows. -/
theorem rowsN_of_comes {W : World} {n₀ : Nat} {v : Value} {l : List Come} (hr : W.ownsRow n₀ 25 1 v l.length (l.map (·.v))) (hc : ∀ x ∈ l, x.is n₀ W) : RowsN W n₀ v (l.map (·.zs)) := by
 refine ⟨l.map (·.v), by simp, by rw [List.length_map]; exact hr, fun i hi => ?_⟩
 rw [List.length_map] at hi
 have hx : (l.map (·.v)).getD i undef = (l[i]'hi).v := by rw [List.getD_eq_getElem?_getD, List.getElem?_map, List.getElem?_eq_getElem hi]; rfl
 have hz : (l.map (·.zs)).getD i [] = (l[i]'hi).zs := by rw [List.getD_eq_getElem?_getD, List.getElem?_map, List.getElem?_eq_getElem hi]; rfl
 rw [hx, hz]
 exact hc _ (List.getElem_mem hi)
theorem RowsN.rows {W : World} {n₀ : Nat} {v : Value} {rows : List (List Int)} (h : RowsN W n₀ v rows) : RowsV W v rows := by
 obtain ⟨vs, h1, hr, h3⟩ := h
 have hcells := fun g hg => hr.cells (g := g) hg
 rcases hr.2 with ⟨rfl, h0⟩ | ⟨g, cap, cur, rfl, _, _, e4, e5, _⟩
 ·exact Or.inl ⟨List.length_eq_zero_iff.1 (by omega), none, 0, rfl, by simp [maxLen]⟩
 ·refine Or.inr ⟨g, 0, cap, by rw [← h1], by omega, e5, fun i hi => ?_⟩
  refine ⟨vs.getD i undef, ?_, (h3 i hi).2, ints_of_owns (h3 i hi).1⟩
  have := hcells g rfl i (vs.getD i undef) (by rw [List.getD_eq_getElem?_getD, List.getElem?_eq_getElem (by omega)]; rfl)
  rwa [Addr.add_lit] at this
set_option maxHeartbeats 4000000 in
theorem cut_walk {w : World} {b off L cap : Nat} {h : Hd} {pl : List Int} {M : Nat} {fn : FuncId} {lb : Array Value} (Ok : World → Prop)
  (hP : Calls Tryz.prog 113 #[.slice (some ⟨b, off, none⟩) L cap, .int .i64 M] w fun e w' => ∃ lb : Array Value, e = .returned (.tuple #[.func (.func fn) #[] lb, .int .i64 0]) ∧
   (∀ w₁, Below w'.heap.size w' w₁ → SeqR Fence.wide 3 Tryz.prog fn lb (fun x : Come => #[x.v]) (Come.is w'.heap.size) (Below w'.heap.size) (fun xs => xs.map (·.zs) = frags h pl M) 10000 w₁) ∧ Grow w w')
  (henter : ∀ args w, (callFunc fn args).run Tryz.prog w = .ok (.enter fn args) w) :
  Calls Tryz.prog 93 #[.slice (some ⟨b, off, none⟩) L cap, .int .i64 M] w (Cutted h pl M w) := by
 obtain ⟨i0, hi, hz0, hz1, hz2⟩ := info_parts infoBs
 refine (callsIn_wide (n := 4)).1 ?_
 refine callsIn_of_wp_marks Tryz.func93 rfl trivial ?_ rfl
 simp only [Tryz.ntmps93, List.size_toArray, List.length_cons, List.length_nil, Nat.reduceAdd, Nat.reduceSub, Array.replicate_succ, Array.replicate_zero, List.push_toArray, List.append_toArray, List.nil_append, List.cons_append]
 have hro : Fence.wide.round = none := rfl
 have HPs := Lib.hid hP
 clear hP
 gi_wp2_with fail
 refine ⟨trivial, ((callsIn_wide (n := 3)).2 HPs.out).mono ?_⟩
 rintro e w1 ⟨lb, rfl, hseq, hg⟩
 have HSeq := Lib.hid hseq
 have HG1 := Lib.hid hg
 clear hseq hg HPs
 gi_wp2_with fail
 have bO := Boxed.new w1 33 (.slice none 0 0)
 have hB0 : Below w1.heap.size w1 (w1.alloc (.cells #[.slice none 0 0] 33)) := (Below.refl _ w1).alloc (Nat.le_refl _) _
 refine wpIn_rangeFunc_R hro (by omega) (gf := fn) (lb := lb) rfl trivial henter (HSeq.out _ hB0) (belowK_t) (belowK_b (by simp)) (fun x W l o o' hx hl ho => ⟨own_keeps hx.1 (grownBy_putObj' W l o') (fun r e => by cases e; exact ⟨o, hl, ho⟩), hx.2⟩) (fun _ => rfl)
  (fun pre W => Cuts W w1.heap.size w1.heap.size pre ∧ Comes w1.heap.size W pre ∧ Below w1.heap.size w1 W)
  (OwnFrom.and (Own.from (cuts_own _ _) _) (OwnFrom.and (Own.from (comes_own _) _) (ownFrom_below (Nat.le_refl _) (by simp))))
  ⟨⟨_, bO, World.ownsRow_nil _ _ _ _⟩, comes_nil _ _, hB0⟩
  (fun x => { tmps := #[.slice (some ⟨b, off, none⟩) L cap, .int .i64 M, undef, undef, .slice none 0 0, .int .i64 0, .func (.func fn) #[] lb, .int .i64 0, .pointer (some ⟨w1.heap.size, 0, none⟩), x.v, .tuple #[.func (.func fn) #[] lb, .int .i64 0], .slice (some ⟨b, off, none⟩) L cap, .int .i64 M, .tuple #[.func (.func fn) #[] lb, .int .i64 0], .func (.func fn) #[] lb, .int .i64 0, .func (.func fn) #[] lb, x.v, undef, undef, undef, undef, undef, undef], defers := [] }) ?assign ?body ?done
 case assign =>
  intro l x W K hK
  gi_wp2
  exact hK
 case body =>
  rintro l pre x W ⟨⟨v, hv, hrow⟩, hcs, hB⟩ hx hlt
  obtain ⟨xa, xn, xc, hxv⟩ := x.sl
  have HX := Lib.hid hx
  have HCS := Lib.hid hcs
  have HPL := Lib.hid hlt
  have HXV := Lib.hid hxv
  obtain ⟨xv, hxv2⟩ : ∃ y, x.v = y := ⟨_, rfl⟩
  have HXV2 := Lib.hid hxv2
  rw [hxv2] at hxv ⊢
  have hcv := hv.cell
  clear hx hcs hlt hxv2
  subst hxv
  have HV := Lib.hid hv
  have HR := Lib.hid hrow
  have HBd := Lib.hid hB
  clear hrow hB hv
  gi_wp2_with (first | (refine wpListIn_append_own _ rfl _ _ 33 rfl w1.heap.size 25 i0 (.slice none 0 0) 1 24 Tryz.underlying33 hi hz0 hz1 hz2 rfl (by decide) v pre.length _ rfl (World.ownsRow.alloc HR.out _) ⟨W.heap.size, 0, none⟩ 1 1 [.slice xa xn xc] rfl rfl (cell_one_new _ _ _) (by simp [Value.oneCell']) ?c1 ?c2 ?c3 ?_))
  case c1 => have := HPL.out; unfold maxLen; omega
  case c2 => have := HPL.out; omega
  case c3 => have := HBd.out.size; simp; omega
  intro v' w3 hown' hgrow _
  have hown2 := hown'
  obtain ⟨ao', cp', rfl, _, _⟩ := owns_shape hown2
  obtain ⟨hv1, hv2, hr2, hk2, hb2⟩ := HV.out.appended (by decide) HR.out HBd.out.size (Nat.le_refl _) hown' hgrow
  have hst : Comes w1.heap.size (w3.setCell ⟨w1.heap.size, 0, none⟩ (.slice ao' (pre.length + 1) cp')) (pre ++ [x]) := by
   intro y hy
   rcases List.mem_append.1 hy with hy | hy
   ·exact come_stays (HCS.out y hy) HV.out HR.out hgrow
   ·rw [List.mem_singleton.1 hy]; exact come_stays HX.out HV.out HR.out hgrow
  have hc1 := hv1.cell
  have hf1 := hv1.frozen
  have HFIN := Lib.hid (And.intro hv2 (And.intro hr2 (And.intro hk2 (And.intro hb2 hst))))
  clear hv1 hv2 hr2 hk2 hb2 hown' hown2 hgrow hst hcv
  gi_wp2
  have hrow3 := HFIN.out.2.1
  have e1 : (pre ++ [x]).length = pre.length + 1 := by simp
  have e2 : (pre ++ [x]).map (·.v) = pre.map (·.v) ++ [.slice xa xn xc] := by rw [List.map_append]; simp [HXV2.out]
  exact ⟨HFIN.out.2.2.1.from _, HFIN.out.2.2.2.1, ⟨_, HFIN.out.1, by rw [e1, e2]; exact hrow3⟩, HFIN.out.2.2.2.2, HBd.out.trans HFIN.out.2.2.2.1⟩
 case done =>
  rintro D ys W hD hys ⟨⟨v, hv, hrow⟩, hcs, hB⟩ hK
  have hcv := hv.cell
  obtain ⟨ao', cp', rfl, _, _⟩ := owns_shape hrow
  have HRows := Lib.hid (rowsN_of_comes (ownsRow_putObj hrow _ hK rfl) (fun x hx => ⟨own_keeps (hcs x hx).1 (grownBy_putObj' W D (.deferred none)) (fun r e => by cases e; exact ⟨_, hK, rfl⟩), (hcs x hx).2⟩))
  have HGW : Hid (Grow w (W.putObj D (.deferred none))) := HG1.out.trans (hB.trans (belowK_b (w := w1) (Nat.le_refl _) W D _ _ (by simp at hD; omega) hK rfl rfl))
  have HK := Lib.hid hK
  have HYS := Lib.hid hys
  clear hv hrow hcs hB hK hys hD
  gi_wp2
  refine ⟨by simp, .inl ⟨_, _, rfl, run_takeDeferred HK.out, ?_⟩⟩
  refine ⟨.tuple #[.slice ao' ys.length cp', .int .i64 0], by simp [results, Tryz.results93, go_sem], ?_⟩
  have hr := HRows.out
  rw [HYS.out] at hr
  exact ⟨_, rfl, hr.less HG1.out.size, HGW.out⟩
end
end Go.Proofs.YtgckhdepnmiejaaGreat
namespace Go.Proofs.YtgckhdepnmiejaaGreat
section
set_option maxRecDepth 100000
open Go.RowKit Go.Shelf
theorem cut_any {w : World} {b off L cap Z S : Nat} {zs : List Int} {h : Hd} {pl : List Int} (p : PktAt w b off L cap Z S zs h pl) (hL : L ≤ 10000) (M : Nat) (hM : 68 ≤ M ∧ M ≤ 65535) (hdf : h.df = false) (hof : h.off + pl.length ≤ 8000) :
  Calls Tryz.prog 93 #[.slice (some ⟨b, off, none⟩) L cap, .int .i64 M] w (Cutted h pl M w) := by
 have hz := p.z; have hlz := p.lz; have heq := p.eq; have hlen := p.len
 by_cases hf : L ≤ M
 ·refine cut_walk (fn := 128) (lb := #[]) (fun _ => True) ?_ (enters_of Tryz.func128 (by kernel_rfl) rfl)
  refine (pieces_fit p hL M hM hf).mono ?_
  rintro e w' ⟨B, rfl, hB, hg⟩
  refine ⟨_, rfl, fun w₁ hw => ?_, hg⟩
  have e : frags h pl M = [zs] := by unfold frags; rw [if_pos (by omega), heq]
  rw [e]
  exact one_seq 3 w' w₁ hw hB (by omega)
 ·refine cut_walk (fn := 131) (lb := #[]) (fun _ => True) ?_ (enters_of Tryz.func131 (by kernel_rfl) rfl)
  refine (pieces_cut p hL M hM (by omega) hdf hof).mono ?_
  rintro e w' ⟨BP, BF, v, rfl, hP, hg⟩
  refine ⟨_, rfl, fun w₁ hw => ?_, hg⟩
  have e : frags h pl M = (cuts M pl.length h.os).map (pieceB h pl M) := by unfold frags; rw [if_neg (by omega)]
  rw [e]
  exact pieces_seq 3 (h := { h with v := v }) w' w₁ hw hP hof
end
end Go.Proofs.YtgckhdepnmiejaaGreat
