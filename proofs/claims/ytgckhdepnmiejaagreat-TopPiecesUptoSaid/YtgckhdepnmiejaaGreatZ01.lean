/- Plain arithmetic of sums with carry: no program in sight (and what stands on it). -/
import Derived.WalkKit
import Derived.Lib.Hide
import Derived.Still
import Derived.StillTail
import Derived.Tactics
import Derived.Below
import Derived.Deep.Draws
import Derived.Laws.IdiomCopy
set_option linter.unusedVariables false
set_option linter.unusedSimpArgs false
namespace Go.Proofs.YtgckhdepnmiejaaGreat
section
/-- The sum with carry of two 16-bit numbers. -/
def addc (x y : Int) : Int := if 65536 ≤ x + y then x + y - 65535 else x + y
/-- What a sum comes to, if it is reckoned with carry: 0 for 0, else the number from 1 to 65535 that is left of it. -/
def nrm (s : Int) : Int := if s ≤ 0 then 0 else (s - 1) % 65535 + 1
theorem addc_bd {x y : Int} (hx : 0 ≤ x) (hx' : x < 65536) (hy : 0 ≤ y) (hy' : y < 65536) : 0 ≤ addc x y ∧ addc x y < 65536 := by
 unfold addc; split <;> omega
theorem nrm_bd (s : Int) : 0 ≤ nrm s ∧ nrm s < 65536 := by
 unfold nrm; split <;> omega
theorem nrm_id {x : Int} (h : 0 ≤ x) (h' : x < 65536) : nrm x = x := by
 unfold nrm; split <;> omega
theorem addc_nrm {a b : Int} (ha : 0 ≤ a) (hb : 0 ≤ b) : addc (nrm a) (nrm b) = nrm (a + b) := by
 unfold addc nrm
 split <;> split <;> split <;> split <;> omega
/-- The sum of the words of bytes. -/
def bsum : List Int → Int
 | [] => 0
 | [a] => 256 * a
 | a :: b :: r => 256 * a + b + bsum r
def Bytes (l : List Int) : Prop := ∀ z ∈ l, 0 ≤ z ∧ z < 256
theorem Bytes.nil : Bytes [] := fun _ h => by cases h
theorem Bytes.cons {a : Int} {l : List Int} (h : Bytes (a :: l)) : (0 ≤ a ∧ a < 256) ∧ Bytes l := ⟨h a (by simp), fun z hz => h z (by simp [hz])⟩
theorem Bytes.append {k l : List Int} (h : Bytes k) (h' : Bytes l) : Bytes (k ++ l) := fun z hz => by
 rcases List.mem_append.1 hz with hz | hz
 ·exact h z hz
 ·exact h' z hz
theorem Bytes.take {l : List Int} (h : Bytes l) (n : Nat) : Bytes (l.take n) := fun z hz => h z (List.mem_of_mem_take hz)
theorem Bytes.drop {l : List Int} (h : Bytes l) (n : Nat) : Bytes (l.drop n) := fun z hz => h z (List.mem_of_mem_drop hz)
theorem Bytes.getD {l : List Int} (h : Bytes l) (k : Nat) : 0 ≤ l.getD k 0 ∧ l.getD k 0 < 256 := by
 by_cases hk : k < l.length
 ·have : l.getD k 0 = l[k] := by simp [hk]
  rw [this]; exact h _ (List.getElem_mem hk)
 ·have : l.getD k 0 = 0 := by simp [Nat.le_of_not_lt hk]
  rw [this]; omega
theorem bsum_nonneg : ∀ {l : List Int}, Bytes l → 0 ≤ bsum l
 | [], _ => by simp [bsum]
 | [a], h => by have := h a (by simp); simp [bsum]; omega
 | a :: b :: r, h => by
  have h1 := h a (by simp); have h2 := h b (by simp)
  have := bsum_nonneg (l := r) (fun z hz => h z (by simp [hz]))
  simp [bsum]; omega
/-- One byte is taken: the sum so far, the high byte, whether there is one. -/
def tstep (s : Int × Int × Bool) (b : Int) : Int × Int × Bool := (if s.2.2 then addc s.1 (256 * s.2.1 + b) else s.1, b, !s.2.2)
def tfin (s : Int × Int × Bool) : Int := if s.2.2 then addc s.1 (256 * s.2.1) else s.1
def tst (bs : List Int) : Int × Int × Bool := bs.foldl tstep (0, 0, false)
theorem tst_snoc (bs : List Int) (b : Int) : tst (bs ++ [b]) = tstep (tst bs) b := by simp [tst, List.foldl_append]
theorem addc_nrm' {a b : Int} (ha : 0 ≤ a) (hb : 0 ≤ b) (hb' : b < 65536) : addc (nrm a) b = nrm (a + b) := by
 have := addc_nrm ha hb
 rwa [nrm_id hb hb'] at this
theorem tfin_from : ∀ (bs : List Int) (n h : Int), 0 ≤ n → Bytes bs → tfin (bs.foldl tstep (nrm n, h, false)) = nrm (n + bsum bs)
 | [], n, h, hn, _ => by simp [tfin, bsum]
 | [a], n, h, hn, hb => by
  have := hb a (by simp)
  simp only [List.foldl, tstep, tfin, bsum]
  simp
  exact addc_nrm' hn (by omega) (by omega)
 | a :: b :: r, n, h, hn, hb => by
  have h1 := hb a (by simp); have h2 := hb b (by simp)
  have hr : Bytes r := fun z hz => hb z (by simp [hz])
  simp only [List.foldl, tstep, bsum]
  simp only [Bool.not_false, Bool.not_true, if_true, Bool.false_eq_true, if_false]
  rw [addc_nrm' hn (by omega) (by omega), tfin_from r _ b (by omega) hr]
  congr 1; omega
theorem tfin_tst (bs : List Int) (h : Bytes bs) : tfin (tst bs) = nrm (bsum bs) := by
 have := tfin_from bs 0 0 (by omega) h
 simpa [tst, nrm] using this
/-- The state stays within bounds. -/
theorem tst_bd (bs : List Int) (h : Bytes bs) : (0 ≤ (tst bs).1 ∧ (tst bs).1 < 65536) ∧ 0 ≤ (tst bs).2.1 ∧ (tst bs).2.1 < 256 := by
 suffices ∀ (l : List Int) (s : Int × Int × Bool), Bytes l → ((0 ≤ s.1 ∧ s.1 < 65536) ∧ 0 ≤ s.2.1 ∧ s.2.1 < 256) → ((0 ≤ (l.foldl tstep s).1 ∧ (l.foldl tstep s).1 < 65536) ∧ 0 ≤ (l.foldl tstep s).2.1 ∧ (l.foldl tstep s).2.1 < 256) from this bs _ h (by simp)
 intro l
 induction l with
 | nil => intro s _ hs; exact hs
 | cons b r ih =>
  intro s hb hs
  obtain ⟨h1, h2⟩ := hb.cons
  refine ih _ h2 ?_
  simp only [tstep]
  refine ⟨?_, h1⟩
  split
  ·exact addc_bd hs.1.1 hs.1.2 (by omega) (by omega)
  ·exact hs.1
/-- The sum of bytes of an even number, and of others behind them. -/
theorem bsum_append : ∀ (k l : List Int), k.length % 2 = 0 → bsum (k ++ l) = bsum k + bsum l
 | [], l, _ => by simp [bsum]
 | [a], l, h => by simp at h
 | a :: b :: r, l, h => by
  have := bsum_append r l (by simp at h; omega)
  simp only [List.cons_append, bsum, this]; omega
end
end Go.Proofs.YtgckhdepnmiejaaGreat
namespace Go.Proofs.YtgckhdepnmiejaaGreat
section
/-- How many bytes the option at p has; 0: it is wrong. -/
def stepN (os : List Int) (p : Nat) : Nat :=
 if os.getD p 0 = 1 then 1 else if p + 1 < os.length ∧ 2 ≤ os.getD (p + 1) 0 ∧ (p : Int) + os.getD (p + 1) 0 ≤ os.length then (os.getD (p + 1) 0).toNat else 0
def stepsF : Nat → List Int → Nat → List Nat
 | 0, _, _ => []
 | k + 1, os, p => if p < os.length ∧ os.getD p 0 ≠ 0 then p :: (if stepN os p = 0 then [] else stepsF k os (p + stepN os p)) else []
def stepsFrom (os : List Int) (p : Nat) : List Nat := stepsF (os.length - p) os p
/-- Where the options begin, up to the end, or to the first wrong one. -/
def steps (os : List Int) : List Nat := stepsFrom os 0
theorem stepsF_fuel (os : List Int) : ∀ (k k' p : Nat), os.length - p ≤ k → os.length - p ≤ k' → stepsF k os p = stepsF k' os p := by
 intro k
 induction k with
 | zero =>
  intro k' p h1 h2
  cases k' with
  | zero => rfl
  | succ k' => rw [stepsF, stepsF, if_neg (by omega)]
 | succ k ih =>
  intro k' p h1 h2
  cases k' with
  | zero => rw [stepsF, stepsF, if_neg (by omega)]
  | succ k' =>
   rw [stepsF, stepsF]
   split
   ·rename_i h
    congr 1
    split
    ·rfl
    ·exact ih k' _ (by omega) (by omega)
   ·rfl
theorem stepsFrom_eq (os : List Int) (p : Nat) : stepsFrom os p = if p < os.length ∧ os.getD p 0 ≠ 0 then p :: (if stepN os p = 0 then [] else stepsFrom os (p + stepN os p)) else [] := by
 unfold stepsFrom
 by_cases h : p < os.length
 ·rw [show os.length - p = (os.length - p - 1) + 1 by omega, stepsF]
  split
  ·rename_i h2
   congr 1
   split
   ·rfl
   ·exact stepsF_fuel os _ _ _ (by omega) (by omega)
  ·rfl
 ·rw [if_neg (by omega), show os.length - p = 0 by omega]
  rfl
theorem stepN_le {os : List Int} {p : Nat} (h : p < os.length) : p + stepN os p ≤ os.length := by
 unfold stepN
 split
 ·omega
 ·split
  ·rename_i h2
   have := h2.2.2
   have := h2.2.1
   omega
  ·omega
theorem stepN_two {os : List Int} {p : Nat} (h : os.getD p 0 ≠ 1) (h0 : stepN os p ≠ 0) : 2 ≤ stepN os p := by
 unfold stepN at h0 ⊢
 rw [if_neg h] at h0 ⊢
 split at h0
 ·rename_i h2
  rw [if_pos h2]
  have := h2.2.1
  omega
 ·exact absurd rfl h0
/-- Are all of them right? -/
def goodO (os : List Int) : Bool := (steps os).all fun p => stepN os p != 0
/-- Their kinds, but for no operations. -/
def kindsAt (os : List Int) (l : List Nat) : List Int := (l.map fun p => os.getD p 0).filter fun k => k != 1
def kindsO (os : List Int) : List Int := kindsAt os (steps os)
/-- What may stand for an option. -/
def Beg (os : List Int) : Type := { p : Nat // p < os.length ∧ os.getD p 0 ≠ 0 }
def begs {os : List Int} (l : List (Beg os)) : List Nat := l.map (·.1)
theorem begs_snoc {os : List Int} (l : List (Beg os)) (x : Beg os) : begs (l ++ [x]) = begs l ++ [x.1] := by simp [begs]
end
end Go.Proofs.YtgckhdepnmiejaaGreat
namespace Go.Proofs.YtgckhdepnmiejaaGreat
section
open Go.RowKit
theorem block_lt {w : World} {p : Addr} {v : Value} (h : w.cell? p = some v) : p.block < w.heap.size := by
 rcases Nat.lt_or_ge p.block w.heap.size with h' | h'
 ·exact h'
 ·simp [World.cell?, Array.getElem?_eq_none h'] at h
/-- 'v' is a slice of the numbers 'zs'. -/
def IntsV (k : IntKind) (w : World) (v : Value) (zs : List Int) : Prop :=
 ((zs = [] ∧ ∃ ao cap, v = .slice ao 0 cap ∧ cap ≤ maxLen ∧ (ao = none → cap = 0)) ∨
  ∃ b off cap, v = .slice (some ⟨b, off, none⟩) zs.length cap ∧ zs.length ≤ cap ∧ cap ≤ maxLen ∧ ∀ i, i < zs.length → w.cell? ⟨b, off + i, none⟩ = some (.int k (zs.getD i 0)))
/-- 'v' is a slice of the bytes 'zs'. -/
def BytesV (w : World) (v : Value) (zs : List Int) : Prop := Bytes zs ∧ IntsV .u8 w v zs
/-- 'v' is a slice of slices of bytes. -/
def RowsV (w : World) (v : Value) (rows : List (List Int)) : Prop :=
 ((rows = [] ∧ ∃ ao cap, v = .slice ao 0 cap ∧ cap ≤ maxLen) ∨
  ∃ b off cap, v = .slice (some ⟨b, off, none⟩) rows.length cap ∧ rows.length ≤ cap ∧ cap ≤ maxLen ∧ ∀ i, i < rows.length → ∃ x, w.cell? ⟨b, off + i, none⟩ = some x ∧ BytesV w x (rows.getD i []))
theorem IntsV.mono {k : IntKind} {w w' : World} {v : Value} {zs : List Int} (h : IntsV k w v zs) (hb : Below w.heap.size w w') : IntsV k w' v zs := by
 rcases h with h | ⟨b, off, cap, h1, h2, h3, h4⟩
 ·exact Or.inl h
 ·exact Or.inr ⟨b, off, cap, h1, h2, h3, fun i hi => (hb.cell (block_lt (h4 i hi))).trans (h4 i hi)⟩
theorem BytesV.mono {w w' : World} {v : Value} {zs : List Int} (h : BytesV w v zs) (hb : Below w.heap.size w w') : BytesV w' v zs := ⟨h.1, h.2.mono hb⟩
theorem RowsV.mono {w w' : World} {v : Value} {rows : List (List Int)} (h : RowsV w v rows) (hb : Below w.heap.size w w') : RowsV w' v rows := by
 rcases h with h | ⟨b, off, cap, h1, h2, h3, h4⟩
 ·exact Or.inl h
 ·refine Or.inr ⟨b, off, cap, h1, h2, h3, fun i hi => ?_⟩
  obtain ⟨x, hx, hr⟩ := h4 i hi
  exact ⟨x, (hb.cell (block_lt hx)).trans hx, hr.mono hb⟩
theorem IntsV.shape {k : IntKind} {w : World} {v : Value} {zs : List Int} (h : IntsV k w v zs) : ∃ ao cap, v = .slice ao zs.length cap ∧ zs.length ≤ cap ∧ cap ≤ maxLen := by
 rcases h with ⟨rfl, ao, cap, rfl, h9, _⟩ | ⟨b, off, cap, rfl, h1, h2, _⟩
 ·exact ⟨ao, cap, rfl, Nat.zero_le _, h9⟩
 ·exact ⟨_, cap, rfl, h1, h2⟩
theorem BytesV.shape {w : World} {v : Value} {zs : List Int} (h : BytesV w v zs) : ∃ ao cap, v = .slice ao zs.length cap ∧ zs.length ≤ cap ∧ cap ≤ maxLen := h.2.shape
/-- What the call owns reads as its numbers. -/
theorem ints_of_owns {k : IntKind} {w : World} {base : Nat} {e : TypeId} {v : Value} {n : Nat} {zs : List Int} (h : w.ownsRow base e 1 v n (zs.map (Value.int k))) : IntsV k w v zs := by
 have hlen : n = zs.length := by have := h.1; simp at this; omega
 have hc := fun g hg => h.cells (g := g) hg
 rcases h.2 with ⟨rfl, h0⟩ | ⟨g, cap, cur, rfl, _, _, h1, h2, _, _⟩
 ·exact Or.inl ⟨List.length_eq_zero_iff.1 (by omega), none, 0, rfl, Nat.zero_le _, fun _ => rfl⟩
 ·subst hlen
  refine Or.inr ⟨g, 0, cap, rfl, h1, h2, fun i hi => ?_⟩
  have := hc g rfl i (.int k (zs.getD i 0)) (by simp [hi])
  rwa [Addr.add_lit] at this
theorem cell_new (w : World) (l : List Value) (T : TypeId) (i : Nat) (v : Value) (h : l[i]? = some v) : (w.alloc (.cells l.toArray T)).cell? ⟨w.heap.size, i, none⟩ = some v := by
 have e := heap_alloc_new w (.cells l.toArray T)
 unfold World.cell?
 rw [e]
 simpa using h
/-- A new slice of slices of bytes. -/
theorem rows_new {w : World} (l : List Value) (rows : List (List Int)) (T : TypeId) (hlen : l.length = rows.length) (hm : l.length ≤ maxLen) (h : ∀ i (v : Value), l[i]? = some v → BytesV w v (rows.getD i [])) :
  RowsV (w.alloc (.cells l.toArray T)) (.slice (some ⟨w.heap.size, 0, none⟩) l.length l.length) rows := by
 refine Or.inr ⟨w.heap.size, 0, l.length, by rw [hlen], by omega, hm, fun i hi => ?_⟩
 have hi' : i < l.length := by omega
 refine ⟨l[i], ?_, (h i l[i] (by simp [hi'])).mono ((Below.refl _ _).alloc (Nat.le_refl _) _)⟩
 rw [Nat.zero_add]
 exact cell_new w l T i _ (by simp [hi'])
/-- A new slice of bytes. -/
theorem bytes_new {w : World} (l : List Value) (zs : List Int) (T : TypeId) (hl : l = zs.map (Value.int .u8)) (hb : Bytes zs) (hm : zs.length ≤ maxLen) :
  BytesV (w.alloc (.cells l.toArray T)) (.slice (some ⟨w.heap.size, 0, none⟩) zs.length zs.length) zs := by
 refine ⟨hb, Or.inr ⟨w.heap.size, 0, zs.length, rfl, Nat.le_refl _, hm, fun i hi => ?_⟩⟩
 rw [Nat.zero_add]
 refine cell_new w l T i _ ?_
 subst hl
 simp [hi]
/-- A part of a slice of bytes. -/
theorem bytes_sub {w : World} {b off cap : Nat} {n : Nat} {zs : List Int} (h : BytesV w (.slice (some ⟨b, off, none⟩) n cap) zs) (lo hi : Nat) (h1 : lo ≤ hi) (h2 : hi ≤ zs.length) :
  BytesV w (.slice (some ⟨b, off + lo, none⟩) (hi - lo) (cap - lo)) ((zs.drop lo).take (hi - lo)) := by
 obtain ⟨hb, h⟩ := h
 have hl : ((zs.drop lo).take (hi - lo)).length = hi - lo := by simp; omega
 refine ⟨(hb.drop lo).take _, ?_⟩
 rcases h with ⟨rfl, ao, c, e, hc, _⟩ | ⟨b', off', c, e, hlc, hc, hcell⟩
 ·simp at h2
  subst h2
  injection e with e1 e2 e3
  subst e3
  refine Or.inl ⟨by simp, some ⟨b, off + lo, none⟩, cap - lo, by simp, by omega, fun hh => by cases hh⟩
 ·injection e with e1 e2 e3
  injection e1 with e1
  injection e1 with e4 e5
  subst e3; subst e4; subst e5
  refine Or.inr ⟨b, off + lo, cap - lo, by rw [hl], by omega, by omega, fun i hi' => ?_⟩
  rw [hl] at hi'
  have := hcell (lo + i) (by omega)
  rw [Nat.add_assoc, this]
  congr 2
  simp [List.getD_eq_getElem?_getD, List.getElem?_take, List.getElem?_drop]
  rw [if_pos (by omega)]
/-- Memory grows: nothing that was there has turned. -/
def Grow (w w' : World) : Prop := Below w.heap.size w w'
theorem Grow.refl (w : World) : Grow w w := Below.refl _ _
theorem Grow.trans {a b c : World} (h : Grow a b) (k : Grow b c) : Grow a c := Below.trans h (Below.mono k h.size)
theorem Grow.drew {a b : World} (h : Grow a b) : Grow a b.drew := Below.drew h
theorem Grow.alloc {a b : World} (h : Grow a b) (o : Obj) : Grow a (b.alloc o) := Below.alloc h h.size o
end
end Go.Proofs.YtgckhdepnmiejaaGreat
namespace Go.Proofs.YtgckhdepnmiejaaGreat
section
open Go.RowKit
/-- Memory grows, and of what was there at most the blocks of M have turned. -/
structure GrowBut (M : Nat → Prop) (w w' : World) : Prop where
 os : w'.os = w.os
 tape : w'.tape = w.tape
 output : w'.output = w.output
 size : w.heap.size ≤ w'.heap.size
 block : ∀ k, k < w.heap.size → ¬ M k → w'.heap[k]? = w.heap[k]?
theorem GrowBut.refl (M : Nat → Prop) (w : World) : GrowBut M w w := ⟨rfl, rfl, rfl, Nat.le_refl _, fun _ _ _ => rfl⟩
theorem GrowBut.trans {M : Nat → Prop} {a b c : World} (h : GrowBut M a b) (k : GrowBut M b c) : GrowBut M a c :=
 ⟨k.os.trans h.os, k.tape.trans h.tape, k.output.trans h.output, Nat.le_trans h.size k.size, fun i hi hm => (k.block i (Nat.lt_of_lt_of_le hi h.size) hm).trans (h.block i hi hm)⟩
theorem GrowBut.of_below {M : Nat → Prop} {w w' : World} (h : Below w.heap.size w w') : GrowBut M w w' :=
 ⟨h.os, h.tape, h.output, h.size, fun k hk _ => h.block k hk⟩
theorem GrowBut.below {w w' : World} (h : GrowBut (fun _ => False) w w') : Below w.heap.size w w' :=
 ⟨h.os, h.tape, h.output, h.size, fun k hk => h.block k hk id⟩
section
variable {P : Program} {ops : Array Oper}
/-- The slots whose values are known by a property alone get values. -/
def fill : List (Tmp × (Value → World → Prop)) → (Tmp → Value) → Act → Act
 | [], _, a => a
 | p :: r, xs, a => (fill r xs a).put (some p.1) (xs p.1)
/-- What is known of the slots at which the operation looks. -/
def HF (ops : Array Oper) (o : Oper) (hs : List (Tmp × (Value → World → Prop))) (xs : Tmp → Value) (w : World) : Prop :=
 ∀ p ∈ hs, (o.looksAt ops).contains p.1 = true → p.2 (xs p.1) w
def mildUpon (P : Program) (w : World) (φ : Value → World → Prop) (R : World → Prop) : Result Next → Prop
 | .ok (.value u) w' => φ u w' ∧ R w'
 | .ok .skip w' => φ undef w' ∧ R w'
 | .ok (.enter f args) w' => w' = w ∧ Calls P f args w (fun e w'' => ∃ u, e = .returned u ∧ φ u w'' ∧ R w'')
 | _ => False
def mildAt (P : Program) (o : Oper) (a : Act) (w : World) (φ : Value → World → Prop) (R : World → Prop) : Prop := mildUpon P w φ R ((execOp a.eval o).run P w)
/-- One operation of the lexical walk: from act, hidden slots, state of the chain, to those behind it. -/
def HStep (P : Program) (ops : Array Oper) (M : Nat → Prop) (w0 : World) (ch se : Bool) (o : Oper) (a : Act) (hs : List (Tmp × (Value → World → Prop))) (C : World → Prop)
  (a' : Act) (hs' : List (Tmp × (Value → World → Prop))) (C' : World → Prop) : Prop :=
 ((∀ xs, Region.wanted o (yielded ops (fill hs xs a).tmps) = false) ∧ a' = a.put o.dst undef ∧ hs' = hs ∧ C' = C) ∨
 ((∀ xs, Region.wanted o (yielded ops (fill hs xs a).tmps) = true) ∧ ∃ φ : Value → World → Prop, (∀ u w w', GrowBut M w w' → φ u w → φ u w') ∧
  ((∃ v, φ = (fun u _ => u = v) ∧ a' = a.put o.dst v ∧ hs' = hs) ∨ (∃ d, o.dst = some d ∧ a' = a.put o.dst undef ∧ hs' = (d, φ) :: hs)) ∧
  ((C' = C ∧ ch = false ∧ ∀ xs w, GrowBut M w0 w → (se = true → C w) → HF ops o hs xs w → mildAt P o (fill hs xs a) w φ (fun w' => Below w.heap.size w w')) ∨
   ((∀ w w', Below w.heap.size w w' → C' w → C' w') ∧ ch = true ∧ ∀ xs w, GrowBut M w0 w → C w → HF ops o hs xs w → mildAt P o (fill hs xs a) w φ (fun w' => GrowBut M w w' ∧ C' w'))))
/-- Does an operation come behind all of the chain's that stand ahead of it, and ahead of all that stand behind it? Then it sees the chain's state. -/
def seeB (ops : Array Oper) (cs : List Nat) (k : Nat) : Bool := cs.all fun i => if i < k then Region.waitsFor .any ops k i else Region.waitsFor .any ops i k
/-- The lexical walk. -/
def wpH (P : Program) (ops : Array Oper) (M : Nat → Prop) (w0 : World) (cs : List Nat) (Qf : Act → List (Tmp × (Value → World → Prop)) → (World → Prop) → Prop) :
  List Oper → Nat → Act → List (Tmp × (Value → World → Prop)) → (World → Prop) → Prop
 | [], _, a, hs, C => Qf a hs C
 | o :: rest, k, a, hs, C => ∃ a' hs' C', HStep P ops M w0 (cs.contains k) (seeB ops cs k) o a hs C a' hs' C' ∧ wpH P ops M w0 cs Qf rest (k + 1) a' hs' C'
/-- What is asked of the region itself. -/
def growB (ops : Array Oper) (n : Nat) (cs : List Nat) (sz : Nat) : Bool :=
 Region.noSelect ops && decide (n ≤ ops.size) && Region.seqB .any ops (ops.size - n) n (Array.replicate n true ++ Array.replicate (ops.size - n) false) &&
 ((List.range n).all fun j => (List.range n).all fun k =>
  match ops[j]?, ops[k]? with
  | some oj, some ok =>
   match ok.dst with
   | some d => decide (d < sz) && (!(oj.looksAt ops).contains d || (decide (k < j) && Region.waitsFor .any ops j k)) && (decide (j = k) || oj.dst != some d)
   | none => true
  | _, _ => false) &&
 ((List.range ops.size).all fun j => match ops[j]? with | some oj => oj.after.all (fun e => !Region.binds .any e || decide (e.on < j)) | none => false) &&
 (cs.all fun j => cs.all fun i => !decide (i < j) || cs.any fun k => decide (i ≤ k) && decide (k < j) && Region.waitsFor .any ops j k) &&
 (decide (ops.size ≤ n) || (Region.sinkB .any ops n && Region.chainB .any ops n))
/-! ### The walk as sequences -/
theorem wpH_seq {M : Nat → Prop} {w0 : World} {cs : List Nat} {Qf : Act → List (Tmp × (Value → World → Prop)) → (World → Prop) → Prop} :
  ∀ (l : List Oper) (k : Nat) (a : Act) (hs : List (Tmp × (Value → World → Prop))) (C : World → Prop), wpH P ops M w0 cs Qf l k a hs C →
  ∃ (A : Nat → Act) (H : Nat → List (Tmp × (Value → World → Prop))) (D : Nat → World → Prop), A k = a ∧ H k = hs ∧ D k = C ∧
   (∀ j o, l[j]? = some o → HStep P ops M w0 (cs.contains (k + j)) (seeB ops cs (k + j)) o (A (k + j)) (H (k + j)) (D (k + j)) (A (k + j + 1)) (H (k + j + 1)) (D (k + j + 1))) ∧
   Qf (A (k + l.length)) (H (k + l.length)) (D (k + l.length))
 | [], k, a, hs, C, h => ⟨fun _ => a, fun _ => hs, fun _ => C, rfl, rfl, rfl, fun j o hj => by simp at hj, h⟩
 | o :: rest, k, a, hs, C, h => by
  obtain ⟨a', hs', C', hst, hr⟩ := h
  obtain ⟨A, H, D, hA, hH, hD, hall, hq⟩ := wpH_seq rest (k + 1) a' hs' C' hr
  refine ⟨fun i => if i = k then a else A i, fun i => if i = k then hs else H i, fun i => if i = k then C else D i, by simp, by simp, by simp, ?_, ?_⟩
  ·intro j oj hj
   cases j with
   | zero =>
    simp at hj
    subst hj
    simp only [Nat.add_zero, if_true, if_neg (Nat.succ_ne_self k), hA, hH, hD]
    exact hst
   | succ j =>
    have := hall j oj (by simpa using hj)
    have e : k + (j + 1) = k + 1 + j := by omega
    rw [e]
    simp only [if_neg (show ¬ k + 1 + j = k by omega), if_neg (show ¬ k + 1 + j + 1 = k by omega)]
    exact this
  ·have e : k + (o :: rest).length = k + 1 + rest.length := by simp; omega
   rw [e]
   simp only [if_neg (show ¬ k + 1 + rest.length = k by omega)]
   exact hq
theorem getD_put (a : Act) (d : Option Tmp) (v : Value) (t : Tmp) (h : d ≠ some t) : (a.put d v).tmps.getD t undef = a.tmps.getD t undef := by
 cases d with
 | none => rfl
 | some d =>
  have : d ≠ t := fun e => h (by rw [e])
  simp [Act.put, Array.getElem?_setIfInBounds_ne this]
theorem getD_put_same (a : Act) (d : Tmp) (v : Value) (h : d < a.tmps.size) : (a.put (some d) v).tmps.getD d undef = v := by
 simp [Act.put, h]
theorem size_put (a : Act) (d : Option Tmp) (v : Value) : (a.put d v).tmps.size = a.tmps.size := by
 cases d <;> simp [Act.put]
theorem defers_put (a : Act) (d : Option Tmp) (v : Value) : (a.put d v).defers = a.defers := by
 cases d <;> rfl
theorem size_fill (hs : List (Tmp × (Value → World → Prop))) (xs : Tmp → Value) (a : Act) : (fill hs xs a).tmps.size = a.tmps.size := by
 induction hs with
 | nil => rfl
 | cons p r ih => rw [fill, size_put, ih]
theorem defers_fill (hs : List (Tmp × (Value → World → Prop))) (xs : Tmp → Value) (a : Act) : (fill hs xs a).defers = a.defers := by
 induction hs with
 | nil => rfl
 | cons p r ih => rw [fill, defers_put, ih]
/-- A slot that is not hidden holds what the act holds; a hidden one what it is filled with. -/
theorem getD_fill_out {t : Tmp} : ∀ {hs : List (Tmp × (Value → World → Prop))} (xs : Tmp → Value) (a : Act), (∀ φ, (t, φ) ∉ hs) → (fill hs xs a).tmps.getD t undef = a.tmps.getD t undef
 | [], _, _, _ => rfl
 | p :: r, xs, a, h => by
  rw [fill, getD_put _ _ _ _ (fun e => h p.2 (by have : p.1 = t := Option.some.inj e; rw [← this]; simp))]
  exact getD_fill_out xs a (fun φ hm => h φ (by simp [hm]))
theorem getD_fill_in {t : Tmp} : ∀ {hs : List (Tmp × (Value → World → Prop))} (xs : Tmp → Value) (a : Act) {φ : Value → World → Prop}, (t, φ) ∈ hs → t < a.tmps.size → (fill hs xs a).tmps.getD t undef = xs t
 | [], _, _, _, h, _ => by cases h
 | p :: r, xs, a, φ, h, hlt => by
  rw [fill]
  by_cases e : p.1 = t
  ·rw [e, getD_put_same _ _ _ (by rw [size_fill]; exact hlt)]
  ·rw [getD_put _ _ _ _ (fun e' => e (Option.some.inj e'))]
   rcases List.mem_cons.1 h with rfl | h
   ·exact absurd rfl e
   ·exact getD_fill_in xs a h hlt
/-- How many are not listed yet. -/
def unl (L : Array Bool) : Nat → Nat
 | 0 => 0
 | n + 1 => unl L n + if L.getD n true = false then 1 else 0
theorem unl_set_ge (L : Array Bool) (j : Nat) : ∀ n, n ≤ j → unl (L.setIfInBounds j true) n = unl L n
 | 0, _ => rfl
 | n + 1, h => by rw [unl, unl, unl_set_ge L j n (by omega), getD_set_ne true (by omega)]
theorem unl_set (L : Array Bool) (j : Nat) (hj : L.getD j true = false) : ∀ n, j < n → unl (L.setIfInBounds j true) n + 1 = unl L n
 | 0, h => by omega
 | n + 1, h => by
  rw [unl, unl]
  by_cases e : j = n
  ·subst e
   rw [unl_set_ge L j j (Nat.le_refl _)]
   have hlt : j < L.size := by
    rcases Nat.lt_or_ge j L.size with h' | h'
    ·exact h'
    ·simp [Array.getElem?_eq_none h'] at hj
   have : (L.setIfInBounds j true).getD j true = true := by simp [hlt]
   simp [this, hj]
  ·rw [getD_set_ne true e]
   have := unl_set L j hj n (by omega)
   omega
theorem unl_zero {L : Array Bool} : ∀ {n}, unl L n = 0 → ∀ k, k < n → L.getD k true = true
 | 0, _, k, hk => by omega
 | n + 1, h, k, hk => by
  rw [unl] at h
  by_cases e : k = n
  ·subst e
   cases hb : L.getD k true
   ·simp [hb] at h
   ·rfl
  ·exact unl_zero (n := n) (by omega) k (by omega)
/-! ### What the Bool says -/
structure GB (ops : Array Oper) (n : Nat) (cs : List Nat) (sz : Nat) : Prop where
 sel : Region.noSelect ops = true
 le : n ≤ ops.size
 seq : Region.seqB .any ops (ops.size - n) n (Array.replicate n true ++ Array.replicate (ops.size - n) false) = true
 slot : ∀ (j k : Nat) (oj ok : Oper) (d : Tmp), j < n → k < n → ops[j]? = some oj → ops[k]? = some ok → ok.dst = some d →
  d < sz ∧ (d ∈ oj.looksAt ops → k < j ∧ Region.waitsFor .any ops j k = true) ∧ (j ≠ k → oj.dst ≠ some d)
 low : ∀ (j : Nat) (oj : Oper), ops[j]? = some oj → ∀ e ∈ oj.after, Region.binds .any e = true → e.on < j
 chain : ∀ j i, j ∈ cs → i ∈ cs → i < j → ∃ k, k ∈ cs ∧ i ≤ k ∧ k < j ∧ Region.waitsFor .any ops j k = true
 sink : n < ops.size → Region.sinkB .any ops n = true ∧ Region.chainB .any ops n = true
theorem growB_spec {n : Nat} {cs : List Nat} {sz : Nat} (h : growB ops n cs sz = true) : GB ops n cs sz := by
 simp only [growB, Bool.and_eq_true, decide_eq_true_eq, List.all_eq_true, List.mem_range] at h
 obtain ⟨⟨⟨⟨⟨⟨h1, h2⟩, h3⟩, h4⟩, h5⟩, h6⟩, h7⟩ := h
 refine ⟨h1, h2, h3, ?_, ?_, ?_, ?_⟩
 ·intro j k oj ok d hj hk ej ek ed
  have := h4 j hj k hk
  simp only [ej, ek, ed, Bool.and_eq_true, Bool.or_eq_true, decide_eq_true_eq, Bool.not_eq_true', bne_iff_ne, ne_eq] at this
  obtain ⟨⟨a1, a2⟩, a3⟩ := this
  refine ⟨a1, fun hd => ?_, fun hne => a3.resolve_left hne⟩
  rcases a2 with a2 | a2
  ·rw [List.contains_iff_mem.2 hd] at a2; cases a2
  ·exact a2
 ·intro j oj ej e he hb
  have hlt : j < ops.size := (Array.getElem?_eq_some_iff.1 ej).1
  have := h5 j hlt
  simp only [ej, Array.all_eq_true_iff_forall_mem, Bool.or_eq_true, Bool.not_eq_true', decide_eq_true_eq] at this
  rcases this e he with h | h
  ·rw [hb] at h; cases h
  ·exact h
 ·intro j i hj hi hij
  have := h6 j hj i hi
  simp only [Bool.or_eq_true, Bool.not_eq_true', decide_eq_false_iff_not, List.any_eq_true, Bool.and_eq_true, decide_eq_true_eq] at this
  rcases this with h | ⟨k, hk, ⟨a1, a2⟩, a3⟩
  ·exact absurd hij h
  ·exact ⟨k, hk, a1, a2, a3⟩
 ·intro hlt
  simp only [Bool.or_eq_true, decide_eq_true_eq, Bool.and_eq_true] at h7
  exact h7.resolve_left (by omega)
/-! ### The sequences' facts -/
structure Seqs (P : Program) (ops : Array Oper) (M : Nat → Prop) (w0 : World) (cs : List Nat) (n : Nat) (A : Nat → Act) (H : Nat → List (Tmp × (Value → World → Prop))) (D : Nat → World → Prop) : Prop where
 h0 : H 0 = []
 step : ∀ j o, j < n → ops[j]? = some o → HStep P ops M w0 (cs.contains j) (seeB ops cs j) o (A j) (H j) (D j) (A (j + 1)) (H (j + 1)) (D (j + 1))
 op : ∀ j, j < n → ∃ o, ops[j]? = some o
 stable0 : ∀ w w', Below w.heap.size w w' → D 0 w → D 0 w'
section
variable {M : Nat → Prop} {w0 : World} {cs : List Nat} {n : Nat} {A : Nat → Act} {H : Nat → List (Tmp × (Value → World → Prop))} {D : Nat → World → Prop}
theorem Seqs.actOf (S : Seqs P ops M w0 cs n A H D) {j : Nat} {o : Oper} (hj : j < n) (ho : ops[j]? = some o) : ∃ v, A (j + 1) = (A j).put o.dst v := by
 rcases S.step j o hj ho with ⟨_, h, _⟩ | ⟨_, φ, _, ⟨v, _, h, _⟩ | ⟨d, _, h, _⟩, _⟩
 ·exact ⟨_, h⟩
 ·exact ⟨_, h⟩
 ·exact ⟨_, h⟩
theorem Seqs.hidOf (S : Seqs P ops M w0 cs n A H D) {j : Nat} {o : Oper} (hj : j < n) (ho : ops[j]? = some o) : H (j + 1) = H j ∨ ∃ d φ, o.dst = some d ∧ H (j + 1) = (d, φ) :: H j := by
 rcases S.step j o hj ho with ⟨_, _, h, _⟩ | ⟨_, φ, _, ⟨v, _, _, h⟩ | ⟨d, hd, _, h⟩, _⟩
 ·exact Or.inl h
 ·exact Or.inl h
 ·exact Or.inr ⟨d, φ, hd, h⟩
theorem Seqs.size (S : Seqs P ops M w0 cs n A H D) : ∀ j, j ≤ n → (A j).tmps.size = (A 0).tmps.size ∧ (A j).defers = (A 0).defers
 | 0, _ => ⟨rfl, rfl⟩
 | j + 1, h => by
  obtain ⟨o, ho⟩ := S.op j (by omega)
  obtain ⟨v, hv⟩ := S.actOf (by omega) ho
  have := Seqs.size S j (by omega)
  exact ⟨by rw [hv, size_put, this.1], by rw [hv, defers_put, this.2]⟩
theorem Seqs.keep (S : Seqs P ops M w0 cs n A H D) {t : Tmp} {k : Nat} : ∀ m, k ≤ m → m ≤ n → (∀ i o, k ≤ i → i < m → ops[i]? = some o → o.dst ≠ some t) → (A m).tmps.getD t undef = (A k).tmps.getD t undef := by
 intro m hkm hmn h
 induction m with
 | zero => have : k = 0 := by omega
           rw [this]
 | succ m ih =>
  by_cases e : k = m + 1
  ·rw [e]
  ·obtain ⟨o, ho⟩ := S.op m (by omega)
   obtain ⟨v, hv⟩ := S.actOf (by omega) ho
   rw [hv, getD_put _ _ _ _ (h m o (by omega) (by omega) ho)]
   exact ih (by omega) (by omega) (fun i o hi hi' => h i o hi (by omega))
theorem Seqs.mem (S : Seqs P ops M w0 cs n A H D) {t : Tmp} {φ : Value → World → Prop} : ∀ m, m ≤ n → (t, φ) ∈ H m → ∃ k o, k < m ∧ ops[k]? = some o ∧ o.dst = some t ∧ H (k + 1) = (t, φ) :: H k
 | 0, _, h => by rw [S.h0] at h; cases h
 | m + 1, hm, h => by
  obtain ⟨o, ho⟩ := S.op m (by omega)
  rcases S.hidOf (by omega) ho with e | ⟨d, ψ, hd, e⟩
  ·rw [e] at h
   obtain ⟨k, o', h1, h2⟩ := Seqs.mem S m (by omega) h
   exact ⟨k, o', by omega, h2⟩
  ·rw [e] at h
   rcases List.mem_cons.1 h with h | h
   ·have h1 : t = d := congrArg Prod.fst h
    have h2 : φ = ψ := congrArg Prod.snd h
    subst h1; subst h2
    exact ⟨m, o, by omega, ho, hd, e⟩
   ·obtain ⟨k, o', h1, h2⟩ := Seqs.mem S m (by omega) h
    exact ⟨k, o', by omega, h2⟩
theorem Seqs.sub (S : Seqs P ops M w0 cs n A H D) {k : Nat} {p : Tmp × (Value → World → Prop)} : ∀ m, k ≤ m → m ≤ n → p ∈ H k → p ∈ H m := by
 intro m hk hm h
 induction m with
 | zero => have : k = 0 := by omega
           rwa [this] at h
 | succ m ih =>
  by_cases e : k = m + 1
  ·rwa [e] at h
  ·obtain ⟨o, ho⟩ := S.op m (by omega)
   have := ih (by omega) (by omega)
   rcases S.hidOf (by omega) ho with e | ⟨d, ψ, _, e⟩
   ·rw [e]; exact this
   ·rw [e]; exact List.mem_cons_of_mem _ this
theorem Seqs.stableD (S : Seqs P ops M w0 cs n A H D) : ∀ j, j ≤ n → ∀ w w', Below w.heap.size w w' → D j w → D j w'
 | 0, _ => S.stable0
 | j + 1, h => by
  obtain ⟨o, ho⟩ := S.op j (by omega)
  have ih := Seqs.stableD S j (by omega)
  rcases S.step j o (by omega) ho with ⟨_, _, _, e⟩ | ⟨_, φ, _, _, ⟨e, _⟩ | ⟨e, _⟩⟩
  ·rw [e]; exact ih
  ·rw [e]; exact ih
  ·exact e
theorem Seqs.sameD (S : Seqs P ops M w0 cs n A H D) {k : Nat} : ∀ m, k ≤ m → m ≤ n → (∀ i, i ∈ cs → k ≤ i → i < m → False) → D m = D k := by
 intro m hk hm h
 induction m with
 | zero => have : k = 0 := by omega
           rw [this]
 | succ m ih =>
  by_cases e : k = m + 1
  ·rw [e]
  ·obtain ⟨o, ho⟩ := S.op m (by omega)
   have := ih (by omega) (by omega) (fun i hi h1 h2 => h i hi h1 (by omega))
   rw [← this]
   rcases S.step m o (by omega) ho with ⟨_, _, _, e⟩ | ⟨_, φ, _, _, ⟨e, _⟩ | ⟨_, e, _⟩⟩
   ·exact e
   ·exact e
   ·exact absurd (List.contains_iff_mem.1 e) (fun hm => h m hm (by omega) (by omega))
/-! ### The invariant of every order -/
structure RInv (ops : Array Oper) (M : Nat → Prop) (w0 : World) (cs : List Nat) (n : Nat) (A : Nat → Act) (H : Nat → List (Tmp × (Value → World → Prop))) (D : Nat → World → Prop) (L : Array Bool) (a : Act) (w : World) : Prop where
 size : L.size = ops.size
 closed : ∀ (j : Nat) (oj : Oper), ops[j]? = some oj → L.getD j false = true → ∀ e ∈ oj.after, Region.binds .any e = true → L.getD e.on false = true
 grow : GrowBut M w0 w
 chain : ∀ k, k ≤ n → (∀ i, i ∈ cs → i < k → L.getD i false = true) → (∀ i, i ∈ cs → k ≤ i → L.getD i false = false) → D k w
 hit : ∀ (k : Nat) (ok : Oper) (t : Tmp), k < n → ops[k]? = some ok → L.getD k false = true → ok.dst = some t →
  (∀ φ, (t, φ) ∈ H n → φ (a.tmps.getD t undef) w) ∧ ((∀ φ, (t, φ) ∉ H n) → a.tmps.getD t undef = (A n).tmps.getD t undef)
 miss : ∀ t, (∀ (k : Nat) (ok : Oper), k < n → ops[k]? = some ok → L.getD k false = true → ok.dst ≠ some t) → a.tmps.getD t undef = (A 0).tmps.getD t undef
 asize : a.tmps.size = (A 0).tmps.size
 defers : a.defers = (A 0).defers
 tail : ∀ t, n ≤ t → L.getD t false = false
theorem same_get {a b : Array Value} {t : Tmp} (hs : a.size = b.size) (h : a.getD t undef = b.getD t undef) : a[t]? = b[t]? := by
 by_cases ht : t < a.size
 ·have ht' : t < b.size := hs ▸ ht
  simp [ht, ht'] at h ⊢
  exact h
 ·rw [Array.getElem?_eq_none (Nat.le_of_not_lt ht), Array.getElem?_eq_none (Nat.le_of_not_lt (hs ▸ ht))]
theorem waits_listed {L : Array Bool} {j k : Nat} {o : Oper} (ho : ops[j]? = some o) (hall : ∀ e ∈ o.after, Region.binds .any e = true → L.getD e.on false = true) (h : Region.waitsFor .any ops j k = true) : L.getD k false = true := by
 obtain ⟨oj, hj, e, he, hb, hk⟩ := Region.waitsFor_spec h
 have : oj = o := Option.some.inj (hj.symm.trans ho)
 subst this
 rw [← hk]; exact hall e he hb
/-- Where an operation comes up, it sees what the lexical walk lets it see. -/
theorem RInv.look (S : Seqs P ops M w0 cs n A H D) (G : GB ops n cs (A 0).tmps.size) {L : Array Bool} {a : Act} {w : World} (I : RInv ops M w0 cs n A H D L a w) {j : Nat} {o : Oper} (hj : j < n) (ho : ops[j]? = some o)
  (hall : ∀ e ∈ o.after, Region.binds .any e = true → L.getD e.on false = true) (t : Tmp) (ht : t ∈ o.looksAt ops) :
  (fill (H j) (fun t => a.tmps.getD t undef) (A j)).tmps.getD t undef = a.tmps.getD t undef := by
 by_cases hin : ∃ φ, (t, φ) ∈ H j
 ·obtain ⟨φ, hφ⟩ := hin
  obtain ⟨k, ok, hk, hok, hd, _⟩ := S.mem j (by omega) hφ
  exact getD_fill_in _ _ hφ (by rw [(S.size j (by omega)).1]; exact (G.slot j k o ok t hj (by omega) ho hok hd).1)
 ·have hout : ∀ φ, (t, φ) ∉ H j := fun φ h => hin ⟨φ, h⟩
  rw [getD_fill_out _ _ hout]
  by_cases hk : ∃ k ok, k < n ∧ ops[k]? = some ok ∧ ok.dst = some t
  ·obtain ⟨k, ok, hkn, hok, hd⟩ := hk
   obtain ⟨_, h2, _⟩ := G.slot j k o ok t hj hkn ho hok hd
   obtain ⟨hkj, hw⟩ := h2 ht
   have hL := waits_listed ho hall hw
   have hn : ∀ φ, (t, φ) ∉ H n := fun φ hφ => by
    obtain ⟨k', ok', hk', hok', hd', e⟩ := S.mem n (Nat.le_refl _) hφ
    have hkk : k' = k := Classical.byContradiction fun hne => (G.slot k' k ok' ok t hk' hkn hok' hok hd).2.2 hne hd'
    subst hkk
    exact hout φ (S.sub j (k := k' + 1) (by omega) (by omega) (by rw [e]; simp))
   rw [(I.hit k ok t hkn hok hL hd).2 hn]
   refine (S.keep n (by omega) (Nat.le_refl _) fun i oi hi hi' hoi => ?_).symm
   exact (G.slot i k oi ok t hi' hkn hoi hok hd).2.2 (by omega)
  ·have hno : ∀ (k : Nat) (ok : Oper), k < n → ops[k]? = some ok → ok.dst ≠ some t := fun k ok h1 h2 h3 => hk ⟨k, ok, h1, h2, h3⟩
   rw [I.miss t (fun k ok h1 h2 _ => hno k ok h1 h2)]
   exact S.keep j (Nat.zero_le _) (by omega) fun i oi _ hi' hoi => hno i oi (by omega) hoi
theorem RInv.exec (S : Seqs P ops M w0 cs n A H D) (G : GB ops n cs (A 0).tmps.size) {L : Array Bool} {a : Act} {w : World} (I : RInv ops M w0 cs n A H D L a w) {j : Nat} {o : Oper} (hj : j < n) (ho : ops[j]? = some o)
  (hall : ∀ e ∈ o.after, Region.binds .any e = true → L.getD e.on false = true) :
  execOp a.eval o = execOp (fill (H j) (fun t => a.tmps.getD t undef) (A j)).eval o ∧
  Region.wanted o (yielded ops a.tmps) = Region.wanted o (yielded ops (fill (H j) (fun t => a.tmps.getD t undef) (A j)).tmps) := by
 have hl := fun t ht => I.look S G hj ho hall t ht
 refine ⟨execOp_congr o (fun cs b => Region.noSelect_spec G.sel j o cs b ho) fun x hx => ?_, ?_⟩
 ·cases x with
  | tmp t => exact (hl t (List.mem_append_left _ (List.mem_filterMap.2 ⟨.tmp t, by simpa using hx, rfl⟩))).symm
  | _ => rfl
 ·unfold Region.wanted
  cases hg : o.guard with
  | none => rfl
  | some gw =>
   obtain ⟨g, want⟩ := gw
   have hy : yielded ops a.tmps g = yielded ops (fill (H j) (fun t => a.tmps.getD t undef) (A j)).tmps g := by
    unfold yielded
    cases ht : (ops[g]?).bind (·.dst) with
    | none => rfl
    | some t =>
     simp only [Option.bind_some]
     rw [same_get (t := t) (by rw [size_fill, (S.size j (by omega)).1, I.asize]) (hl t (by simp [Oper.looksAt, hg, ht])).symm]
   simp only [hy]
theorem RInv.hf (S : Seqs P ops M w0 cs n A H D) (G : GB ops n cs (A 0).tmps.size) {L : Array Bool} {a : Act} {w : World} (I : RInv ops M w0 cs n A H D L a w) {j : Nat} {o : Oper} (hj : j < n) (ho : ops[j]? = some o)
  (hall : ∀ e ∈ o.after, Region.binds .any e = true → L.getD e.on false = true) : HF ops o (H j) (fun t => a.tmps.getD t undef) w := by
 intro p hp hlook
 obtain ⟨t, φ⟩ := p
 obtain ⟨k, ok, hk, hok, hd, _⟩ := S.mem j (by omega) hp
 have ht : t ∈ o.looksAt ops := List.contains_iff_mem.1 hlook
 obtain ⟨_, h2, _⟩ := G.slot j k o ok t hj (by omega) ho hok hd
 have hL := waits_listed ho hall (h2 ht).2
 exact (I.hit k ok t (by omega) hok hL hd).1 φ (S.sub n (by omega) (Nat.le_refl _) hp)
theorem RInv.cut (G : GB ops n cs (A 0).tmps.size) {L : Array Bool} {a : Act} {w : World} (I : RInv ops M w0 cs n A H D L a w) :
  ∀ (j : Nat), (∀ i, i < j → ∀ k, k ∈ cs → i ∈ cs → j ≤ k → True) → ∀ k, k < j → k ∈ cs → L.getD k false = true → ∀ i, i ∈ cs → i < k → L.getD i false = true := by
 intro j
 induction j with
 | zero => intro _ k hk; omega
 | succ j ih =>
  intro _ k hk hkc hL i hi hik
  obtain ⟨k', hk', h1, h2, hw⟩ := G.chain k i hkc hi hik
  obtain ⟨ok, hok, e, he, hb, hon⟩ := Region.waitsFor_spec hw
  have hL' : L.getD k' false = true := by rw [← hon]; exact I.closed k ok hok hL e he hb
  rcases Nat.lt_or_ge i k' with h | h
  ·exact ih (fun _ _ _ _ _ _ => trivial) k' (by omega) hk' hL' i hi h
  ·have : i = k' := by omega
   subst this; exact hL'
/-- One operation has run: the invariant goes on. -/
theorem RInv.next (S : Seqs P ops M w0 cs n A H D) (G : GB ops n cs (A 0).tmps.size) {L : Array Bool} {a : Act} {w : World} (I : RInv ops M w0 cs n A H D L a w) {j : Nat} {o : Oper} (hj : j < n) (ho : ops[j]? = some o)
  (hun : L.getD j true = false) (hall : ∀ e ∈ o.after, Region.binds .any e = true → L.getD e.on false = true) {u : Value} {w' : World} (hg : GrowBut M w w')
  (hD : (Below w.heap.size w w' ∧ D (j + 1) = D j) ∨ (j ∈ cs ∧ D (j + 1) w'))
  (hu : ∀ t, o.dst = some t → (∀ φ, (t, φ) ∈ H n → φ u w') ∧ ((∀ φ, (t, φ) ∉ H n) → (A (j + 1)).tmps.getD t undef = u))
  (hst : ∀ p ∈ H n, ∀ u w w', GrowBut M w w' → p.2 u w → p.2 u w') :
  RInv ops M w0 cs n A H D (L.setIfInBounds j true) (a.put o.dst u) w' := by
 have hjs : j < L.size := by
  rcases Nat.lt_or_ge j L.size with h' | h'
  ·exact h'
  ·simp [Array.getElem?_eq_none h'] at hun
 have hset : (L.setIfInBounds j true).getD j false = true := by simp [hjs]
 have hne : ∀ k, k ≠ j → (L.setIfInBounds j true).getD k false = L.getD k false := fun k hk => getD_set_ne false (Ne.symm hk)
 have hfalse : L.getD j false = false := getD_both hun
 refine ⟨by simp [I.size], ?_, I.grow.trans hg, ?_, ?_, ?_, by rw [size_put, I.asize], by rw [defers_put, I.defers], ?_⟩
 ·intro k ok hok hL e he hb
  refine getD_set_true ?_
  by_cases hkj : k = j
  ·subst hkj
   have : ok = o := Option.some.inj (hok.symm.trans ho)
   subst this
   exact hall e he hb
  ·rw [hne k hkj] at hL
   exact I.closed k ok hok hL e he hb
 ·intro k hk h1 h2
  rcases hD with ⟨hb, hDj⟩ | ⟨hjc, hDj⟩
  ·by_cases hjc : j ∈ cs
   ·by_cases hkj : k ≤ j
    ·have := h2 j hjc hkj
     rw [hset] at this; cases this
    ·have hD1 : D k = D (j + 1) := S.sameD k (by omega) hk fun i hi h3 h4 => by
      have hLi := h1 i hi h4
      rw [hne i (by omega)] at hLi
      have := I.cut G (i + 1) (fun _ _ _ _ _ _ => trivial) i (by omega) hi hLi j hjc (by omega)
      rw [hfalse] at this; cases this
     rw [hD1, hDj]
     refine S.stableD j (by omega) _ _ hb (I.chain j (by omega) ?_ ?_)
     ·intro i hi hij
      have := h1 i hi (by omega)
      rwa [hne i (by omega)] at this
     ·intro i hi hij
      by_cases hij' : i = j
      ·rw [hij']; exact hfalse
      ·cases hb : L.getD i false
       ·rfl
       ·have := I.cut G (i + 1) (fun _ _ _ _ _ _ => trivial) i (by omega) hi hb j hjc (by omega)
        rw [hfalse] at this; cases this
   ·refine S.stableD k hk _ _ hb (I.chain k hk ?_ ?_)
    ·intro i hi hik
     have := h1 i hi hik
     rwa [hne i (fun e => hjc (e ▸ hi))] at this
    ·intro i hi hik
     have := h2 i hi hik
     rwa [hne i (fun e => hjc (e ▸ hi))] at this
  ·by_cases hkj : k ≤ j
   ·have := h2 j hjc hkj
    rw [hset] at this; cases this
   ·have hD1 : D k = D (j + 1) := S.sameD k (by omega) hk fun i hi h3 h4 => by
     have hLi := h1 i hi h4
     rw [hne i (by omega)] at hLi
     have := I.cut G (i + 1) (fun _ _ _ _ _ _ => trivial) i (by omega) hi hLi j hjc (by omega)
     rw [hfalse] at this; cases this
    rw [hD1]; exact hDj
 ·intro k ok t hk hok hL hd
  by_cases hkj : k = j
  ·subst hkj
   have : ok = o := Option.some.inj (hok.symm.trans ho)
   subst this
   have hlt := (G.slot k k ok ok t hk hk hok hok hd).1
   have e : (a.put ok.dst u).tmps.getD t undef = u := by rw [hd]; exact getD_put_same _ _ _ (by rw [I.asize]; exact hlt)
   rw [e]
   refine ⟨(hu t hd).1, fun hn => ?_⟩
   rw [← (hu t hd).2 hn]
   refine (S.keep n (by omega) (Nat.le_refl _) fun i oi hi hi' hoi => ?_).symm
   exact (G.slot i k oi ok t hi' hk hoi hok hd).2.2 (by omega)
  ·rw [hne k hkj] at hL
   have hne' : o.dst ≠ some t := (G.slot j k o ok t hj hk ho hok hd).2.2 (Ne.symm hkj)
   rw [getD_put _ _ _ _ hne']
   have := I.hit k ok t hk hok hL hd
   exact ⟨fun φ hφ => hst _ hφ _ _ _ hg (this.1 φ hφ), this.2⟩
 ·intro t ht
  have hne' : o.dst ≠ some t := ht j o hj ho hset
  rw [getD_put _ _ _ _ hne']
  refine I.miss t fun k ok hk hok hL => ht k ok hk hok ?_
  by_cases hkj : k = j
  ·rw [hkj]; exact hset
  ·rw [hne k hkj]; exact hL
 ·intro t ht; rw [hne t (by omega)]; exact I.tail t ht
/-- The stable facts. -/
theorem Seqs.stableH (S : Seqs P ops M w0 cs n A H D) : ∀ p ∈ H n, ∀ u w w', GrowBut M w w' → p.2 u w → p.2 u w' := by
 intro p hp
 obtain ⟨t, φ⟩ := p
 obtain ⟨k, o, hk, ho, hd, e⟩ := S.mem n (Nat.le_refl _) hp
 rcases S.step k o hk ho with ⟨_, _, h, _⟩ | ⟨_, ψ, hψ, ⟨v, _, _, h⟩ | ⟨d, _, _, h⟩, _⟩
 ·rw [h] at e; exact absurd (congrArg List.length e) (by simp)
 ·rw [h] at e; exact absurd (congrArg List.length e) (by simp)
 ·rw [h] at e
  have : (d, ψ) = (t, φ) := (List.cons.inj e).1
  have : ψ = φ := congrArg Prod.snd this
  subst this
  exact hψ
/-- What the slot of an operation that was taken holds at the walk's end. -/
theorem Seqs.slotEnd (S : Seqs P ops M w0 cs n A H D) (G : GB ops n cs (A 0).tmps.size) {j : Nat} {o : Oper} {t : Tmp} (hj : j < n) (ho : ops[j]? = some o) (hd : o.dst = some t) {φ : Value → World → Prop} (hφ : (t, φ) ∈ H n) : H (j + 1) = (t, φ) :: H j := by
 obtain ⟨k, ok, hk, hok, hdk, e⟩ := S.mem n (Nat.le_refl _) hφ
 have : k = j := Classical.byContradiction fun hne => (G.slot k j ok o t hk hj hok ho hd).2.2 hne hdk
 subst this
 exact e
theorem wp_of_mild {o : Oper} {a : Act} {w : World} {φ : Value → World → Prop} {R : World → Prop} {K : Act → World → Prop} {Q : Exit → Act → World → Prop}
  (h : mildUpon P w φ R ((execOp a.eval o).run P w)) (hK : ∀ u w', φ u w' → R w' → K (a.put o.dst u) w') : o.wp P a w K Q := by
 unfold Oper.wp
 generalize (execOp a.eval o).run P w = r at *
 cases r with
 | ok x w' =>
  cases x <;> simp only [mildUpon] at h <;> simp only [Oper.upon]
  case value u => exact hK _ _ h.1 h.2
  case skip => exact hK _ _ h.1 h.2
  case enter f args =>
   obtain ⟨e1, hc⟩ := h
   rw [e1]
   refine hc.mono fun e w'' he => ?_
   obtain ⟨u, rfl, h1, h2⟩ := he
   exact hK _ _ h1 h2
 | halt x w' => simp only [mildUpon] at h
theorem RInv.step (S : Seqs P ops M w0 cs n A H D) (G : GB ops n cs (A 0).tmps.size) {L : Array Bool} {a : Act} {w : World} (I : RInv ops M w0 cs n A H D L a w) {j : Nat} (hj : j < n) (hr : j ∈ Region.ready .any ops L)
  {K : Act → World → Prop} {Q : Exit → Act → World → Prop} (hK : ∀ a' w', RInv ops M w0 cs n A H D (L.setIfInBounds j true) a' w' → K a' w') : wpOp P ops Q j K a w := by
 obtain ⟨hun, o, ho, hall⟩ := mem_ready.1 hr
 obtain ⟨hex, hwa⟩ := I.exec S G hj ho hall
 have hf := I.hf S G hj ho hall
 have hH := fun p hp => S.stableH p hp
 unfold wpOp
 simp only [ho]
 rcases S.step j o hj ho with ⟨hw, hA, hH', hD'⟩ | ⟨hw, φ, hst, hA, hD'⟩
 ·rw [hwa, hw]
  simp only [Bool.false_eq_true, if_false]
  refine hK _ _ (I.next S G hj ho hun hall (GrowBut.refl _ _) (Or.inl ⟨Below.refl _ _, hD'⟩) (fun t hd => ⟨fun ψ hψ => ?_, fun _ => ?_⟩) hH)
  ·have := S.slotEnd G hj ho hd hψ
   rw [hH'] at this
   exact absurd (congrArg List.length this) (by simp)
  ·have hlt := (G.slot j j o o t hj hj ho ho hd).1
   rw [hA, hd, getD_put_same _ _ _ (by rw [(S.size j (by omega)).1]; exact hlt)]
 ·rw [hwa, hw]
  simp only [if_true]
  refine Or.inl ?_
  have slots : ∀ u w', φ u w' → ∀ t, o.dst = some t → (∀ ψ, (t, ψ) ∈ H n → ψ u w') ∧ ((∀ ψ, (t, ψ) ∉ H n) → (A (j + 1)).tmps.getD t undef = u) := by
   intro u w' hu t hd
   have hlt := (G.slot j j o o t hj hj ho ho hd).1
   rcases hA with ⟨v, rfl, hA, hH'⟩ | ⟨d, hd', hA, hH'⟩
   ·refine ⟨fun ψ hψ => ?_, fun _ => ?_⟩
    ·have := S.slotEnd G hj ho hd hψ
     rw [hH'] at this
     exact absurd (congrArg List.length this) (by simp)
    ·rw [hA, hd, getD_put_same _ _ _ (by rw [(S.size j (by omega)).1]; exact hlt)]
     exact hu.symm
   ·refine ⟨fun ψ hψ => ?_, fun hno => ?_⟩
    ·have e := S.slotEnd G hj ho hd hψ
     rw [hH'] at e
     have : φ = ψ := congrArg Prod.snd (List.cons.inj e).1
     rw [← this]; exact hu
    ·have : d = t := Option.some.inj (hd'.symm.trans hd)
     subst this
     exact absurd (S.sub n (k := j + 1) (by omega) (Nat.le_refl _) (by rw [hH']; simp)) (hno φ)
  rcases hD' with ⟨hD', hnc, hm⟩ | ⟨_, hc, hm⟩
  ·have hDj : seeB ops cs j = true → D j w := fun hse => by
    have hse' := List.all_eq_true.1 hse
    refine I.chain j (by omega) (fun i hi hij => ?_) (fun i hi hij => ?_)
    ·have := hse' i hi
     rw [if_pos hij] at this
     exact waits_listed ho hall this
    ·have hne : i ≠ j := fun e => by
      rw [e] at hi
      rw [List.contains_iff_mem.2 hi] at hnc; cases hnc
     have := hse' i hi
     rw [if_neg (by omega)] at this
     obtain ⟨oi, hoi, e, he, hb, hon⟩ := Region.waitsFor_spec this
     cases hb' : L.getD i false
     ·rfl
     ·have := I.closed i oi hoi hb' e he hb
      rw [hon, getD_both hun] at this; cases this
   have hm' := hm _ w I.grow hDj hf
   unfold mildAt at hm'
   rw [← hex] at hm'
   exact wp_of_mild hm' fun u w' hu hb => hK _ _ (I.next S G hj ho hun hall (GrowBut.of_below hb) (Or.inl ⟨hb, hD'⟩) (slots u w' hu) hH)
  ·have hjc : j ∈ cs := List.contains_iff_mem.1 hc
   have hDj : D j w := by
    refine I.chain j (by omega) ?_ ?_
    ·intro i hi hij
     obtain ⟨k, hk, h1, h2, hw'⟩ := G.chain j i hjc hi hij
     have hLk := waits_listed ho hall hw'
     by_cases hik : i = k
     ·rw [hik]; exact hLk
     ·exact I.cut G (k + 1) (fun _ _ _ _ _ _ => trivial) k (by omega) hk hLk i hi (by omega)
    ·intro i hi hij
     by_cases hij' : i = j
     ·rw [hij']; exact getD_both hun
     ·cases hb : L.getD i false
      ·rfl
      ·have := I.cut G (i + 1) (fun _ _ _ _ _ _ => trivial) i (by omega) hi hb j hjc (by omega)
       rw [getD_both hun] at this; cases this
   have hm' := hm _ w I.grow hDj hf
   unfold mildAt at hm'
   rw [← hex] at hm'
   exact wp_of_mild hm' fun u w' hu hb => hK _ _ (I.next S G hj ho hun hall hb.1 (Or.inr ⟨hjc, hb.2⟩) (slots u w' hu) hH)
/-- All that the walk asked is listed: the act is the walk's last one, filled with something. -/
theorem RInv.fin (S : Seqs P ops M w0 cs n A H D) (G : GB ops n cs (A 0).tmps.size) {L : Array Bool} {a : Act} {w : World} (I : RInv ops M w0 cs n A H D L a w) (hL : ∀ k, k < n → L.getD k false = true)
  (hcs : ∀ i ∈ cs, i < n) :
  GrowBut M w0 w ∧ D n w ∧ (∀ p ∈ H n, p.2 (a.tmps.getD p.1 undef) w) ∧ a = fill (H n) (fun t => a.tmps.getD t undef) (A n) := by
 refine ⟨I.grow, I.chain n (Nat.le_refl _) (fun i _ hi => hL i hi) (fun i hi h => by have := hcs i hi; omega), ?_, ?_⟩
 ·intro p hp
  obtain ⟨t, φ⟩ := p
  obtain ⟨k, o, hk, ho, hd, _⟩ := S.mem n (Nat.le_refl _) hp
  exact (I.hit k o t hk ho (hL k hk) hd).1 φ hp
 ·have hsz := (S.size n (Nat.le_refl _)).1
  have hd := (S.size n (Nat.le_refl _)).2
  have ht : a.tmps = (fill (H n) (fun t => a.tmps.getD t undef) (A n)).tmps := by
   refine Array.ext_getElem? fun t => same_get (by rw [size_fill, hsz, I.asize]) ?_
   by_cases hin : ∃ φ, (t, φ) ∈ H n
   ·obtain ⟨φ, hφ⟩ := hin
    obtain ⟨k, ok, hk, hok, hdk, _⟩ := S.mem n (Nat.le_refl _) hφ
    exact (getD_fill_in (fun t => a.tmps.getD t undef) (A n) hφ (by rw [hsz]; exact (G.slot k k ok ok t hk hk hok hok hdk).1)).symm
   ·have hout : ∀ φ, (t, φ) ∉ H n := fun φ h => hin ⟨φ, h⟩
    rw [getD_fill_out _ _ hout]
    by_cases hk : ∃ k ok, k < n ∧ ops[k]? = some ok ∧ ok.dst = some t
    ·obtain ⟨k, ok, hkn, hok, hdk⟩ := hk
     exact (I.hit k ok t hkn hok (hL k hkn) hdk).2 hout
    ·have hno : ∀ (k : Nat) (ok : Oper), k < n → ops[k]? = some ok → ok.dst ≠ some t := fun k ok h1 h2 h3 => hk ⟨k, ok, h1, h2, h3⟩
     rw [I.miss t (fun k ok h1 h2 _ => hno k ok h1 h2)]
     exact (S.keep n (Nat.zero_le _) (Nat.le_refl _) fun i oi _ hi' hoi => hno i oi hi' hoi).symm
  have hdf : a.defers = (fill (H n) (fun t => a.tmps.getD t undef) (A n)).defers := by rw [defers_fill, hd, I.defers]
  obtain ⟨x, y⟩ := a
  generalize fill (H n) (fun t => (Act.mk x y).tmps.getD t undef) (A n) = b at *
  obtain ⟨x', y'⟩ := b
  simp only at ht hdf
  rw [ht, hdf]
end
theorem wpAny_of_inv {M : Nat → Prop} {w0 : World} {cs : List Nat} {n : Nat} {A : Nat → Act} {H : Nat → List (Tmp × (Value → World → Prop))} {D : Nat → World → Prop} {Q : Exit → Act → World → Prop}
  (S : Seqs P ops M w0 cs n A H D) (G : GB ops n cs (A 0).tmps.size) (hcs : ∀ i ∈ cs, i < n)
  (hq : ∀ xs w, GrowBut M w0 w → D n w → (∀ p ∈ H n, p.2 (xs p.1) w) → wpList P ops Q (ops.toList.drop n) (fill (H n) xs (A n)) w) :
  ∀ (m : Nat) (L : Array Bool) (a : Act) (w : World), RInv ops M w0 cs n A H D L a w → unl L n = m → wpAny P .any ops Q (m + (ops.size - n)) L a w := by
 -- where all that the walk asked is listed, the tail is left
 have last : ∀ (L : Array Bool) (a : Act) (w : World), RInv ops M w0 cs n A H D L a w → (∀ k, k < n → L.getD k true = true) →
   wpList P ops Q (ops.toList.drop n) a w := by
  intro L a w I hL
  have hL' : ∀ k, k < n → L.getD k false = true := fun k hk => by
   cases hb : L.getD k false
   ·have hlt : k < L.size := by rw [I.size]; have := G.le; omega
    have := getD_in hlt hb
    rw [hL k hk] at this; cases this
   ·rfl
  obtain ⟨h1, h2, h3, h4⟩ := I.fin S G hL' hcs
  rw [h4]
  exact hq _ w h1 h2 h3
 have least : ∀ (L : Array Bool) (a : Act) (w : World), RInv ops M w0 cs n A H D L a w → ∀ k, k < ops.size → L.getD k true = false → ∃ j, j ∈ Region.ready .any ops L := by
  intro L a w I k
  induction k using Nat.strongRecOn with
  | ind k ih =>
   intro hk hun
   by_cases h : ∀ e ∈ (ops[k]'hk).after, Region.binds .any e = true → L.getD e.on false = true
   ·exact ⟨k, mem_ready.2 ⟨hun, ops[k], by simp [hk], h⟩⟩
   ·have : ∃ e, e ∈ (ops[k]'hk).after ∧ Region.binds .any e = true ∧ L.getD e.on false = false := by
     refine Classical.byContradiction fun hn => h fun e he hb => ?_
     cases hb' : L.getD e.on false
     ·exact absurd ⟨e, he, hb, hb'⟩ hn
     ·rfl
    obtain ⟨e, he, hb, hf⟩ := this
    have hlo := G.low k ops[k] (by simp [hk]) e he hb
    exact ih e.on hlo (by omega) (getD_in (by rw [I.size]; omega) hf)
 intro m
 induction m with
 | zero =>
  intro L a w I hu
  have hall := unl_zero hu
  have hLe : L = Array.replicate n true ++ Array.replicate (ops.size - n) false := by
   have hle := G.le
   refine Array.ext (by rw [I.size]; simp; omega) fun i h1 h2 => ?_
   rw [Array.getElem_append]
   rcases Nat.lt_or_ge i n with h | h
   ·have h3 := hall i h
    rw [dif_pos (by simpa using h)]
    simp [h1] at h3
    simpa using h3
   ·have h3 := I.tail i h
    rw [dif_neg (by simpa using h)]
    simp [h1] at h3
    simpa using h3
  have hl := last L a w I hall
  have := wpAny_of_seq (md := .any) (ops := ops) (P := P) (Q' := Q) (ops.toList.drop n) n L a w (fun j => by simp) (by rw [List.length_drop, Array.length_toList, hLe]; exact G.seq) hl
  rw [List.length_drop, Array.length_toList] at this
  rw [Nat.zero_add]
  exact this
 | succ m ih =>
  intro L a w I hu
  -- something of the front is not listed
  have hsome : ∃ k, k < n ∧ L.getD k true = false := by
   refine Classical.byContradiction fun hno => ?_
   have : ∀ q, q ≤ n → unl L q = 0 := by
    intro q
    induction q with
    | zero => intro _; rfl
    | succ q ih =>
     intro hm
     rw [unl, ih (by omega)]
     cases hb : L.getD q true
     ·exact absurd ⟨q, by omega, hb⟩ hno
     ·simp
   rw [this _ (Nat.le_refl _)] at hu; omega
  obtain ⟨k, hk, hun⟩ := hsome
  have hle := G.le
  rw [Nat.succ_add]
  refine ⟨fun hnr => ?_, fun j hj => ?_⟩
  ·obtain ⟨j, hj⟩ := least L a w I k (by omega) hun
   rw [hnr] at hj; cases hj
  ·have hjn : j < n := by
    rcases Nat.lt_or_ge j n with h | h
    ·exact h
    ·obtain ⟨_, o, ho, _⟩ := mem_ready.1 hj
     have hjs : j < ops.size := (Array.getElem?_eq_some_iff.1 ho).1
     obtain ⟨h1, h2⟩ := G.sink (by omega)
     exact absurd hj (tail_waits h1 h2 (by omega) ⟨I.size, I.closed, fun t ht hts => getD_in (by rw [I.size]; exact hts) (I.tail t ht)⟩ _ k rfl hk hun j h)
   have hun' := (mem_ready.1 hj).1
   have hu' : unl (L.setIfInBounds j true) n = m := by have := unl_set L j hun' n hjn; omega
   exact I.step S G hjn hj fun a' w' I' => ih _ a' w' I' hu'
/-- **ONE WALK OF THE LEXICAL ORDER SERVES EVERY ORDER** of a region whose operations make new memory alone, but for the chain 'cs', which may turn the blocks of M. The last operations may be left over (all but the first 'n'), if they wait for all and for one another: they are walked plainly. -/
theorem wp_region_grow {id : Nat} {Q : Exit → Act → World → Prop} {a : Act} {w : World} {l : List Oper} (n : Nat) (cs : List Nat) (M : Nat → Prop) (C : World → Prop) (hm : P.follows .mixedOrders = true)
  (hB : growB l.toArray n cs a.tmps.size = true) (hcs : (cs.all fun i => decide (i < n)) = true) (hC : ∀ w w', Below w.heap.size w w' → C w → C w') (hC0 : C w)
  (h : wpH P l.toArray M w cs (fun a' hs C' => ∀ xs w', GrowBut M w w' → C' w' → (∀ p ∈ hs, p.2 (xs p.1) w') → wpList P l.toArray Q (l.drop n) (fill hs xs a') w') (l.take n) 0 a [] C) :
  (Code.region id l.toArray true).wp P Q a w := by
 have G := growB_spec hB
 have hcs' : ∀ i ∈ cs, i < n := fun i hi => by have := List.all_eq_true.1 hcs i hi; simpa using this
 refine wp_region_any hm ?_
 obtain ⟨A, H, D, hA, hH, hD, hall, hq⟩ := wpH_seq _ _ _ _ _ h
 have hlen : (l.take n).length = n := by have := G.le; simp at this ⊢; omega
 rw [hlen] at hq
 simp only [Nat.zero_add] at hq hall
 subst hA
 have S : Seqs P l.toArray M w cs n A H D := by
  refine ⟨hH, fun j o hj ho => ?_, fun j hj => ?_, by rw [hD]; exact hC⟩
  ·refine hall j o ?_
   rw [List.getElem?_take, if_pos hj]
   simpa using ho
  ·have : j < l.length := by have := G.le; simp at this; omega
   exact ⟨l[j], by simp [this]⟩
 have hmain := wpAny_of_inv S G hcs' (fun xs w' h1 h2 h3 => by simpa using hq xs w' h1 h2 h3) n (Array.replicate l.toArray.size false) (A 0) { w with drawn := w.drawn + 1 } ?_ ?_
 ·have : n + (l.toArray.size - n) = l.toArray.size := by have := G.le; omega
  rwa [this] at hmain
 ·refine ⟨by simp, ?_, ⟨rfl, rfl, rfl, Nat.le_refl _, fun _ _ _ => rfl⟩, ?_, ?_, ?_, rfl, rfl, fun t _ => getD_replicate_false _ _⟩
  ·intro j oj _ hL; rw [getD_replicate_false] at hL; cases hL
  ·intro k hk h1 _
   have : D k = D 0 := S.sameD k (Nat.zero_le _) hk fun i hi _ hik => by
    have := h1 i hi hik
    rw [getD_replicate_false] at this; cases this
   rw [this, hD]
   exact hC w _ ⟨rfl, rfl, rfl, Nat.le_refl _, fun _ _ => rfl⟩ hC0
  ·intro k ok t _ _ hL; rw [getD_replicate_false] at hL; cases hL
  ·intro t _; rfl
 ·have : ∀ m, m ≤ l.toArray.size → unl (Array.replicate l.toArray.size false) m = m := by
   intro m
   induction m with
   | zero => intro _; rfl
   | succ m ih =>
    intro hm
    rw [unl, ih (by omega)]
    have : (Array.replicate l.toArray.size false).getD m true = false := by
     have : m < l.toArray.size := by omega
     simp at this
     simp [this]
    rw [if_pos this]
  exact this _ G.le
end
end
end Go.Proofs.YtgckhdepnmiejaaGreat
namespace Go.Proofs.YtgckhdepnmiejaaGreat
section
open Go.RowKit
theorem GrowBut.weaken {M M' : Nat → Prop} {w w' : World} (h : GrowBut M w w') (hm : ∀ k, M k → M' k) : GrowBut M' w w' :=
 ⟨h.os, h.tape, h.output, h.size, fun k hk hn => h.block k hk (fun hh => hn (hm k hh))⟩
theorem GrowBut.setCell {M : Nat → Prop} {w w' : World} (h : GrowBut M w w') {a : Addr} (ha : M a.block) (v : Value) : GrowBut M w (w'.setCell a v) :=
 ⟨h.os, h.tape, h.output, by simpa [World.setCell] using h.size, fun k hk hn => (Below.heap_setCell _ _ _ _ (fun e => hn (by rw [e]; exact ha))).trans (h.block k hk hn)⟩
theorem GrowBut.drew {M : Nat → Prop} {w w' : World} (h : GrowBut M w w') : GrowBut M w w'.drew := ⟨h.os, h.tape, h.output, h.size, h.block⟩
theorem GrowBut.drewN {M : Nat → Prop} {w w' : World} (h : GrowBut M w w') (n : Nat) : GrowBut M w (w'.drewN n) := ⟨h.os, h.tape, h.output, h.size, h.block⟩
theorem GrowBut.alloc {M : Nat → Prop} {w w' : World} (h : GrowBut M w w') (o : Obj) : GrowBut M w (w'.alloc o) :=
 h.trans (GrowBut.of_below ((Below.refl _ _).alloc (Nat.le_refl _) o))
theorem GrowBut.setCells {M : Nat → Prop} {w w' : World} (h : GrowBut M w w') {b : Nat} (hb : M b) (o : Nat) (vs : List Value) : GrowBut M w (w'.setCells b o vs) := by
 induction vs generalizing w' o with
 | nil => exact h
 | cons v r ih => exact ih (h.setCell hb v) (o + 1)
theorem GrowBut.cell {M : Nat → Prop} {w w' : World} (h : GrowBut M w w') {p : Addr} {v : Value} (hc : w.cell? p = some v) (hm : ¬ M p.block) : w'.cell? p = some v := by
 have hb := h.block p.block (block_lt hc) hm
 rw [← hc]
 unfold World.cell?
 rw [hb]
end
end Go.Proofs.YtgckhdepnmiejaaGreat
namespace Go.Proofs.YtgckhdepnmiejaaGreat
section
open Go.RowKit
/-- A plain operation's result: a value, in the very world. -/
def pureUpon (w : World) (v : Value) : Result Next → Prop
 | .ok (.value u) w' => w' = w ∧ u = v
 | .ok .skip w' => w' = w ∧ v = undef
 | _ => False
def pureOp (P : Program) (o : Oper) (a : Act) (K : Act → Prop) : Prop := ∃ v, (∀ w, pureUpon w v ((execOp a.eval o).run P w)) ∧ K (a.put o.dst v)
attribute [go_sem] pureUpon pureOp mildUpon mildAt fill
section
variable {P : Program} {ops : Array Oper} {M : Nat → Prop} {w0 : World} {cs : List Nat} {Qf : Act → List (Tmp × (Value → World → Prop)) → (World → Prop) → Prop}
 {o : Oper} {rest : List Oper} {k : Nat} {a : Act} {hs : List (Tmp × (Value → World → Prop))} {C : World → Prop}
theorem wpH_nil (h : Qf a hs C) : wpH P ops M w0 cs Qf [] k a hs C := h
theorem fill_out (xs : Tmp → Value) (h : (hs.all fun p => !(o.looksAt ops).contains p.1) = true) (hs' : ∀ cs b, o.op ≠ .select cs b) :
  execOp (fill hs xs a).eval o = execOp a.eval o ∧ Region.wanted o (yielded ops (fill hs xs a).tmps) = Region.wanted o (yielded ops a.tmps) := by
 induction hs with
 | nil => exact ⟨rfl, rfl⟩
 | cons p r ih =>
  simp only [List.all_cons, Bool.and_eq_true] at h
  have hn : ∀ d, (some p.1 : Option Tmp) = some d → d ∉ o.looksAt ops := fun d hd hm => by
   have : p.1 = d := Option.some.inj hd
   subst this
   rw [List.contains_iff_mem.2 hm] at h
   exact absurd h.1 (by simp)
  obtain ⟨h1, h2⟩ := ih h.2
  simp only [fill]
  exact ⟨(execOp_put o hs' _ _ _ hn).trans h1, (wanted_put o _ _ _ hn).trans h2⟩
/-- A plain operation, that looks at no hidden slot (or one that its guard leaves out). -/
theorem wpH_pure (hsel : (∀ cs b, o.op ≠ .select cs b)) (hc : cs.contains k = false) (hl : (hs.all fun p => !(o.looksAt ops).contains p.1) = true)
  (h : ∀ K : Act → Prop, (∀ a, wpH P ops M w0 cs Qf rest (k + 1) a hs C → K a) → if Region.wanted o (yielded ops a.tmps) then pureOp P o a K else K (a.put o.dst undef)) : wpH P ops M w0 cs Qf (o :: rest) k a hs C := by
 have h' := h _ (fun _ h => h)
 split at h'
 ·rename_i hw
  obtain ⟨v, hv, hk⟩ := h'
  refine ⟨_, _, _, Or.inr ⟨fun xs => by rw [(fill_out xs hl hsel).2]; exact hw, _, fun u w w' _ h => h, Or.inl ⟨v, rfl, rfl, rfl⟩, Or.inl ⟨rfl, hc, fun xs w _ _ _ => ?_⟩⟩, hk⟩
  unfold mildAt
  rw [(fill_out xs hl hsel).1]
  have := hv w
  generalize (execOp a.eval o).run P w = r at *
  cases r with
  | ok x w' =>
   cases x <;> simp only [pureUpon] at this <;> simp only [mildUpon]
   case value u => obtain ⟨rfl, rfl⟩ := this; exact ⟨rfl, Below.refl _ _⟩
   case skip => obtain ⟨rfl, rfl⟩ := this; exact ⟨rfl, Below.refl _ _⟩
  | halt x w' => simp only [pureUpon] at this
 ·rename_i hw
  exact ⟨_, _, _, Or.inl ⟨fun xs => by rw [(fill_out xs hl hsel).2]; simpa using hw, rfl, rfl, rfl⟩, h'⟩
theorem wpHp (h : ∀ K : Act → Prop, (∀ a, wpH P ops M w0 cs Qf rest (k + 1) a hs C → K a) → if Region.wanted o (yielded ops a.tmps) then pureOp P o a K else K (a.put o.dst undef)) (hsel : ∀ cs b, o.op ≠ .select cs b := by intro _ _ h; cases h) (hc : cs.contains k = false := by rfl)
  (hl : (hs.all fun p => !(o.looksAt ops).contains p.1) = true := by rfl) : wpH P ops M w0 cs Qf (o :: rest) k a hs C := wpH_pure hsel hc hl h
/-- An operation whose value is known, beforehand. -/
theorem wpH_det (v : Value) (hc : cs.contains k = false) (hw : ∀ xs, Region.wanted o (yielded ops (fill hs xs a).tmps) = true)
  (h : ∀ xs w, GrowBut M w0 w → HF ops o hs xs w → mildAt P o (fill hs xs a) w (fun u _ => u = v) (fun w' => Below w.heap.size w w')) (hk : wpH P ops M w0 cs Qf rest (k + 1) (a.put o.dst v) hs C) :
  wpH P ops M w0 cs Qf (o :: rest) k a hs C :=
 ⟨_, _, _, Or.inr ⟨hw, _, fun u w w' _ h => h, Or.inl ⟨v, rfl, rfl, rfl⟩, Or.inl ⟨rfl, hc, fun xs w hg _ hf => h xs w hg hf⟩⟩, hk⟩
/-- An operation of whose value a property is known. -/
theorem wpH_hid {d : Tmp} (φ : Value → World → Prop) (hd : o.dst = some d) (hc : cs.contains k = false) (hst : ∀ u w w', GrowBut M w w' → φ u w → φ u w') (hw : ∀ xs, Region.wanted o (yielded ops (fill hs xs a).tmps) = true)
  (h : ∀ xs w, GrowBut M w0 w → HF ops o hs xs w → mildAt P o (fill hs xs a) w φ (fun w' => Below w.heap.size w w')) (hk : wpH P ops M w0 cs Qf rest (k + 1) (a.put o.dst undef) ((d, φ) :: hs) C) :
  wpH P ops M w0 cs Qf (o :: rest) k a hs C :=
 ⟨_, _, _, Or.inr ⟨hw, φ, hst, Or.inr ⟨d, hd, rfl, rfl⟩, Or.inl ⟨rfl, hc, fun xs w hg _ hf => h xs w hg hf⟩⟩, hk⟩
/-- The like, where an operation sees the chain's state. -/
theorem wpH_sdet (v : Value) (hc : cs.contains k = false) (hse : seeB ops cs k = true) (hw : ∀ xs, Region.wanted o (yielded ops (fill hs xs a).tmps) = true)
  (h : ∀ xs w, GrowBut M w0 w → C w → HF ops o hs xs w → mildAt P o (fill hs xs a) w (fun u _ => u = v) (fun w' => Below w.heap.size w w')) (hk : wpH P ops M w0 cs Qf rest (k + 1) (a.put o.dst v) hs C) :
  wpH P ops M w0 cs Qf (o :: rest) k a hs C :=
 ⟨_, _, _, Or.inr ⟨hw, _, fun u w w' _ h => h, Or.inl ⟨v, rfl, rfl, rfl⟩, Or.inl ⟨rfl, hc, fun xs w hg hC hf => h xs w hg (hC hse) hf⟩⟩, hk⟩
theorem wpH_shid {d : Tmp} (φ : Value → World → Prop) (hd : o.dst = some d) (hc : cs.contains k = false) (hse : seeB ops cs k = true) (hst : ∀ u w w', GrowBut M w w' → φ u w → φ u w') (hw : ∀ xs, Region.wanted o (yielded ops (fill hs xs a).tmps) = true)
  (h : ∀ xs w, GrowBut M w0 w → C w → HF ops o hs xs w → mildAt P o (fill hs xs a) w φ (fun w' => Below w.heap.size w w')) (hk : wpH P ops M w0 cs Qf rest (k + 1) (a.put o.dst undef) ((d, φ) :: hs) C) :
  wpH P ops M w0 cs Qf (o :: rest) k a hs C :=
 ⟨_, _, _, Or.inr ⟨hw, φ, hst, Or.inr ⟨d, hd, rfl, rfl⟩, Or.inl ⟨rfl, hc, fun xs w hg hC hf => h xs w hg (hC hse) hf⟩⟩, hk⟩
/-- An operation of the chain whose value is known. -/
theorem wpH_cdet (v : Value) (C' : World → Prop) (hc : cs.contains k = true) (hC : ∀ w w', Below w.heap.size w w' → C' w → C' w') (hw : ∀ xs, Region.wanted o (yielded ops (fill hs xs a).tmps) = true)
  (h : ∀ xs w, GrowBut M w0 w → C w → HF ops o hs xs w → mildAt P o (fill hs xs a) w (fun u _ => u = v) (fun w' => GrowBut M w w' ∧ C' w')) (hk : wpH P ops M w0 cs Qf rest (k + 1) (a.put o.dst v) hs C') :
  wpH P ops M w0 cs Qf (o :: rest) k a hs C :=
 ⟨_, _, _, Or.inr ⟨hw, _, fun u w w' _ h => h, Or.inl ⟨v, rfl, rfl, rfl⟩, Or.inr ⟨hC, hc, h⟩⟩, hk⟩
end
/-- Memory grows. -/
abbrev NoBlock : Nat → Prop := fun _ => False
theorem wpRg {P : Program} {id : Nat} {Q : Exit → Act → World → Prop} {a : Act} {w : World} {l : List Oper} (n : Nat)
  (h : wpH P l.toArray NoBlock w [] (fun a' hs C' => ∀ xs w', GrowBut NoBlock w w' → C' w' → (∀ p ∈ hs, p.2 (xs p.1) w') → wpList P l.toArray Q (l.drop n) (fill hs xs a') w') (l.take n) 0 a [] (fun _ => True))
  (hm : P.follows .mixedOrders = true := by kernel_rfl) (hB : growB l.toArray n [] a.tmps.size = true := by kernel_rfl) : (Code.region id l.toArray true).wp P Q a w :=
 wp_region_grow n [] NoBlock (fun _ => True) hm hB (by rfl) (fun _ _ _ _ => trivial) trivial h
end
end Go.Proofs.YtgckhdepnmiejaaGreat
