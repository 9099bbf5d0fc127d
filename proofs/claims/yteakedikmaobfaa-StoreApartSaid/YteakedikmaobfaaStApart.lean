/- Two stores that go on apart. -/
import Derived.Test.YteakedikmaobfaaOpenActs
import Derived.Test.YteakedikmaobfaaStRCopy
set_option linter.unusedVariables false
set_option linter.unusedSimpArgs false
namespace Go.Proofs.Yteakedikmaobfaa
open Go.RowKit

theorem wrote_length (zs : List Int) : ∀ (st : St) (k : Nat), (wrote st k zs).cells.length = st.cells.length := by
  induction zs with
  | nil => intro st k; rfl
  | cons b r ih =>
    intro st k
    rw [wrote]
    split
    · simp [St.tear]
    · rw [ih]; simp [St.put1]

theorem doSt_length (st : St) (x : ActP) : (doSt st x).cells.length = st.cells.length := by
  unfold doSt
  split
  · split
    · exact wrote_length _ _ _
    · rfl
  split
  · rfl
  split
  · rfl
  split
  · split
    · simp
    · rfl
  · rfl

theorem both_new {w w1 w2 : World} {P g n : Nat} {R : RAt} (hs : StoreV w1 P g (St.fresh n)) (hg : Grow w w1) (hP : w.heap.size ≤ P) (hg' : w.heap.size ≤ g) (hr : RefV w2 R (St.fresh n)) (hg2 : Grow w1 w2) (h1 : w1.heap.size ≤ R.p) (h2 : w1.heap.size ≤ R.b) (h3 : w1.heap.size ≤ R.u) : Both w w2 P g R (St.fresh n) (St.fresh n) := by
  have l1 := hs.ltP
  have l2 := hs.ltG
  have l3 := hg.size
  exact ⟨hs.stay (M := NoBlock) (GrowBut.of_below hg2) (fun h => h) (fun h => h), hr, Grow.trans hg hg2, hP, hg', by omega, by omega, by omega, ⟨by omega, by omega, by omega⟩, by omega, by omega, by omega⟩

/-- Two pairs that lie apart. -/
structure Quad (w0 w : World) (P g : Nat) (R : RAt) (P2 g2 : Nat) (R2 : RAt) (st s2 : St) : Prop where
  one : Both w0 w P g R st st
  two : Both w0 w P2 g2 R2 s2 s2
  apart : ∀ k, BOwn P2 g2 R2 k → ¬ BOwn P g R k

theorem Both.low {w0 w : World} {P g : Nat} {R : RAt} {st s2 : St} (h : Both w0 w P g R st s2) : ∀ k, BOwn P g R k → w0.heap.size ≤ k := fun k hk => by
  have h1 := h.hP; have h2 := h.hg; have h3 := h.hp; have h4 := h.hb; have h5 := h.hu
  simp only [BOwn, Own, ROwn] at hk; omega

theorem Both.stay {M : Nat → Prop} {w0 w w' : World} {P g : Nat} {R : RAt} {st s2 : St} (h : Both w0 w P g R st s2) (hw : GrowBut M w w') (hd : ∀ k, BOwn P g R k → ¬ M k) (hl : ∀ k, M k → w0.heap.size ≤ k) : Both w0 w' P g R st s2 :=
  ⟨h.s.stay hw (hd _ (Or.inl (Or.inl rfl))) (hd _ (Or.inl (Or.inr rfl))), h.r.stay hw (hd _ (Or.inr (Or.inl rfl))) (hd _ (Or.inr (Or.inr (Or.inl rfl)))) (hd _ (Or.inr (Or.inr (Or.inr rfl)))),
    below_but h.below hw hl, h.hP, h.hg, h.hp, h.hb, h.hu, h.ap⟩

section
variable {w0 w w' : World} {P g P2 g2 : Nat} {R R2 : RAt} {st s2 s' : St}
theorem Quad.turn1 (h : Quad w0 w P g R P2 g2 R2 st s2) (h1 : Both w0 w' P g R s' s') (hw : GrowBut (BOwn P g R) w w') : Quad w0 w' P g R P2 g2 R2 s' s2 :=
  ⟨h1, h.two.stay hw h.apart h.one.low, h.apart⟩
theorem Quad.grow (h : Quad w0 w P g R P2 g2 R2 st s2) (hw : Grow w w') : Quad w0 w' P g R P2 g2 R2 st s2 := ⟨h.one.grow hw, h.two.grow hw, h.apart⟩
theorem Quad.drewN (h : Quad w0 w P g R P2 g2 R2 st s2) (n : Nat) : Quad w0 (w.drewN n) P g R P2 g2 R2 st s2 := ⟨h.one.drewN n, h.two.drewN n, h.apart⟩
end

theorem quad_copy {w0 w w1 w2 : World} {P g P2 g2 : Nat} {R R2 : RAt} {st : St} (h : Both w0 w P g R st st) (hs : StoreV w1 P2 g2 st) (hg : Grow w w1) (hP : w.heap.size ≤ P2) (hg' : w.heap.size ≤ g2) (hr : RefV w2 R2 st) (hg2 : Grow w1 w2) (h1 : w1.heap.size ≤ R2.p) (h2 : w1.heap.size ≤ R2.b) (h3 : w1.heap.size ≤ R2.u) :
    Quad w0 w2 P g R P2 g2 R2 st st := by
  have l1 := hs.ltP
  have l2 := hs.ltG
  have l3 := hg.size
  have l4 := h.below.size
  obtain ⟨m1, m2, m3, m4, m5⟩ := h.lts
  refine ⟨h.grow (Grow.trans hg hg2), ⟨hs.stay (M := NoBlock) (GrowBut.of_below hg2) (fun h => h) (fun h => h), hr, (h.grow (Grow.trans hg hg2)).below, by omega, by omega, by omega, by omega, by omega, ⟨by omega, by omega, by omega⟩, by omega, by omega, by omega⟩, fun k hk hk2 => ?_⟩
  simp only [BOwn, Own, ROwn] at hk hk2
  omega

/-- Are so many bytes the same? -/
def preB (st s2 : St) (k : Nat) : Bool := decide (st.cells.take k = s2.cells.take k)

theorem preB_zero (st s2 : St) : preB st s2 0 = true := by simp [preB]
theorem preB_next {st s2 : St} {k : Nat} (h1 : k < st.cells.length) (h2 : k < s2.cells.length) : preB st s2 (k + 1) = (preB st s2 k && decide (st.cells.getD k (0, false) = s2.cells.getD k (0, false))) := by
  unfold preB
  rw [Bool.eq_iff_iff]
  simp only [Bool.and_eq_true, decide_eq_true_eq]
  rw [List.take_succ_eq_append_getElem h1, List.take_succ_eq_append_getElem h2]
  have e1 : st.cells.getD k (0, false) = st.cells[k] := by simp [h1]
  have e2 : s2.cells.getD k (0, false) = s2.cells[k] := by simp [h2]
  rw [e1, e2]
  constructor
  · intro h
    have hl : (st.cells.take k).length = (s2.cells.take k).length := by simp; omega
    obtain ⟨a, b⟩ := List.append_inj h hl
    exact ⟨a, by simpa using b⟩
  · rintro ⟨a, b⟩
    rw [a, b]
theorem preB_all {st s2 : St} {n : Nat} (h1 : st.cells.length = n) (h2 : s2.cells.length = n) : sameB s2.cells st.cells = preB st s2 n := by
  unfold preB sameB
  rw [List.take_of_length_le (by omega), List.take_of_length_le (by omega), Bool.eq_iff_iff]
  simp only [decide_eq_true_eq]
  exact eq_comm

/-- Bytes that stay whatever both do. -/
def HeldB (P g : Nat) (R : RAt) (w : World) (v : Value) (zs : List Int) : Prop := ∀ w', GrowBut (BOwn P g R) w w' → BytesV w' v zs
theorem HeldB.held {P g : Nat} {R : RAt} {w : World} {v : Value} {zs : List Int} (h : HeldB P g R w v zs) : Held P g w v zs := fun w' hw => h w' (growS hw)
theorem HeldB.heldR {P g : Nat} {R : RAt} {w : World} {v : Value} {zs : List Int} (h : HeldB P g R w v zs) : HeldR R w v zs := fun w' hw => h w' (growR hw)

/-- New noughts. -/
theorem heldB_made {P g : Nat} {R : RAt} {w : World} {n : Nat} (hn : n ≤ 4096) (hm : ¬ BOwn P g R w.heap.size) :
    HeldB P g R (w.alloc (.cells ((List.replicate n (0 : Int)).map (Value.int .u8)).toArray 5)) (.slice (some ⟨w.heap.size, 0, none⟩) n n) (List.replicate n 0) := by
  intro w' hw
  have hb : Bytes (List.replicate n (0 : Int)) := by intro z hz; simp at hz; rw [hz.2]; decide
  have hh := (hw.block w.heap.size (by simp) hm).trans (heap_alloc_new w _)
  refine ⟨hb, Or.inr ⟨w.heap.size, 0, n, by simp, by simp, by unfold maxLen; omega, fun i hi => ?_⟩⟩
  have hi' : i < n := by simpa using hi
  rw [Nat.zero_add]
  simp [World.cell?, hh, hi']
end Go.Proofs.Yteakedikmaobfaa
