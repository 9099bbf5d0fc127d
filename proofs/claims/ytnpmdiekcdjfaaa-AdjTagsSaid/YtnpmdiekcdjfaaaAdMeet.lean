/- Two that hear each other: the plain law. -/
import Derived.Test.YtnpmdiekcdjfaaaOpenActsA
set_option linter.unusedVariables false
set_option linter.unusedSimpArgs false
namespace Go.Proofs.Ytnpmdiekcdjfaaa
open Go.RowKit

theorem fin_all (a : Ad) (h : Hl) (ev : Int) : (a.fin h ev).1.tb = a.tb ∧ (a.fin h ev).1.tt = a.tt ∧ (a.fin h ev).1.other = a.other ∧ (a.fin h ev).1.state = (if (h.hb = a.mb ∧ h.ht = a.mt) ∧ a.state = 1 then 2 else a.state) := by
  unfold Ad.fin
  by_cases hh : (h.hb = a.mb ∧ h.ht = a.mt) ∧ a.state = 1
  · rw [if_pos hh, if_pos hh]; exact ⟨rfl, rfl, rfl, rfl⟩
  · rw [if_neg hh, if_neg hh]; exact ⟨rfl, rfl, rfl, rfl⟩

/-- A hello of another node than the session's. -/
theorem hear_strange {b : Ad} {x : Hl} (hn : x.node ≠ b.node) (ho : b.state = 0 ∨ x.node ≠ b.other) :
    ∃ c : Ad, (b.hear1 x).1 = c ∧ c.node = b.node ∧ c.mb = b.mb ∧ c.mt = (if b.state = 0 then b.mt else b.mt + 1) ∧ c.tb = x.mb ∧ c.tt = x.mt ∧ c.other = x.node ∧ c.state = if x.hb = c.mb ∧ x.ht = c.mt then 2 else 1 := by
  refine ⟨_, rfl, ?_⟩
  unfold Ad.hear1
  rw [if_neg hn]
  by_cases h0 : b.state = 0
  · rw [if_pos h0, if_pos h0]
    obtain ⟨f1, f2, f3, f4⟩ := fin_all (b.greet x) x 0
    obtain ⟨g1, g2, _, _, _, _, g7⟩ := fin_mt (b.greet x) x 0
    rw [f1, f2, f3, f4, g1, g2, g7]
    refine ⟨rfl, rfl, rfl, rfl, rfl, rfl, ?_⟩
    have hs : (b.greet x).state = 1 := rfl
    simp only [hs, and_true]
  · rw [if_neg h0, if_neg h0, if_pos (ho.resolve_left h0)]
    obtain ⟨f1, f2, f3, f4⟩ := fin_all (b.anew.greet x) x b.lost
    obtain ⟨g1, g2, _, _, _, _, g7⟩ := fin_mt (b.anew.greet x) x b.lost
    rw [f1, f2, f3, f4, g1, g2, g7]
    refine ⟨rfl, rfl, rfl, rfl, rfl, rfl, ?_⟩
    have hs : (b.anew.greet x).state = 1 := rfl
    simp only [hs, and_true]

/-- A hello of the session's node, no elder one. -/
theorem hear_known {b : Ad} {x : Hl} (hn : x.node ≠ b.node) (hs : b.state = 1 ∨ b.state = 2) (ho : x.node = b.other) (he : x.mb = b.tb ∧ b.tt ≤ x.mt) :
    ∃ c : Ad, (b.hear1 x).1 = c ∧ c.node = b.node ∧ c.mb = b.mb ∧ c.mt = b.mt ∧ c.tb = x.mb ∧ c.tt = x.mt ∧ c.other = b.other ∧ (x.hb = b.mb ∧ x.ht = b.mt → c.state = 2) := by
  refine ⟨_, rfl, ?_⟩
  unfold Ad.hear1
  rw [if_neg hn, if_neg (by omega), if_neg (by omega)]
  have hel : elderB x.mb x.mt b.tb b.tt = false := by unfold elderB; exact decide_eq_false (by omega)
  rw [hel, if_neg (by decide)]
  by_cases h5 : x.mb = b.tb ∧ x.mt = b.tt
  · rw [if_neg (fun hh => hh h5)]
    obtain ⟨f1, f2, f3, f4⟩ := fin_all b.still x 0
    obtain ⟨g1, g2, _, _, _, _, g7⟩ := fin_mt b.still x 0
    rw [f1, f2, f3, f4, g1, g2, g7]
    refine ⟨rfl, rfl, rfl, h5.1.symm, h5.2.symm, rfl, fun hh => ?_⟩
    have e1 : b.still.mb = b.mb := rfl
    have e2 : b.still.mt = b.mt := rfl
    have e3 : b.still.state = b.state := rfl
    rw [e1, e2, e3]
    rcases hs with hs | hs
    · rw [if_pos ⟨hh, hs⟩]
    · rw [if_neg (fun q => by have := q.2; omega)]; exact hs
  · rw [if_pos h5]
    obtain ⟨f1, f2, f3, f4⟩ := fin_all (b.again x) x b.lost
    obtain ⟨g1, g2, _, _, _, _, g7⟩ := fin_mt (b.again x) x b.lost
    rw [f1, f2, f3, f4, g1, g2, g7]
    refine ⟨rfl, rfl, rfl, rfl, rfl, rfl, fun hh => ?_⟩
    have e1 : (b.again x).mb = b.mb := rfl
    have e2 : (b.again x).mt = b.mt := rfl
    have e3 : (b.again x).state = 1 := rfl
    rw [e1, e2, e3, if_pos ⟨hh, rfl⟩]

/-- Behind three hellos both are up. -/
theorem meets {a b : Ad} (ha : a.node = 1) (hb : b.node = 2) (hoa : a.other ≠ 2) (hob : b.other ≠ 1) :
    ∃ b1 a1 b2 a2 b3 : Ad, (b.hear1 a.say).1 = b1 ∧ (a.hear1 b1.say).1 = a1 ∧ (b1.hear1 a1.say).1 = b2 ∧ (a1.hear1 b2.say).1 = a2 ∧ (b2.hear1 a2.say).1 = b3 ∧
      (b1.mb = b.mb ∧ b.mt ≤ b1.mt ∧ b1.mt ≤ b.mt + 1) ∧ (a1.mb = a.mb ∧ a.mt ≤ a1.mt ∧ a1.mt ≤ a.mt + 1) ∧ (b2.mb = b.mb ∧ b2.mt = b1.mt) ∧ (a2.mb = a.mb ∧ a2.mt = a1.mt) ∧
      acceptsB a2 2 a2.mb a2.mt b3.mb b3.mt = true ∧ acceptsB b3 1 b3.mb b3.mt a2.mb a2.mt = true := by
  obtain ⟨b1, e1, k1, k2, k3, k4, k5, k6, k7⟩ := hear_strange (b := b) (x := a.say) (by show a.node ≠ b.node; omega) (Or.inr (by show a.node ≠ b.other; omega))
  obtain ⟨a1, e2, l1, l2, l3, l4, l5, l6, l7⟩ := hear_strange (b := a) (x := b1.say) (by show b1.node ≠ a.node; omega) (Or.inr (by show b1.node ≠ a.other; omega))
  have k4' : b1.tb = a.mb := k4
  have k5' : b1.tt = a.mt := k5
  have k6' : b1.other = a.node := k6
  have l4' : a1.tb = b1.mb := l4
  have l5' : a1.tt = b1.mt := l5
  have l6' : a1.other = b1.node := l6
  have sb : b1.state = 1 ∨ b1.state = 2 := by rw [k7]; split <;> omega
  have sa : a1.state = 1 ∨ a1.state = 2 := by rw [l7]; split <;> omega
  have m1 : b.mt ≤ b1.mt ∧ b1.mt ≤ b.mt + 1 := by rw [k3]; split <;> omega
  have m2 : a.mt ≤ a1.mt ∧ a1.mt ≤ a.mt + 1 := by rw [l3]; split <;> omega
  obtain ⟨b2, e3, n1, n2, n3, n4, n5, n6, n7⟩ := hear_known (b := b1) (x := a1.say) (by show a1.node ≠ b1.node; omega) sb (by show a1.node = b1.other; omega) ⟨by show a1.mb = b1.tb; omega, by show b1.tt ≤ a1.mt; omega⟩
  have n4' : b2.tb = a1.mb := n4
  have n5' : b2.tt = a1.mt := n5
  have n7' : b2.state = 2 := n7 ⟨by show a1.tb = b1.mb; omega, by show a1.tt = b1.mt; omega⟩
  obtain ⟨a2, e4, p1, p2, p3, p4, p5, p6, p7⟩ := hear_known (b := a1) (x := b2.say) (by show b2.node ≠ a1.node; omega) sa (by show b2.node = a1.other; omega) ⟨by show b2.mb = a1.tb; omega, by show a1.tt ≤ b2.mt; omega⟩
  have p4' : a2.tb = b2.mb := p4
  have p5' : a2.tt = b2.mt := p5
  have p7' : a2.state = 2 := p7 ⟨by show b2.tb = a1.mb; omega, by show b2.tt = a1.mt; omega⟩
  obtain ⟨b3, e5, q1, q2, q3, q4, q5, q6, q7⟩ := hear_known (b := b2) (x := a2.say) (by show a2.node ≠ b2.node; omega) (Or.inr n7') (by show a2.node = b2.other; omega) ⟨by show a2.mb = b2.tb; omega, by show b2.tt ≤ a2.mt; omega⟩
  have q4' : b3.tb = a2.mb := q4
  have q5' : b3.tt = a2.mt := q5
  have q7' : b3.state = 2 := q7 ⟨by show a2.tb = b2.mb; omega, by show a2.tt = b2.mt; omega⟩
  refine ⟨b1, a1, b2, a2, b3, e1, e2, e3, e4, e5, ⟨k2, m1⟩, ⟨l2, m2⟩, ⟨by omega, n3⟩, ⟨by omega, p3⟩, ?_, ?_⟩
  · exact decide_eq_true ⟨p7', rfl, rfl, by omega, by omega, by omega⟩
  · exact decide_eq_true ⟨q7', rfl, rfl, by omega, by omega, by omega⟩

/-- What is heard of others leaves a node unknown. -/
theorem hear_other_node {a : Ad} {x : Hl} {q : Int} (h : a.other ≠ q) (hx : x.node ≠ q) : (a.hear1 x).1.other ≠ q := by
  unfold Ad.hear1
  split
  · exact h
  split
  · rw [(fin_all (a.greet x) x 0).2.2.1]; exact hx
  split
  · rw [(fin_all (a.anew.greet x) x a.lost).2.2.1]; exact hx
  split
  · exact h
  split
  · rw [(fin_all (a.again x) x a.lost).2.2.1]; exact h
  · rw [(fin_all a.still x 0).2.2.1]; exact h

theorem act_other_node {a : Ad} {x : ActA} {q : Int} (h : a.other ≠ q) (h0 : q ≠ 0) (hx : ¬ (x.kind = 1 ∧ x.h.node = q)) : (a.act x).other ≠ q := by
  unfold Ad.act
  split
  · rename_i hk
    unfold Ad.hear
    split
    · exact h
    · exact hear_other_node h (fun e => hx ⟨hk, e⟩)
  split
  · rw [Ad.tick_rest]
    unfold Ad.rest
    split
    · exact h
    split
    · exact Ne.symm h0
    · exact h
  split
  · exact Ne.symm h0
  · exact h

def viewCells (a : Ad) : Array Value := #[.int .i64 a.state, .int .u64 a.mb, .int .u64 a.mt, .int .u64 a.tb, .int .u64 a.tt, .int .i64 a.other]
/-- A view in a block stays. -/
theorem view_block {w1 w2 : World} {B : Nat} {a : Ad} (h1 : w1.heap[B]? = some (.cells (viewCells a) 40 (0, 0))) (hg : Grow w1 w2) :
    w2.cell? ⟨B, 0, none⟩ = some (.int .i64 a.state) ∧ w2.cell? ⟨B, 1, none⟩ = some (.int .u64 a.mb) ∧ w2.cell? ⟨B, 2, none⟩ = some (.int .u64 a.mt) ∧ w2.cell? ⟨B, 3, none⟩ = some (.int .u64 a.tb) ∧ w2.cell? ⟨B, 4, none⟩ = some (.int .u64 a.tt) ∧ w2.cell? ⟨B, 5, none⟩ = some (.int .i64 a.other) := by
  have e := (hg.block B (lt_of_block h1)).trans h1
  refine ⟨?_, ?_, ?_, ?_, ?_, ?_⟩ <;> simp [World.cell?, e, viewCells]
end Go.Proofs.Ytnpmdiekcdjfaaa
