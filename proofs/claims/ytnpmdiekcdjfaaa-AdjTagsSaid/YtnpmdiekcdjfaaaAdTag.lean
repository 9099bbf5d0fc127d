/- Sessions that are left: the plain law, and the map of them. -/
import Derived.Test.YtnpmdiekcdjfaaaAdMeet
import Derived.Maps.OwnSet
import Derived.Maps.Views
import Derived.DeepKeys5
set_option linter.unusedVariables false
set_option linter.unusedSimpArgs false
namespace Go.Proofs.Ytnpmdiekcdjfaaa
open Go.RowKit
open Go.Maps (Keyed)

/-- One tag stands behind another. -/
def Later (b t b' t' : Int) : Prop := b < b' ∨ b = b' ∧ t < t'

/-- What an act does to what is shown. -/
def Step (a a' : Ad) : Prop :=
  a.mt < a'.mt ∨ (a'.mt = a.mt ∧ (a'.view = a.view ∨ (a.state = 0 ∧ 0 < a'.state) ∨ (0 < a.state ∧ 0 < a'.state ∧ Later a.tb a.tt a'.tb a'.tt) ∨ (a.state = 1 ∧ 0 < a'.state ∧ a'.tb = a.tb ∧ a'.tt = a.tt)))

theorem fin_state {a : Ad} (h : Hl) (ev : Int) (hs : 0 < a.state) : 0 < (a.fin h ev).1.state := by
  rw [(fin_all a h ev).2.2.2]
  split <;> omega

theorem elder_not {x y : Ad} {b t b' t' : Int} (h : ¬ elderB b t b' t' = true) (hne : ¬ (b = b' ∧ t = t')) : Later b' t' b t := by
  unfold elderB at h
  simp at h
  unfold Later
  omega

theorem hear1_step {a : Ad} (x : Hl) (hs : 0 ≤ a.state ∧ a.state ≤ 2) : Step a (a.hear1 x).1 := by
  unfold Ad.hear1
  by_cases h1 : x.node = a.node
  · rw [if_pos h1]; exact Or.inr ⟨rfl, Or.inl rfl⟩
  rw [if_neg h1]
  by_cases h2 : a.state = 0
  · rw [if_pos h2]
    exact Or.inr ⟨(fin_mt (a.greet x) x 0).1, Or.inr (Or.inl ⟨h2, fin_state x 0 (by show (0 : Int) < 1; omega)⟩)⟩
  rw [if_neg h2]
  by_cases h3 : x.node ≠ a.other
  · rw [if_pos h3]
    refine Or.inl ?_
    rw [(fin_mt (a.anew.greet x) x a.lost).1]
    show a.mt < a.mt + 1
    omega
  rw [if_neg h3]
  by_cases h4 : elderB x.mb x.mt a.tb a.tt = true
  · rw [if_pos h4]; exact Or.inr ⟨rfl, Or.inl rfl⟩
  rw [if_neg h4]
  by_cases h5 : x.mb = a.tb ∧ x.mt = a.tt
  · rw [if_neg (fun hh => hh h5)]
    refine Or.inr ⟨(fin_mt a.still x 0).1, ?_⟩
    have e := fin_all a.still x 0
    by_cases h6 : (x.hb = a.still.mb ∧ x.ht = a.still.mt) ∧ a.still.state = 1
    · refine Or.inr (Or.inr (Or.inr ⟨h6.2, ?_, e.1, e.2.1⟩))
      exact fin_state x 0 (by show 0 < a.state; omega)
    · refine Or.inl ?_
      unfold Ad.fin
      rw [if_neg h6]
      rfl
  · rw [if_pos h5]
    obtain ⟨e1, e2, _⟩ := fin_all (a.again x) x a.lost
    refine Or.inr ⟨(fin_mt (a.again x) x a.lost).1, Or.inr (Or.inr (Or.inl ⟨by omega, fin_state x a.lost (by show (0 : Int) < 1; omega), ?_⟩))⟩
    rw [e1, e2]
    exact elder_not (x := a) (y := a) h4 h5

theorem act_step {a : Ad} (x : ActA) (hs : 0 ≤ a.state ∧ a.state ≤ 2) : Step a (a.act x) := by
  unfold Ad.act
  split
  · unfold Ad.hear
    split
    · exact Or.inr ⟨rfl, Or.inl rfl⟩
    · exact hear1_step x.h hs
  split
  · rw [Ad.tick_rest]
    unfold Ad.rest
    split
    · exact Or.inr ⟨rfl, Or.inl rfl⟩
    split
    · exact Or.inl (by show a.mt < a.mt + 1; omega)
    · exact Or.inr ⟨rfl, Or.inl rfl⟩
  split
  · exact Or.inl (by show a.mt < a.mt + 1; omega)
  · exact Or.inr ⟨rfl, Or.inl rfl⟩

/-- Of the same neighbour no elder tag is taken up. -/
theorem hear1_tag {a : Ad} (x : Hl) (hs : 0 < a.state) (ho : (a.hear1 x).1.other = a.other) : ¬ Later (a.hear1 x).1.tb (a.hear1 x).1.tt a.tb a.tt := by
  have hself : ¬ Later a.tb a.tt a.tb a.tt := by unfold Later; omega
  revert ho
  unfold Ad.hear1
  by_cases h1 : x.node = a.node
  · rw [if_pos h1]; exact fun _ => hself
  rw [if_neg h1, if_neg (by omega)]
  by_cases h3 : x.node ≠ a.other
  · rw [if_pos h3]
    intro ho
    rw [(fin_all (a.anew.greet x) x a.lost).2.2.1] at ho
    exact absurd ho h3
  rw [if_neg h3]
  by_cases h4 : elderB x.mb x.mt a.tb a.tt = true
  · rw [if_pos h4]; exact fun _ => hself
  rw [if_neg h4]
  by_cases h5 : x.mb = a.tb ∧ x.mt = a.tt
  · rw [if_neg (fun hh => hh h5)]
    intro _
    rw [(fin_all a.still x 0).1, (fin_all a.still x 0).2.1]
    exact hself
  · rw [if_pos h5]
    intro _
    rw [(fin_all (a.again x) x a.lost).1, (fin_all (a.again x) x a.lost).2.1]
    have := elder_not (x := a) (y := a) h4 h5
    unfold Later at this ⊢
    show ¬ (x.mb < a.tb ∨ x.mb = a.tb ∧ x.mt < a.tt)
    omega

theorem act_tag {a : Ad} (x : ActA) (hk : x.kind = 1) (hs : 0 < a.state) (ho : (a.act x).other = a.other) : ¬ Later (a.act x).tb (a.act x).tt a.tb a.tt := by
  unfold Ad.act at ho ⊢
  rw [if_pos hk] at ho ⊢
  unfold Ad.hear at ho ⊢
  split at ho
  · rename_i hb
    rw [if_pos hb]
    show ¬ Later a.tb a.tt a.tb a.tt
    unfold Later; omega
  · rename_i hb
    rw [if_neg hb]
    exact hear1_tag x.h hs ho

/-- A view that lies behind. -/
def Past (a : Ad) (u : Value) : Prop := ∃ s : Ad, u = s.view ∧ (s.mt < a.mt ∨ s.mt = a.mt ∧ 0 < a.state ∧ Later s.tb s.tt a.tb a.tt)

theorem view_eq {a b : Ad} (h : a.view = b.view) : a.state = b.state ∧ a.mb = b.mb ∧ a.mt = b.mt ∧ a.tb = b.tb ∧ a.tt = b.tt ∧ a.other = b.other := by
  unfold Ad.view at h
  injection h with h
  simpa using h

theorem Past.step {a a' : Ad} {u : Value} (h : Past a u) (hs : Step a a') : Past a' u := by
  obtain ⟨s, rfl, h⟩ := h
  refine ⟨s, rfl, ?_⟩
  unfold Later at h ⊢
  rcases hs with hs | ⟨h0, hs⟩
  · left; omega
  rcases h with h | ⟨h, h1, h2⟩
  · left; omega
  right
  rcases hs with hs | hs | hs | hs
  · obtain ⟨e1, _, e2, e3, e4, _⟩ := view_eq hs
    omega
  · omega
  · unfold Later at hs; omega
  · omega

theorem Past.left {a a' : Ad} (h2 : a.state = 2) (hs : Step a a') (hne : a'.view ≠ a.view) : Past a' a.view := by
  refine ⟨a, rfl, ?_⟩
  rcases hs with hs | ⟨h0, hs⟩
  · exact Or.inl hs
  right
  rcases hs with hs | hs | hs | hs
  · exact absurd hs hne
  · omega
  · exact ⟨h0.symm, hs.2.1, hs.2.2⟩
  · omega

theorem Past.not_own {a : Ad} : ¬ Past a a.view := by
  rintro ⟨s, e, h⟩
  obtain ⟨_, _, e2, e3, e4, _⟩ := view_eq e
  unfold Later at h
  omega

/-! ### The map -/

theorem laidOutT : laidOutB Try.prog = true := by kernel_rfl
theorem viewRow : (40 : TypeId) < Try.prog.types.size := of_decide_eq_true (by kernel_rfl)
theorem viewWide : (match Try.prog.underlying 40 with | some (.array _ _) | some (.struct _) => true | _ => false) = true := by kernel_rfl
theorem viewLaw : WideMaps.KeyLaw Try.prog 40 := deep_law_laid laidOutT (m := 4) (by omega) viewRow (by kernel_rfl) viewWide
theorem viewKeyed : Keyed Try.prog 40 := Keyed.of_law viewLaw

theorem size_lit : ∃ n, Try.prog.types.size + 1 = n + 3 := ⟨Try.prog.types.size - 2, by have : 2 ≤ Try.prog.types.size := of_decide_eq_true (by kernel_rfl); omega⟩

theorem wf_u64' {n : Int} (h : U64 n) : (Lit.int .u64 n).wf = true := by
  unfold U64 at h
  simp [Lit.wf, IntKind.min, IntKind.max, IntKind.signed, IntKind.bits]
  omega
theorem wf_small {n : Int} (h : 0 ≤ n ∧ n ≤ 16) : (Lit.int .i64 n).wf = true := by
  simp [Lit.wf, IntKind.min, IntKind.max, IntKind.signed, IntKind.bits]
  omega

theorem lits_u64 (n : Nat) {x : Int} (h : (Lit.int .u64 x).wf = true) : Try.prog.keyLits (n + 1) 23 [.int .u64 x] = some [.int .u64 x] := by
  unfold Program.keyLits
  rw [Try.underlying23]
  simp [h]
theorem lits_int (n : Nat) {x : Int} (h : (Lit.int .i64 x).wf = true) : Try.prog.keyLits (n + 1) 3 [.int .i64 x] = some [.int .i64 x] := by
  unfold Program.keyLits
  rw [Try.underlying3]
  simp [h]
theorem lits_state (n : Nat) {x : Int} (h : (Lit.int .i64 x).wf = true) : Try.prog.keyLits (n + 1) 38 [.int .i64 x] = some [.int .i64 x] := by
  unfold Program.keyLits
  rw [Try.underlying38]
  simp [h]
theorem lits_tag (n : Nat) {x y : Int} (h : (Lit.int .u64 x).wf = true) (h' : (Lit.int .u64 y).wf = true) : Try.prog.keyLits (n + 2) 25 [.int .u64 x, .int .u64 y] = some [.int .u64 x, .int .u64 y] := by
  have k25 : Try.prog.cellsOf 25 = 2 := by kernel_rfl
  have k23 : Try.prog.cellsOf 23 = 1 := by kernel_rfl
  unfold Program.keyLits
  rw [Try.underlying25]
  simp [k25, k23, lits_u64 n h, lits_u64 n h']
theorem lits_view (n : Nat) {s b t b' t' o : Int} (h1 : (Lit.int .i64 s).wf = true) (h2 : (Lit.int .u64 b).wf = true) (h3 : (Lit.int .u64 t).wf = true) (h4 : (Lit.int .u64 b').wf = true) (h5 : (Lit.int .u64 t').wf = true) (h6 : (Lit.int .i64 o).wf = true) :
    Try.prog.keyLits (n + 3) 40 [.int .i64 s, .int .u64 b, .int .u64 t, .int .u64 b', .int .u64 t', .int .i64 o] = some [.int .i64 s, .int .u64 b, .int .u64 t, .int .u64 b', .int .u64 t', .int .i64 o] := by
  have k40 : Try.prog.cellsOf 40 = 6 := by kernel_rfl
  have k38 : Try.prog.cellsOf 38 = 1 := by kernel_rfl
  have k25 : Try.prog.cellsOf 25 = 2 := by kernel_rfl
  have k3 : Try.prog.cellsOf 3 = 1 := by kernel_rfl
  unfold Program.keyLits
  rw [Try.underlying40]
  simp [k40, k38, k25, k3, lits_state (n + 1) h1, lits_tag n h2 h3, lits_tag n h4 h5, lits_int (n + 1) h6]

theorem view_formed (a : Ad) : Value.formed Try.prog 40 a.view = true := by
  have k40 : Try.prog.cellsOf 40 = 6 := by kernel_rfl
  simp [Value.formed, Try.underlying40, k40, Ad.view]

theorem view_key {a : Ad} (h : AdOk a) : ∃ kl, keyOf Try.prog 40 a.view = some kl := by
  have kt : Try.prog.keyType 40 = true := by kernel_rfl
  have w1 := wf_u64' h.mb
  have w2 := wf_u64' h.mt
  have w3 := wf_u64' h.tb
  have w4 := wf_u64' h.tt
  have w5 := wf_small (n := a.state) (by have := h.state; omega)
  have w6 := wf_small h.other
  obtain ⟨n, hn⟩ := size_lit
  unfold keyOf
  rw [Try.underlying40]
  dsimp only
  rw [kt, view_formed, hn]
  have e : a.view.cells.toList = [.int .i64 a.state, .int .u64 a.mb, .int .u64 a.mt, .int .u64 a.tb, .int .u64 a.tt, .int .i64 a.other] := rfl
  rw [e, lits_view n w5 w1 w2 w3 w4 w6]
  exact ⟨_, rfl⟩

/-- How an element reads. -/
def isElem : Value → Option (DataW Unit × List MemPlace)
  | .agg cs => match cs.toList with
    | [.bool x] => some (.lit (.bool x), [])
    | _ => none
  | _ => none

/-- The map in block b: what stands in it is bad. -/
def Seen (w : World) (b n : Nat) (bad : Value → Prop) : Prop :=
  ∃ D, w.ownsMap Try.prog 40 isElem b n D ∧ ∀ u kl, keyOf Try.prog 40 u = some kl → Maps.has D kl = true → bad u

theorem Seen.lt {w : World} {b n : Nat} {bad : Value → Prop} (h : Seen w b n bad) : b < w.heap.size := by
  obtain ⟨D, h, _⟩ := h; exact h.lt
theorem Seen.stay {w w' : World} {b n : Nat} {bad : Value → Prop} {M : Nat → Prop} (h : Seen w b n bad) (hg : GrowBut M w w') (hm : ¬ M b) : Seen w' b n bad := by
  have hlt := h.lt
  obtain ⟨D, ⟨es, clock, hb, h1⟩, h2⟩ := h
  exact ⟨D, ⟨es, clock, (hg.block b hlt hm).trans hb, h1⟩, h2⟩
theorem Seen.mono {w : World} {b n : Nat} {bad bad' : Value → Prop} (h : Seen w b n bad) (hb : ∀ u, bad u → bad' u) : Seen w b n bad' := by
  obtain ⟨D, h1, h2⟩ := h
  exact ⟨D, h1, fun u kl h h' => hb u (h2 u kl h h')⟩
theorem Seen.made (w : World) (bad : Value → Prop) : Seen (w.alloc (.map #[] 0)) w.heap.size 0 bad :=
  ⟨.map [], World.ownsMap_made w _ _ _, fun u kl _ h => by cases h⟩

theorem seen_zero (w : World) : (zeroValue 53).run Try.prog w = .ok (.agg #[.bool false]) w := by kernel_rfl

theorem isElem_inv {v : Value} {x : Bool} {ps : List MemPlace} (h : isElem v = some (.lit (.bool x), ps)) : v = .agg #[.bool x] := by
  unfold isElem at h
  split at h
  · rename_i cs
    split at h
    · rename_i y e
      simp at h
      rw [← h.1]
      congr 1
      exact Array.ext' e
    · cases h
  · cases h

theorem Seen.look {w : World} {b n : Nat} {bad : Value → Prop} (h : Seen w b n bad) {u : Value} {kl : Lit} (hk : keyOf Try.prog 40 u = some kl) (hb : ¬ bad u) :
    (Instr.lookup 46 (.map (some b)) u false).run Try.prog w = .ok (.agg #[.bool false]) w := by
  obtain ⟨D, h1, h2⟩ := h
  obtain ⟨v, ps, hr, hv⟩ := h1.lookup viewKeyed Try.underlying46 (seen_zero w) (zd := .lit (.bool false)) (zp := []) rfl hk
  have hh : Maps.has D kl = false := by
    cases e : Maps.has D kl with
    | false => rfl
    | true => exact absurd (h2 u kl hk e) hb
  rw [Maps.atKey_of_not_has hh] at hv
  rw [hr, isElem_inv hv]

theorem Seen.put {w : World} {b n : Nat} {bad : Value → Prop} (h : Seen w b n bad) (hn : n < maxLen) {u : Value} {kl : Lit} (hk : keyOf Try.prog 40 u = some kl) (hb : bad u) :
    ∃ w', (Instr.mapUpdate 46 (.map (some b)) u (.agg #[.bool true])).run Try.prog w = .ok () w' ∧ Seen w' b (n + 1) bad ∧ GrowBut (fun k => k = b) w w' := by
  obtain ⟨D, h1, h2⟩ := h
  obtain ⟨w', hr, h3, h4⟩ := h1.update viewKeyed Try.underlying46 hn hk (val := .agg #[.bool true]) (d := .lit (.bool true)) (ps := []) rfl
  refine ⟨w', hr, ⟨_, h3, fun u' kl' hk' hh => ?_⟩, ⟨h4.os, h4.tape, h4.output, h4.size, fun k hlt hne => h4.block k hlt (fun e => hne (by injection e))⟩⟩
  by_cases e : kl' = kl
  · subst e
    rw [viewKeyed.inj hk' hk]; exact hb
  · rw [Maps.has_put_other e] at hh
    exact h2 u' kl' hk' hh
end Go.Proofs.Ytnpmdiekcdjfaaa
