/- Acts and tags that come in; what acts do, in plain words. -/
import Derived.Test.YtnpmdiekcdjfaaaAdKnown
import Derived.Test.YtnpmdiekcdjfaaaSumOpen
import Derived.Deep.Slices
set_option linter.unusedVariables false
set_option linter.unusedSimpArgs false
namespace Go.Proofs.Ytnpmdiekcdjfaaa
open Go.ChangeShapes Go.WideShapes Go.ChangeAt Go.RowKit Go.Deep

section
variable {H : Type} {enc : TypeId × Value → H} {w : World}

theorem u64_of {n : Int} (h : (Lit.int .u64 n).wf = true) : U64 n := wf_u64 h

theorem tag_of_trod {n : Nat} {cs : List Value} {x : DataW H × List MemPlace} (h : DataW.trod enc Try.prog w 0 (fun _ => true) true n 25 cs = some x) : ∃ b t : Int, cs = [.int .u64 b, .int .u64 t] ∧ U64 b ∧ U64 t := by
  obtain ⟨xs, m, _, _, hl, hx, hf⟩ := DataW.trod_struct Try.underlying25 h
  have hl2 : cs.length = 2 := hl.trans (by kernel_rfl)
  match cs, hl2 with
  | [c0, c1], _ =>
    match xs, hx with
    | [y0, y1], _ =>
      have k23 : Try.prog.cellsOf 23 = 1 := by kernel_rfl
      have f0 : DataW.trod enc Try.prog w 0 (fun _ => true) true m 23 [c0] = some y0 := by have h := hf 0 _ rfl; simpa [k23] using h
      have f1 : DataW.trod enc Try.prog w 0 (fun _ => true) true m 23 [c1] = some y1 := by have h := hf 1 _ rfl; simpa [k23] using h
      obtain ⟨a0, e0, _, w0⟩ := DataW.trod_int Try.underlying23 f0
      obtain ⟨a1, e1, _, w1⟩ := DataW.trod_int Try.underlying23 f1
      simp at e0 e1
      subst e0 e1
      exact ⟨a0, a1, rfl, u64_of w0, u64_of w1⟩

theorem hello_of_trod {n : Nat} {cs : List Value} {x : DataW H × List MemPlace} (h : DataW.trod enc Try.prog w 0 (fun _ => true) true n 35 cs = some x) :
    ∃ a : Hl, cs = [.int .i64 a.node, .int .u64 a.mb, .int .u64 a.mt, .int .u64 a.hb, .int .u64 a.ht] ∧ HlOk a := by
  obtain ⟨xs, m, _, _, hl, hx, hf⟩ := DataW.trod_struct Try.underlying35 h
  have hl5 : cs.length = 5 := hl.trans (by kernel_rfl)
  match cs, hl5 with
  | [c0, c1, c2, c3, c4], _ =>
    match xs, hx with
    | [y0, y1, y2], _ =>
      have k3 : Try.prog.cellsOf 3 = 1 := by kernel_rfl
      have k25 : Try.prog.cellsOf 25 = 2 := by kernel_rfl
      have f0 : DataW.trod enc Try.prog w 0 (fun _ => true) true m 3 [c0] = some y0 := by have h := hf 0 _ rfl; simpa [k3] using h
      have f1 : DataW.trod enc Try.prog w 0 (fun _ => true) true m 25 [c1, c2] = some y1 := by have h := hf 1 _ rfl; simpa [k25] using h
      have f2 : DataW.trod enc Try.prog w 0 (fun _ => true) true m 25 [c3, c4] = some y2 := by have h := hf 2 _ rfl; simpa [k25] using h
      obtain ⟨a0, e0, _, w0⟩ := DataW.trod_int Try.underlying3 f0
      obtain ⟨b1, t1, e1, u1, u2⟩ := tag_of_trod f1
      obtain ⟨b2, t2, e2, u3, u4⟩ := tag_of_trod f2
      simp at e0 e1 e2
      obtain ⟨e11, e12⟩ := e1
      obtain ⟨e21, e22⟩ := e2
      subst e0 e11 e12 e21 e22
      exact ⟨⟨a0, b1, t1, b2, t2⟩, rfl, wf_i64 w0, u1, u2, u3, u4⟩

theorem acta_of_trod {n : Nat} {cs : List Value} {x : DataW H × List MemPlace} (h : DataW.trod enc Try.prog w 0 (fun _ => true) true n 37 cs = some x) :
    ∃ a : ActA, cs = a.cells.toList ∧ ActAOk a := by
  obtain ⟨xs, m, _, _, hl, hx, hf⟩ := DataW.trod_struct Try.underlying37 h
  have hl6 : cs.length = 6 := hl.trans (by kernel_rfl)
  match cs, hl6 with
  | [c0, c1, c2, c3, c4, c5], _ =>
    match xs, hx with
    | [y0, y1], _ =>
      have k3 : Try.prog.cellsOf 3 = 1 := by kernel_rfl
      have k35 : Try.prog.cellsOf 35 = 5 := by kernel_rfl
      have f0 : DataW.trod enc Try.prog w 0 (fun _ => true) true m 3 [c0] = some y0 := by have h := hf 0 _ rfl; simpa [k3] using h
      have f1 : DataW.trod enc Try.prog w 0 (fun _ => true) true m 35 [c1, c2, c3, c4, c5] = some y1 := by have h := hf 1 _ rfl; simpa [k35] using h
      obtain ⟨a0, e0, _, w0⟩ := DataW.trod_int Try.underlying3 f0
      obtain ⟨hel, e1, hok⟩ := hello_of_trod f1
      simp at e0 e1
      obtain ⟨e11, e12, e13, e14, e15⟩ := e1
      subst e0 e11 e12 e13 e14 e15
      exact ⟨⟨a0, hel⟩, rfl, wf_i64 w0, hok⟩

theorem open_tag {base : Nat} {v : Value} {d : DataW H} {p : List MemPlace} (hv : Value.okWide Try.prog w .any base 25 v) (h : DataW.Trod enc Try.prog w 0 (fun _ => true) true 25 v d p) :
    ∃ b t : Int, v = .agg #[.int .u64 b, .int .u64 t] ∧ U64 b ∧ U64 t := by
  obtain ⟨cs, rfl, hsz⟩ := okWide_struct Try.underlying25 hv
  obtain ⟨fuel, hf⟩ := h
  obtain ⟨b, t, e, u1, u2⟩ := tag_of_trod hf
  refine ⟨b, t, ?_, u1, u2⟩
  congr 1
  apply Array.ext'
  simpa [Value.cells] using e

def ActA.zero : ActA := ⟨0, ⟨0, 0, 0, 0, 0⟩⟩

/-- 'v' is a slice of acts. -/
def ActsV (w : World) (v : Value) (l : List ActA) : Prop :=
  (∀ x ∈ l, ActAOk x) ∧ ((l = [] ∧ ∃ ao cap, v = .slice ao 0 cap ∧ cap ≤ maxLen) ∨
    ∃ b off cap, v = .slice (some ⟨b, off, none⟩) l.length cap ∧ l.length ≤ cap ∧ cap ≤ maxLen ∧ ∀ i, i < l.length → ∀ j u, (l.getD i .zero).cells[j]? = some u → w.cell? ⟨b, off + i * 6 + j, none⟩ = some u)

theorem ActsV.shape {v : Value} {l : List ActA} (h : ActsV w v l) : ∃ ao cap, v = .slice ao l.length cap ∧ l.length ≤ cap ∧ cap ≤ maxLen := by
  rcases h.2 with ⟨rfl, ao, cap, rfl, h9⟩ | ⟨b, off, cap, rfl, h1, h2, _⟩
  · exact ⟨ao, cap, rfl, Nat.zero_le _, h9⟩
  · exact ⟨_, cap, rfl, h1, h2⟩

theorem ActsV.okAt {v : Value} {l : List ActA} (h : ActsV w v l) {i : Nat} (hi : i < l.length) : ActAOk (l.getD i .zero) := by
  have e : l.getD i .zero = l[i] := by simp [hi]
  rw [e]; exact h.1 _ (List.getElem_mem hi)

theorem ActsV.solid {v : Value} {l : List ActA} (h : ActsV w v l) (hz : l ≠ []) : ∃ b off cap, v = .slice (some ⟨b, off, none⟩) l.length cap ∧ l.length ≤ cap ∧ cap ≤ maxLen ∧
    ∀ i, i < l.length → ∀ j u, (l.getD i .zero).cells[j]? = some u → w.cell? ⟨b, off + i * 6 + j, none⟩ = some u := by
  rcases h.2 with ⟨rfl, _⟩ | h
  · exact absurd rfl hz
  · exact h

theorem open_acts {base : Nat} {v : Value} {d : DataW H} {p : List MemPlace} (hv : Value.okWide Try.prog w .any base 22 v) (h : DataW.Trod enc Try.prog w 0 (fun _ => true) true 22 v d p) : ∃ l, ActsV w v l := by
  obtain ⟨a0, len0, cap0, rfl⟩ := okWide_slice Try.underlying22 hv
  obtain ⟨fuel, hf⟩ := h
  rcases open_slice Try.underlying22 hf with ⟨hcs, _⟩ | ⟨a, len, cap, m, n, D, Pl, hcs, _, hl, hm, hmm, _, hi⟩
  · simp [Value.cells] at hcs
    obtain ⟨rfl, rfl, rfl⟩ := hcs
    exact ⟨[], by simp, Or.inl ⟨rfl, _, _, rfl, Nat.zero_le _⟩⟩
  · simp [Value.cells] at hcs
    obtain ⟨rfl, rfl, rfl⟩ := hcs
    simp only [if_true] at hmm
    subst hmm
    have k6 : Try.prog.cellsOf 37 = 6 := by kernel_rfl
    rw [k6] at hi
    by_cases h0 : len0 = 0
    · subst h0
      exact ⟨[], by simp, Or.inl ⟨rfl, _, _, rfl, hm⟩⟩
    have hall : ∀ i, i < len0 → ∃ x : ActA, ActAOk x ∧ ∀ j u, x.cells[j]? = some u → w.cell? ((a.add (i * 6)).add j) = some u := by
      intro i hil
      obtain ⟨cs, hc, ht⟩ := hi i (by omega)
      obtain ⟨x, rfl, hx⟩ := acta_of_trod ht
      obtain ⟨_, hcl, hat⟩ := World.cells?_some hc
      refine ⟨x, hx, fun j u hj => ?_⟩
      have hj6 : j < 6 := by
        rcases Nat.lt_or_ge j 6 with h | h
        · exact h
        · rw [Array.getElem?_eq_none (by simpa [ActA.cells] using h)] at hj; cases hj
      rw [hat j hj6]
      simpa using hj
    obtain ⟨b, off, path⟩ := a
    cases path with
    | some q =>
      obtain ⟨x, _, hx⟩ := hall 0 (by omega)
      have := hx 0 (.int .i64 x.kind) rfl
      simp only [World.cell?, Addr.add] at this
      split at this <;> simp_all
    | none =>
      have hch : ∃ f : Nat → ActA, ∀ i, i < len0 → ActAOk (f i) ∧ ∀ j u, (f i).cells[j]? = some u → w.cell? ⟨b, off + i * 6 + j, none⟩ = some u := by
        refine ⟨fun i => if hi : i < len0 then Classical.choose (hall i hi) else .zero, fun i hil => ?_⟩
        simp only [dif_pos hil]
        obtain ⟨q1, q2⟩ := Classical.choose_spec (hall i hil)
        refine ⟨q1, fun j u hj => ?_⟩
        have := q2 j u hj
        rwa [Addr.add_lit, Addr.add_lit] at this
      obtain ⟨f, hf⟩ := hch
      refine ⟨(List.range len0).map f, fun x hx => ?_, Or.inr ⟨b, off, m, by simp, by simpa using hl, hm, fun i hi' => ?_⟩⟩
      · obtain ⟨i, hi', rfl⟩ := List.mem_map.1 hx
        exact (hf i (List.mem_range.1 hi')).1
      · have hi'' : i < len0 := by simpa using hi'
        have e : ((List.range len0).map f).getD i .zero = f i := by simp [hi'']
        rw [e]
        exact (hf i hi'').2
end

/-! ### What acts do -/

/-- Alike, but for what is told. -/
def Alike (a r : Ad) : Prop := r = { a with said := r.said }

theorem fin_said (a : Ad) (h : Hl) (ev s : Int) : (({ a with said := s } : Ad).fin h ev) = ({ (a.fin h ev).1 with said := s }, (a.fin h ev).2) := by
  unfold Ad.fin; dsimp only; split <;> rfl
theorem hear1_said (a : Ad) (h : Hl) (s : Int) : (({ a with said := s } : Ad).hear1 h).1 = { (a.hear1 h).1 with said := s } := by
  unfold Ad.hear1
  dsimp only
  split
  · rfl
  split
  · exact congrArg Prod.fst (fin_said (a.greet h) h 0 s)
  split
  · exact congrArg Prod.fst (fin_said (a.anew.greet h) h _ s)
  split
  · rfl
  split
  · exact congrArg Prod.fst (fin_said (a.again h) h _ s)
  · exact congrArg Prod.fst (fin_said a.still h 0 s)
theorem rest_said (a : Ad) (s : Int) : (({ a with said := s } : Ad).rest).1 = { a.rest.1 with said := s } := by
  unfold Ad.rest
  dsimp only
  split
  · rfl
  split <;> rfl

/-- What holds of an adjacency. -/
structure Fit (a : Ad) : Prop where
  silent : a.silent < a.dead

theorem act_alike {a r : Ad} {sd : Bool} (h : Alike a r) (x : ActA) : Alike (a.act x) (r.ract sd x) := by
  unfold Alike at *
  obtain ⟨s, hs⟩ : ∃ s, r.said = s := ⟨_, rfl⟩
  rw [hs] at h
  subst h
  unfold Ad.act Ad.ract
  split
  · unfold Ad.hear
    split
    · rfl
    · rw [hear1_said]
  split
  · rw [Ad.tick_rest]
    have e2 := rest_said a (rsaid { a with said := s } sd)
    have e3 : a.told.rest.1 = { a.rest.1 with said := a.told.said } := rest_said a a.told.said
    rw [e3]
    show (({ a with said := rsaid { a with said := s } sd } : Ad).rest).1 = _
    rw [e2]
  split
  · rfl
  · rfl

theorem fin_mt (a : Ad) (h : Hl) (ev : Int) : (a.fin h ev).1.mt = a.mt ∧ (a.fin h ev).1.mb = a.mb ∧ (a.fin h ev).1.silent = a.silent ∧ (a.fin h ev).1.dead = a.dead ∧ (a.fin h ev).1.every = a.every ∧ (a.fin h ev).1.said = a.said ∧ (a.fin h ev).1.node = a.node := by
  unfold Ad.fin; split <;> exact ⟨rfl, rfl, rfl, rfl, rfl, rfl, rfl⟩
theorem hear1_mt (a : Ad) (h : Hl) : ((a.hear1 h).1.mt = a.mt ∨ (a.hear1 h).1.mt = a.mt + 1) ∧ (a.hear1 h).1.mb = a.mb ∧ ((a.hear1 h).1.silent = 0 ∨ (a.hear1 h).1.silent = a.silent) ∧ (a.hear1 h).1.dead = a.dead ∧ (a.hear1 h).1.every = a.every ∧ (a.hear1 h).1.said = a.said ∧ (a.hear1 h).1.node = a.node := by
  unfold Ad.hear1
  split
  · exact ⟨Or.inl rfl, rfl, Or.inr rfl, rfl, rfl, rfl, rfl⟩
  split
  · obtain ⟨h1, h2, h3, h4, h5, h6, h7⟩ := fin_mt (a.greet h) h 0
    rw [h1, h2, h3, h4, h5, h6, h7]; exact ⟨Or.inl rfl, rfl, Or.inl rfl, rfl, rfl, rfl, rfl⟩
  split
  · obtain ⟨h1, h2, h3, h4, h5, h6, h7⟩ := fin_mt (a.anew.greet h) h a.lost
    rw [h1, h2, h3, h4, h5, h6, h7]; exact ⟨Or.inr rfl, rfl, Or.inl rfl, rfl, rfl, rfl, rfl⟩
  split
  · exact ⟨Or.inl rfl, rfl, Or.inr rfl, rfl, rfl, rfl, rfl⟩
  split
  · obtain ⟨h1, h2, h3, h4, h5, h6, h7⟩ := fin_mt (a.again h) h a.lost
    rw [h1, h2, h3, h4, h5, h6, h7]; exact ⟨Or.inl rfl, rfl, Or.inl rfl, rfl, rfl, rfl, rfl⟩
  · obtain ⟨h1, h2, h3, h4, h5, h6, h7⟩ := fin_mt a.still h 0
    rw [h1, h2, h3, h4, h5, h6, h7]; exact ⟨Or.inl rfl, rfl, Or.inl rfl, rfl, rfl, rfl, rfl⟩

/-- What an act keeps: its attempt goes on by at most one; it is not late. -/
theorem act_keeps {a : Ad} (x : ActA) (h : a.silent < a.dead) (h0 : 0 < a.dead) : a.mt ≤ (a.act x).mt ∧ (a.act x).mt ≤ a.mt + 1 ∧ (a.act x).mb = a.mb ∧ (a.act x).silent < (a.act x).dead ∧ (a.act x).dead = a.dead ∧ (a.act x).node = a.node := by
  unfold Ad.act
  split
  · unfold Ad.hear
    split
    · exact ⟨Int.le_refl _, by show a.mt ≤ a.mt + 1; omega, rfl, h, rfl, rfl⟩
    · obtain ⟨h1, h2, h3, h4, _, _, h7⟩ := hear1_mt a x.h
      refine ⟨by omega, by omega, h2, by omega, h4, h7⟩
  split
  · rw [Ad.tick_rest]
    unfold Ad.rest
    split
    · exact ⟨Int.le_refl _, by show a.mt ≤ a.mt + 1; omega, rfl, h, rfl, rfl⟩
    split
    · exact ⟨by show a.mt ≤ a.mt + 1; omega, Int.le_refl _, rfl, h0, rfl, rfl⟩
    · rename_i hh
      exact ⟨Int.le_refl _, by show a.mt ≤ a.mt + 1; omega, rfl, by have : ¬ a.dead ≤ a.silent + 1 := hh; show a.silent + 1 < a.dead; omega, rfl, rfl⟩
  split
  · exact ⟨by show a.mt ≤ a.mt + 1; omega, Int.le_refl _, rfl, h0, rfl, rfl⟩
  · exact ⟨Int.le_refl _, by show a.mt ≤ a.mt + 1; omega, rfl, h, rfl, rfl⟩

/-- The document's one keeps its count. -/
theorem ract_keeps {r : Ad} {sd : Bool} (x : ActA) (h1 : AdOk r) (h : r.said ≤ r.every) : (r.ract sd x).said ≤ (r.ract sd x).every := by
  unfold Ad.ract
  split
  · unfold Ad.hear
    split
    · exact h
    · obtain ⟨_, _, _, _, h5, h6, _⟩ := hear1_mt r x.h
      rw [h5, h6]; exact h
  split
  · obtain ⟨_, hb⟩ := rsaid_bd (sd := sd) h1 h
    unfold Ad.rest
    split
    · exact hb
    split
    · exact hb
    · exact hb
  split
  · exact h
  · exact h
end Go.Proofs.Ytnpmdiekcdjfaaa
