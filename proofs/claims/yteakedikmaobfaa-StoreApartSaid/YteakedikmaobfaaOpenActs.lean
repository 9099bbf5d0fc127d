/- Acts that come in. -/
import Derived.Test.YteakedikmaobfaaStBytes
import Derived.Deep.Slices
set_option linter.unusedVariables false
namespace Go.Proofs.Yteakedikmaobfaa
open Go.ChangeShapes Go.WideShapes Go.ChangeAt Go.RowKit Go.Deep

section
variable {H : Type} {enc : TypeId × Value → H} {w : World}

theorem bytes_of_trod {P : Program} {t e : TypeId} {v : Value} {n : Nat} {y : DataW H × List MemPlace} (ht : P.underlying t = some (.slice e)) (he : P.underlying e = some (.int .u8)) (ce : P.cellsOf e = 1)
    (h : DataW.trod enc P w 0 (fun _ => true) true n t [v] = some y) : ∃ zs, BytesV w v zs := by
  rcases open_ints ht he ce h with ⟨hcs, _⟩ | ⟨x, l, c, zs, hcs, _, hl, hm, hz, _, hcell, hwz⟩
  · simp at hcs
    subst hcs
    exact ⟨[], Bytes.nil, Or.inl ⟨rfl, _, _, rfl, Nat.zero_le _, fun _ => rfl⟩⟩
  · simp at hcs
    subst hcs
    simp only [if_true] at hz
    exact ⟨zs.take l, bytesV_of hl hm hz hwz (fun hh => by cases hh) (fun a ha i hi => by cases ha; exact hcell i (by omega))⟩

theorem open_act {n : Nat} {cs : List Value} {x : DataW H × List MemPlace} (h : DataW.trod enc Try.prog w 0 (fun _ => true) true n 40 cs = some x) : ∃ a : ActP, cs = a.cells.toList ∧ ActOk w a := by
  obtain ⟨xs, m, _, _, hl, hx, hf⟩ := DataW.trod_struct Try.underlying40 h
  have hl6 : cs.length = 6 := hl.trans (by kernel_rfl)
  match cs, hl6 with
  | [c0, c1, c2, c3, c4, c5], _ =>
    match xs, hx with
    | [y0, y1, y2, y3, y4, y5], _ =>
      have k3 : Try.prog.cellsOf 3 = 1 := by kernel_rfl
      have k5 : Try.prog.cellsOf 5 = 1 := by kernel_rfl
      have k4 : Try.prog.cellsOf 4 = 1 := by kernel_rfl
      have k29 : Try.prog.cellsOf 29 = 1 := by kernel_rfl
      have f0 : DataW.trod enc Try.prog w 0 (fun _ => true) true m 3 [c0] = some y0 := by have h := hf 0 _ rfl; simpa [k3, k4, k5, k29] using h
      have f1 : DataW.trod enc Try.prog w 0 (fun _ => true) true m 3 [c1] = some y1 := by have h := hf 1 _ rfl; simpa [k3, k4, k5, k29] using h
      have f2 : DataW.trod enc Try.prog w 0 (fun _ => true) true m 3 [c2] = some y2 := by have h := hf 2 _ rfl; simpa [k3, k4, k5, k29] using h
      have f3 : DataW.trod enc Try.prog w 0 (fun _ => true) true m 5 [c3] = some y3 := by have h := hf 3 _ rfl; simpa [k3, k4, k5, k29] using h
      have f4 : DataW.trod enc Try.prog w 0 (fun _ => true) true m 4 [c4] = some y4 := by have h := hf 4 _ rfl; simpa [k3, k4, k5, k29] using h
      have f5 : DataW.trod enc Try.prog w 0 (fun _ => true) true m 29 [c5] = some y5 := by have h := hf 5 _ rfl; simpa [k3, k4, k5, k29] using h
      obtain ⟨a0, e0, _, w0⟩ := DataW.trod_int Try.underlying3 f0
      obtain ⟨a1, e1, _, w1⟩ := DataW.trod_int Try.underlying3 f1
      obtain ⟨a2, e2, _, w2⟩ := DataW.trod_int Try.underlying3 f2
      obtain ⟨a3, e3, _, w3⟩ := DataW.trod_int Try.underlying5 f3
      obtain ⟨a4, e4, _⟩ := DataW.trod_bool Try.underlying4 f4
      obtain ⟨zs, hz⟩ := bytes_of_trod Try.underlying29 Try.underlying5 k5 f5
      simp at e0 e1 e2 e3 e4
      subst e0 e1 e2 e3 e4
      exact ⟨⟨a0, a1, a2, a3, a4, c5, zs⟩, rfl, wf_i64 w0, wf_i64 w1, wf_i64 w2, wf_u8 w3, hz⟩

def ActP.zero : ActP := ⟨0, 0, 0, 0, false, .slice none 0 0, []⟩

/-- 'v' is a slice of acts. -/
def ActsV (w : World) (v : Value) (l : List ActP) : Prop :=
  ((l = [] ∧ ∃ ao cap, v = .slice ao 0 cap ∧ cap ≤ maxLen) ∨
    ∃ b off cap, v = .slice (some ⟨b, off, none⟩) l.length cap ∧ l.length ≤ cap ∧ cap ≤ maxLen ∧ ∀ i, i < l.length → ActOk w (l.getD i .zero) ∧ ∀ j u, (l.getD i .zero).cells[j]? = some u → w.cell? ⟨b, off + i * 6 + j, none⟩ = some u)

theorem ActsV.shape {v : Value} {l : List ActP} (h : ActsV w v l) : ∃ ao cap, v = .slice ao l.length cap ∧ l.length ≤ cap ∧ cap ≤ maxLen := by
  rcases h with ⟨rfl, ao, cap, rfl, h9⟩ | ⟨b, off, cap, rfl, h1, h2, _⟩
  · exact ⟨ao, cap, rfl, Nat.zero_le _, h9⟩
  · exact ⟨_, cap, rfl, h1, h2⟩

theorem ActsV.solid {v : Value} {l : List ActP} (h : ActsV w v l) (hz : l ≠ []) : ∃ b off cap, v = .slice (some ⟨b, off, none⟩) l.length cap ∧ l.length ≤ cap ∧ cap ≤ maxLen ∧
    ∀ i, i < l.length → ActOk w (l.getD i .zero) ∧ ∀ j u, (l.getD i .zero).cells[j]? = some u → w.cell? ⟨b, off + i * 6 + j, none⟩ = some u := by
  rcases h with ⟨rfl, _⟩ | h
  · exact absurd rfl hz
  · exact h

theorem open_acts {base : Nat} {v : Value} {d : DataW H} {p : List MemPlace} (hv : Value.okWide Try.prog w .any base 36 v) (h : DataW.Trod enc Try.prog w 0 (fun _ => true) true 36 v d p) : ∃ l, ActsV w v l := by
  obtain ⟨a0, len0, cap0, rfl⟩ := okWide_slice Try.underlying36 hv
  obtain ⟨fuel, hf⟩ := h
  rcases open_slice Try.underlying36 hf with ⟨hcs, _⟩ | ⟨a, len, cap, m, n, D, Pl, hcs, _, hl, hm, hmm, _, hi⟩
  · simp [Value.cells] at hcs
    obtain ⟨rfl, rfl, rfl⟩ := hcs
    exact ⟨[], Or.inl ⟨rfl, _, _, rfl, Nat.zero_le _⟩⟩
  · simp [Value.cells] at hcs
    obtain ⟨rfl, rfl, rfl⟩ := hcs
    simp only [if_true] at hmm
    subst hmm
    have k6 : Try.prog.cellsOf 40 = 6 := by kernel_rfl
    rw [k6] at hi
    by_cases h0 : len0 = 0
    · subst h0
      exact ⟨[], Or.inl ⟨rfl, _, _, rfl, hm⟩⟩
    have hall : ∀ i, i < len0 → ∃ x : ActP, ActOk w x ∧ ∀ j u, x.cells[j]? = some u → w.cell? ((a.add (i * 6)).add j) = some u := by
      intro i hil
      obtain ⟨cs, hc, ht⟩ := hi i (by omega)
      obtain ⟨x, rfl, hx⟩ := open_act ht
      obtain ⟨_, hcl, hat⟩ := World.cells?_some hc
      refine ⟨x, hx, fun j u hj => ?_⟩
      have hj6 : j < 6 := by
        rcases Nat.lt_or_ge j 6 with h | h
        · exact h
        · rw [Array.getElem?_eq_none (by simpa [ActP.cells] using h)] at hj; cases hj
      rw [hat j hj6]
      simpa using hj
    obtain ⟨b, off, path⟩ := a
    cases path with
    | some q =>
      obtain ⟨x, _, hx⟩ := hall 0 (by omega)
      have := hx 0 (.int .i64 x.kind) rfl
      simp only [World.cell?, Addr.add] at this
      split at this <;> simp_all
    | none =>
      have hch : ∃ f : Nat → ActP, ∀ i, i < len0 → ActOk w (f i) ∧ ∀ j u, (f i).cells[j]? = some u → w.cell? ⟨b, off + i * 6 + j, none⟩ = some u := by
        refine ⟨fun i => if hi : i < len0 then Classical.choose (hall i hi) else .zero, fun i hil => ?_⟩
        simp only [dif_pos hil]
        obtain ⟨q1, q2⟩ := Classical.choose_spec (hall i hil)
        refine ⟨q1, fun j u hj => ?_⟩
        have := q2 j u hj
        rwa [Addr.add_lit, Addr.add_lit] at this
      obtain ⟨f, hf⟩ := hch
      refine ⟨(List.range len0).map f, Or.inr ⟨b, off, m, by simp, by simpa using hl, hm, fun i hi' => ?_⟩⟩
      have hi'' : i < len0 := by simpa using hi'
      have e : ((List.range len0).map f).getD i .zero = f i := by simp [hi'']
      rw [e]
      exact hf i hi''
end
end Go.Proofs.Yteakedikmaobfaa
