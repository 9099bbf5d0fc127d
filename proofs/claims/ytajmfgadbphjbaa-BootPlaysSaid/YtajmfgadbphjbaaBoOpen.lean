/- What comes in: a slice of bools; a loss. -/
import Derived.Test.YtajmfgadbphjbaaSumOpen
import Derived.Deep.Slices
import Derived.Deep.Grids
set_option linter.unusedVariables false
namespace Go.Proofs.Ytajmfgadbphjbaa
open Go.ChangeShapes Go.WideShapes Go.ChangeAt Go.RowKit Go.Deep

/-- 'v' is a slice of the bools 'us'. -/
def BoolsV (w : World) (v : Value) (us : List Bool) : Prop :=
  ((us = [] ∧ ∃ ao cap, v = .slice ao 0 cap ∧ cap ≤ maxLen) ∨
    ∃ b off cap, v = .slice (some ⟨b, off, none⟩) us.length cap ∧ us.length ≤ cap ∧ cap ≤ maxLen ∧ ∀ i, i < us.length → w.cell? ⟨b, off + i, none⟩ = some (.bool (us.getD i false)))

theorem BoolsV.shape {w : World} {v : Value} {us : List Bool} (h : BoolsV w v us) : ∃ ao cap, v = .slice ao us.length cap ∧ us.length ≤ cap ∧ cap ≤ maxLen := by
  rcases h with ⟨rfl, ao, cap, rfl, h9⟩ | ⟨b, off, cap, rfl, h1, h2, _⟩
  · exact ⟨ao, cap, rfl, Nat.zero_le _, h9⟩
  · exact ⟨_, cap, rfl, h1, h2⟩
theorem BoolsV.cell {w : World} {v : Value} {us : List Bool} (h : BoolsV w v us) {i : Nat} (hi : i < us.length) : ∃ b off cap, v = .slice (some ⟨b, off, none⟩) us.length cap ∧ us.length ≤ cap ∧ cap ≤ maxLen ∧ w.cell? ⟨b, off + i, none⟩ = some (.bool (us.getD i false)) := by
  rcases h with ⟨rfl, _⟩ | ⟨b, off, cap, rfl, h1, h2, h3⟩
  · simp at hi
  · exact ⟨b, off, cap, rfl, h1, h2, h3 i hi⟩

section
variable {H : Type} {enc : TypeId × Value → H} {P : Program} {w : World} {base : Nat}
theorem open_boolsV {t e : TypeId} {v : Value} {d : DataW H} {p : List MemPlace} (ht : P.underlying t = some (.slice e)) (he : P.underlying e = some .bool) (ce : P.cellsOf e = 1)
    (hv : Value.okWide P w .any base t v) (h : DataW.Trod enc P w 0 (fun _ => true) true t v d p) : ∃ us : List Bool, BoolsV w v us := by
  obtain ⟨a0, len0, cap0, rfl⟩ := okWide_slice ht hv
  obtain ⟨fuel, hf⟩ := h
  rcases open_bools ht he ce hf with ⟨hcs, _⟩ | ⟨a, l, c, B, hcs, _, hl, hm, _, hcell⟩
  · simp [Value.cells] at hcs
    obtain ⟨rfl, rfl, rfl⟩ := hcs
    exact ⟨[], Or.inl ⟨rfl, _, _, rfl, Nat.zero_le _⟩⟩
  · simp [Value.cells] at hcs
    obtain ⟨rfl, rfl, rfl⟩ := hcs
    by_cases h0 : len0 = 0
    · subst h0
      exact ⟨[], Or.inl ⟨rfl, _, _, rfl, hm⟩⟩
    · obtain ⟨b, off, path⟩ := a
      cases path with
      | some q =>
        have := hcell 0 (by omega)
        simp only [World.cell?, Addr.add] at this
        split at this <;> simp_all
      | none =>
        refine ⟨(List.range len0).map B, Or.inr ⟨b, off, cap0, by simp, by simpa using hl, hm, fun i hi => ?_⟩⟩
        have hi' : i < len0 := by simpa using hi
        have := hcell i (by omega)
        rw [Addr.add_lit] at this
        rw [this]
        simp [hi']

theorem loss_of_trod {n : Nat} {cs : List Value} {x : DataW H × List MemPlace} (h : DataW.trod enc Try.prog w 0 (fun _ => true) true n 42 cs = some x) : ∃ (a y : Int) (u : Bool), cs = [.int .i64 a, .int .u8 y, .bool u] ∧ (Lit.int .i64 a).wf = true ∧ (Lit.int .u8 y).wf = true := by
  obtain ⟨xs, m, _, _, hl, hx, hf⟩ := DataW.trod_struct Try.underlying42 h
  have hl2 : cs.length = 3 := hl.trans (by kernel_rfl)
  match cs, hl2 with
  | [c0, c1, c2], _ =>
    match xs, hx with
    | [y0, y1, y2], _ =>
      have k3 : Try.prog.cellsOf 3 = 1 := by kernel_rfl
      have k5 : Try.prog.cellsOf 5 = 1 := by kernel_rfl
      have k4 : Try.prog.cellsOf 4 = 1 := by kernel_rfl
      have f0 : DataW.trod enc Try.prog w 0 (fun _ => true) true m 3 [c0] = some y0 := by have h := hf 0 _ rfl; simpa [k3, k5, k4] using h
      have f1 : DataW.trod enc Try.prog w 0 (fun _ => true) true m 5 [c1] = some y1 := by have h := hf 1 _ rfl; simpa [k3, k5, k4] using h
      have f2 : DataW.trod enc Try.prog w 0 (fun _ => true) true m 4 [c2] = some y2 := by have h := hf 2 _ rfl; simpa [k3, k5, k4] using h
      obtain ⟨a0, e0, _, w0⟩ := DataW.trod_int Try.underlying3 f0
      obtain ⟨a1, e1, _, w1⟩ := DataW.trod_int Try.underlying5 f1
      obtain ⟨a2, e2, _⟩ := DataW.trod_bool Try.underlying4 f2
      simp at e0 e1 e2
      subst e0 e1 e2
      exact ⟨a0, a1, a2, rfl, w0, w1⟩

theorem open_loss {base : Nat} {v : Value} {d : DataW H} {p : List MemPlace} (hv : Value.okWide Try.prog w .any base 42 v) (h : DataW.Trod enc Try.prog w 0 (fun _ => true) true 42 v d p) :
    ∃ (a y : Int) (u : Bool), v = .agg #[.int .i64 a, .int .u8 y, .bool u] ∧ (Lit.int .i64 a).wf = true ∧ (Lit.int .u8 y).wf = true := by
  obtain ⟨cs, rfl, hsz⟩ := okWide_struct Try.underlying42 hv
  obtain ⟨fuel, hf⟩ := h
  obtain ⟨a, y, u, e, u1, u2⟩ := loss_of_trod hf
  refine ⟨a, y, u, ?_, u1, u2⟩
  congr 1
  apply Array.ext'
  simpa [Value.cells] using e
end
end Go.Proofs.Ytajmfgadbphjbaa
