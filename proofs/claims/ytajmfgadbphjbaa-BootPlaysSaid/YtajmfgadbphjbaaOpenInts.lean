/- A slice of numbers that comes in. -/
import Derived.Test.YtajmfgadbphjbaaSumOpen
set_option linter.unusedVariables false
namespace Go.Proofs.Ytajmfgadbphjbaa
open Go.ChangeShapes Go.WideShapes Go.ChangeAt Go.RowKit Go.Deep

theorem intsV_of {k : IntKind} {w : World} {ao : Option Addr} {len cap : Nat} {zs : List Int} (hl : len ≤ cap) (hm : cap ≤ maxLen) (hz : zs.length = cap)
    (hn : ao = none → cap = 0) (hc : ∀ a, ao = some a → ∀ i, i < cap → w.cell? (a.add i) = some (.int k (zs.getD i 0))) : IntsV k w (.slice ao len cap) (zs.take len) := by
  have hlen : (zs.take len).length = len := by simp; omega
  by_cases h0 : len = 0
  · subst h0
    exact Or.inl ⟨by simp, ao, cap, rfl, hm, hn⟩
  · match ao, hn, hc with
    | none, hn, _ => have := hn rfl; omega
    | some a, _, hc =>
      have hx := hc a rfl 0 (by omega)
      obtain ⟨b, off, path⟩ := a
      cases path with
      | none =>
        refine Or.inr ⟨b, off, cap, by rw [hlen], by omega, hm, fun i hi => ?_⟩
        rw [hlen] at hi
        have := hc _ rfl i (by omega)
        rw [Addr.add_lit] at this
        rw [this]
        simp [List.getD_eq_getElem?_getD, hi]
      | some x =>
      simp only [World.cell?, Addr.add] at hx
      split at hx <;> simp_all

theorem RowsV.shape {w : World} {v : Value} {rows : List (List Int)} (h : RowsV w v rows) : ∃ ao cap, v = .slice ao rows.length cap ∧ rows.length ≤ cap ∧ cap ≤ maxLen := by
  rcases h with ⟨rfl, ao, cap, rfl, h9⟩ | ⟨b, off, cap, rfl, h1, h2, _⟩
  · exact ⟨ao, cap, rfl, Nat.zero_le _, h9⟩
  · exact ⟨_, cap, rfl, h1, h2⟩

theorem RowsV.solid {w : World} {v : Value} {rows : List (List Int)} (h : RowsV w v rows) (hz : rows ≠ []) : ∃ b off cap, v = .slice (some ⟨b, off, none⟩) rows.length cap ∧ rows.length ≤ cap ∧ cap ≤ maxLen ∧
    ∀ i, i < rows.length → ∃ x, w.cell? ⟨b, off + i, none⟩ = some x ∧ BytesV w x (rows.getD i []) := by
  rcases h with ⟨rfl, _⟩ | ⟨b, off, cap, rfl, h1, h2, h3⟩
  · exact absurd rfl hz
  · exact ⟨b, off, cap, rfl, h1, h2, h3⟩

theorem IntsV.solidC {k : IntKind} {w : World} {v : Value} {zs : List Int} (h : IntsV k w v zs) (hz : zs ≠ []) : ∃ b off cap, v = .slice (some ⟨b, off, none⟩) zs.length cap ∧ zs.length ≤ cap ∧ cap ≤ maxLen ∧
    ∀ i, i < zs.length → w.cell? ⟨b, off + i, none⟩ = some (.int k (zs.getD i 0)) := by
  rcases h with ⟨rfl, _⟩ | ⟨b, off, cap, rfl, h1, h2, h3⟩
  · exact absurd rfl hz
  · exact ⟨b, off, cap, rfl, h1, h2, h3⟩

section
variable {H : Type} {enc : TypeId × Value → H} {P : Program} {w : World} {base : Nat}

theorem open_nums {k : IntKind} {t e : TypeId} {v : Value} {d : DataW H} {p : List MemPlace} (ht : P.underlying t = some (.slice e)) (he : P.underlying e = some (.int k)) (ce : P.cellsOf e = 1)
    (hv : Value.okWide P w .any base t v) (h : DataW.Trod enc P w 0 (fun _ => true) true t v d p) : ∃ zs : List Int, (∀ z ∈ zs, (Lit.int k z).wf = true) ∧ IntsV k w v zs := by
  obtain ⟨a0, len0, cap0, rfl⟩ := okWide_slice ht hv
  obtain ⟨fuel, hf⟩ := h
  rcases open_ints ht he ce hf with ⟨hcs, _⟩ | ⟨x, l, c, zs, hcs, _, hl, hm, hz, _, hcell, hwz⟩
  · simp [Value.cells] at hcs
    obtain ⟨rfl, rfl, rfl⟩ := hcs
    exact ⟨[], by simp, Or.inl ⟨rfl, _, _, rfl, Nat.zero_le _, fun _ => rfl⟩⟩
  · simp [Value.cells] at hcs
    obtain ⟨rfl, rfl, rfl⟩ := hcs
    simp only [if_true] at hz
    exact ⟨zs.take len0, fun z hz' => hwz z (List.mem_of_mem_take hz'), intsV_of hl hm hz (fun hh => by cases hh) (fun a ha i hi => by cases ha; exact hcell i (by omega))⟩
end
end Go.Proofs.Ytajmfgadbphjbaa
