/- What comes in: bytes, rows of bytes, numbers; in the words of the walks. -/
import Derived.Test.YtiphhjipgjpepaaRows
import Derived.Test.YtiphhjipgjpepaaSumReads
import Derived.WalkKit
import Derived.ProofKit
import Derived.OpenShut
import Derived.Deep.Matrix
set_option linter.unusedVariables false
namespace Go.Proofs.Ytiphhjipgjpepaa
open Go.ChangeShapes Go.WideShapes Go.ChangeAt Go.RowKit Go.Deep

theorem wf_u8 {n : Int} (h : (Lit.int .u8 n).wf = true) : 0 ≤ n ∧ n < 256 := by
  have h : 0 ≤ n ∧ n ≤ 255 := by simpa [Lit.wf, IntKind.min, IntKind.max, IntKind.signed, IntKind.bits] using h
  omega
theorem wf_u16 {n : Int} (h : (Lit.int .u16 n).wf = true) : 0 ≤ n ∧ n < 65536 := by
  have h : 0 ≤ n ∧ n ≤ 65535 := by simpa [Lit.wf, IntKind.min, IntKind.max, IntKind.signed, IntKind.bits] using h
  omega
theorem wf_u64 {n : Int} (h : (Lit.int .u64 n).wf = true) : 0 ≤ n ∧ n < 18446744073709551616 := by
  have h : 0 ≤ n ∧ n ≤ 18446744073709551615 := by simpa [Lit.wf, IntKind.min, IntKind.max, IntKind.signed, IntKind.bits] using h
  omega
theorem wf_i64 {n : Int} (h : (Lit.int .i64 n).wf = true) : -9223372036854775808 ≤ n ∧ n ≤ 9223372036854775807 := by
  simpa [Lit.wf, IntKind.min, IntKind.max, IntKind.signed, IntKind.bits] using h

/-- The cells of a slice that came in are those of its elements. -/
theorem bytesV_of {w : World} {ao : Option Addr} {len cap : Nat} {zs : List Int} (hl : len ≤ cap) (hm : cap ≤ maxLen) (hz : zs.length = cap) (hw : ∀ n ∈ zs, (Lit.int .u8 n).wf = true)
    (hn : ao = none → cap = 0) (hc : ∀ a, ao = some a → ∀ i, i < cap → w.cell? (a.add i) = some (.int .u8 (zs.getD i 0))) : BytesV w (.slice ao len cap) (zs.take len) := by
  refine ⟨fun z hz' => wf_u8 (hw z (List.mem_of_mem_take hz')), ?_⟩
  have hlen : (zs.take len).length = len := by simp; omega
  by_cases h0 : len = 0
  · subst h0
    exact Or.inl ⟨by simp, ao, cap, rfl, hm, hn⟩
  · match ao, hn, hc with
    | none, hn, _ => have := hn rfl; omega
    | some a, _, hc =>
      have hx := hc a rfl 0 (by omega)
      obtain ⟨b, off, path⟩ := a
      cases path with
      | none =>
        refine Or.inr ⟨b, off, cap, by rw [hlen], by omega, hm, fun i hi => ?_⟩
        rw [hlen] at hi
        have := hc _ rfl i (by omega)
        rw [Addr.add_lit] at this
        rw [this]
        simp [List.getD_eq_getElem?_getD, hi]
      | some x =>
      simp only [World.cell?, Addr.add] at hx
      split at hx <;> simp_all

/-- What is left of a slice, cut at 'n', at the address as Go has it. -/
theorem bytes_rest {w : World} {b off cap n : Nat} {zs : List Int} (h : BytesV w (.slice (some ⟨b, off, none⟩) zs.length cap) zs) (hc : zs.length ≤ cap)
    (hd : BytesV w (.slice (some ⟨b, off + n, none⟩) (zs.length - n) (cap - n)) (zs.drop n)) :
    BytesV w (.slice (if cap = n then some ⟨b, off, none⟩ else some ⟨b, off + n, none⟩) (zs.length - n) (cap - n)) (zs.drop n) := by
  by_cases e : cap = n
  · rw [if_pos e]
    have h0 : zs.length - n = 0 := by omega
    have h1 : zs.drop n = [] := List.drop_eq_nil_iff.2 (by omega)
    obtain ⟨ao, c, e1, _, e2⟩ := hd.shape
    rw [h0, h1]
    injection e1 with _ _ e3
    subst e3
    exact ⟨Bytes.nil, Or.inl ⟨rfl, _, _, rfl, e2, fun hh => by cases hh⟩⟩
  · rw [if_neg e]; exact hd

section
variable {H : Type} {enc : TypeId × Value → H} {P : Program} {w : World} {base : Nat}

theorem open_bytes {t e : TypeId} {v : Value} {d : DataW H} {p : List MemPlace} (ht : P.underlying t = some (.slice e)) (he : P.underlying e = some (.int .u8)) (ce : P.cellsOf e = 1)
    (hv : Value.okWide P w .any base t v) (h : DataW.Trod enc P w 0 (fun _ => true) true t v d p) : ∃ zs, BytesV w v zs := by
  obtain ⟨a0, len0, cap0, rfl⟩ := okWide_slice ht hv
  obtain ⟨fuel, hf⟩ := h
  rcases open_ints ht he ce hf with ⟨hcs, _⟩ | ⟨x, l, c, zs, hcs, _, hl, hm, hz, _, hcell, hwz⟩
  · simp [Value.cells] at hcs
    obtain ⟨rfl, rfl, rfl⟩ := hcs
    exact ⟨[], Bytes.nil, Or.inl ⟨rfl, _, _, rfl, Nat.zero_le _, fun _ => rfl⟩⟩
  · simp [Value.cells] at hcs
    obtain ⟨rfl, rfl, rfl⟩ := hcs
    simp only [if_true] at hz
    exact ⟨zs.take len0, bytesV_of hl hm hz hwz (fun hh => by cases hh) (fun a ha i hi => by cases ha; exact hcell i (by omega))⟩

theorem open_rows {t e q : TypeId} {v : Value} {d : DataW H} {p : List MemPlace} (ht : P.underlying t = some (.slice e)) (he : P.underlying e = some (.slice q)) (hq : P.underlying q = some (.int .u8)) (ce : P.cellsOf e = 1) (cq : P.cellsOf q = 1)
    (hv : Value.okWide P w .any base t v) (h : DataW.Trod enc P w 0 (fun _ => true) true t v d p) : ∃ rows, RowsV w v rows := by
  obtain ⟨a0, len0, cap0, rfl⟩ := okWide_slice ht hv
  obtain ⟨fuel, hf⟩ := h
  rcases open_int_rows ht he hq ce cq hf with ⟨hcs, _⟩ | ⟨a, len, cap, A, L, C, Z, hcs, _, hl, hm, _, hall⟩
  · simp [Value.cells] at hcs
    obtain ⟨rfl, rfl, rfl⟩ := hcs
    exact ⟨[], Or.inl ⟨rfl, _, _, rfl, Nat.zero_le _⟩⟩
  · simp [Value.cells] at hcs
    obtain ⟨rfl, rfl, rfl⟩ := hcs
    refine ⟨(List.range len0).map fun r => (Z r).take (L r), ?_⟩
    by_cases h0 : len0 = 0
    · subst h0
      exact Or.inl ⟨rfl, _, _, rfl, hm⟩
    · have hx := (hall 0 (by omega)).1
      obtain ⟨b, off, path⟩ := a
      cases path with
      | none =>
        refine Or.inr ⟨b, off, cap0, by simp, by simpa using hl, hm, fun i hi => ?_⟩
        have hi' : i < len0 := by simpa using hi
        obtain ⟨h1, h2, h3, h4, h5, h6, h7⟩ := hall i (by omega)
        rw [Addr.add_lit] at h1
        refine ⟨_, h1, ?_⟩
        have e : ((List.range len0).map fun r => (Z r).take (L r)).getD i [] = (Z i).take (L i) := by simp [hi']
        rw [e]
        exact bytesV_of h2 h3 h4 h5 h6 (fun a' ha' c hc => (h7 a' ha').2 c hc)
      | some x =>
        simp only [World.cell?, Addr.add] at hx
        split at hx <;> simp_all
end
end Go.Proofs.Ytiphhjipgjpepaa
