/- Frames, tags, updates that come in. -/
import Derived.Test.YtiphhjipgjpepaaFrTag
import Derived.Test.YtiphhjipgjpepaaSumOpen
import Derived.Deep.Slices
set_option linter.unusedVariables false
namespace Go.Proofs.Ytiphhjipgjpepaa
open Go.ChangeShapes Go.WideShapes Go.ChangeAt Go.RowKit Go.Deep

section
variable {H : Type} {enc : TypeId × Value → H} {w : World} {base : Nat}

theorem bytes_of_trod {P : Program} {t e : TypeId} {v : Value} {n : Nat} {y : DataW H × List MemPlace} (ht : P.underlying t = some (.slice e)) (he : P.underlying e = some (.int .u8)) (ce : P.cellsOf e = 1)
    (h : DataW.trod enc P w 0 (fun _ => true) true n t [v] = some y) : ∃ zs, BytesV w v zs := by
  rcases open_ints ht he ce h with ⟨hcs, _⟩ | ⟨x, l, c, zs, hcs, _, hl, hm, hz, _, hcell, hwz⟩
  · simp at hcs
    subst hcs
    exact ⟨[], Bytes.nil, Or.inl ⟨rfl, _, _, rfl, Nat.zero_le _, fun _ => rfl⟩⟩
  · simp at hcs
    subst hcs
    simp only [if_true] at hz
    exact ⟨zs.take l, bytesV_of hl hm hz hwz (fun hh => by cases hh) (fun a ha i hi => by cases ha; exact hcell i (by omega))⟩

theorem tag_of_trod {n : Nat} {cs : List Value} {x : DataW H × List MemPlace} (h : DataW.trod enc Try.prog w 0 (fun _ => true) true n 25 cs = some x) : ∃ b t : Int, cs = [.int .u64 b, .int .u64 t] ∧ U64 b ∧ U64 t := by
  obtain ⟨xs, m, _, _, hl, hx, hf⟩ := DataW.trod_struct Try.underlying25 h
  have hl2 : cs.length = 2 := hl.trans (by kernel_rfl)
  match cs, hl2 with
  | [c0, c1], _ =>
    match xs, hx with
    | [y0, y1], _ =>
      have k23 : Try.prog.cellsOf 23 = 1 := by kernel_rfl
      have f0 : DataW.trod enc Try.prog w 0 (fun _ => true) true m 23 [c0] = some y0 := by have h := hf 0 _ rfl; simpa [k23] using h
      have f1 : DataW.trod enc Try.prog w 0 (fun _ => true) true m 23 [c1] = some y1 := by have h := hf 1 _ rfl; simpa [k23] using h
      obtain ⟨a0, e0, _, w0⟩ := DataW.trod_int Try.underlying23 f0
      obtain ⟨a1, e1, _, w1⟩ := DataW.trod_int Try.underlying23 f1
      simp at e0 e1
      subst e0 e1
      exact ⟨a0, a1, rfl, wf_u64 w0, wf_u64 w1⟩

theorem open_tag {v : Value} {d : DataW H} {p : List MemPlace} (hv : Value.okWide Try.prog w .any base 25 v) (h : DataW.Trod enc Try.prog w 0 (fun _ => true) true 25 v d p) :
    ∃ b t : Int, v = .agg #[.int .u64 b, .int .u64 t] ∧ U64 b ∧ U64 t := by
  obtain ⟨cs, rfl, hsz⟩ := okWide_struct Try.underlying25 hv
  obtain ⟨fuel, hf⟩ := h
  obtain ⟨b, t, e, u1, u2⟩ := tag_of_trod hf
  refine ⟨b, t, ?_, u1, u2⟩
  congr 1
  apply Array.ext'
  simpa [Value.cells] using e

theorem frame_of_trod {n : Nat} {cs : List Value} {x : DataW H × List MemPlace} (h : DataW.trod enc Try.prog w 0 (fun _ => true) true n 28 cs = some x) : ∃ f : Fr, cs = f.cells.toList ∧ FrOk w f := by
  obtain ⟨xs, m, _, _, hl, hx, hf⟩ := DataW.trod_struct Try.underlying28 h
  have hl9 : cs.length = 9 := hl.trans (by kernel_rfl)
  match cs, hl9 with
  | [c0, c1, c2, c3, c4, c5, c6, c7, c8], _ =>
    match xs, hx with
    | [y0, y1, y2, y3, y4, y5, y6], _ =>
      have k3 : Try.prog.cellsOf 3 = 1 := by kernel_rfl
      have kK : Try.prog.cellsOf 22 = 1 := by kernel_rfl
      have k23 : Try.prog.cellsOf 23 = 1 := by kernel_rfl
      have kT : Try.prog.cellsOf 25 = 2 := by kernel_rfl
      have k5 : Try.prog.cellsOf 5 = 1 := by kernel_rfl
      have kB : Try.prog.cellsOf 26 = 1 := by kernel_rfl
      have f0 : DataW.trod enc Try.prog w 0 (fun _ => true) true m 22 [c0] = some y0 := by have h := hf 0 _ rfl; simpa [k3, kK, k23, kT, k5, kB] using h
      have f1 : DataW.trod enc Try.prog w 0 (fun _ => true) true m 3 [c1] = some y1 := by have h := hf 1 _ rfl; simpa [k3, kK, k23, kT, k5, kB] using h
      have f2 : DataW.trod enc Try.prog w 0 (fun _ => true) true m 25 [c2, c3] = some y2 := by have h := hf 2 _ rfl; simpa [k3, kK, k23, kT, k5, kB] using h
      have f3 : DataW.trod enc Try.prog w 0 (fun _ => true) true m 25 [c4, c5] = some y3 := by have h := hf 3 _ rfl; simpa [k3, kK, k23, kT, k5, kB] using h
      have f4 : DataW.trod enc Try.prog w 0 (fun _ => true) true m 23 [c6] = some y4 := by have h := hf 4 _ rfl; simpa [k3, kK, k23, kT, k5, kB] using h
      have f5 : DataW.trod enc Try.prog w 0 (fun _ => true) true m 23 [c7] = some y5 := by have h := hf 5 _ rfl; simpa [k3, kK, k23, kT, k5, kB] using h
      have f6 : DataW.trod enc Try.prog w 0 (fun _ => true) true m 26 [c8] = some y6 := by have h := hf 6 _ rfl; simpa [k3, kK, k23, kT, k5, kB] using h
      obtain ⟨a0, e0, _, w0⟩ := DataW.trod_int Try.underlying22 f0
      obtain ⟨a1, e1, _, w1⟩ := DataW.trod_int Try.underlying3 f1
      obtain ⟨mb, mt, e2, u1, u2⟩ := tag_of_trod f2
      obtain ⟨tb, tt, e3, u3, u4⟩ := tag_of_trod f3
      obtain ⟨a4, e4, _, w4⟩ := DataW.trod_int Try.underlying23 f4
      obtain ⟨a5, e5, _, w5⟩ := DataW.trod_int Try.underlying23 f5
      obtain ⟨zs, hz⟩ := bytes_of_trod Try.underlying26 Try.underlying5 k5 f6
      simp at e0 e1 e2 e3 e4 e5
      obtain ⟨rfl, rfl⟩ := e2
      obtain ⟨rfl, rfl⟩ := e3
      subst e0 e1 e4 e5
      exact ⟨⟨a0, a1, mb, mt, tb, tt, a4, a5, c8, zs⟩, rfl, wf_i64 w0, wf_i64 w1, u1, u2, u3, u4, wf_u64 w4, wf_u64 w5, hz⟩

theorem open_frame {v : Value} {d : DataW H} {p : List MemPlace} (hv : Value.okWide Try.prog w .any base 28 v) (h : DataW.Trod enc Try.prog w 0 (fun _ => true) true 28 v d p) :
    ∃ f : Fr, v = f.val ∧ FrOk w f := by
  obtain ⟨cs, rfl, hsz⟩ := okWide_struct Try.underlying28 hv
  obtain ⟨fuel, hf⟩ := h
  obtain ⟨f, e, hok⟩ := frame_of_trod hf
  refine ⟨f, ?_, hok⟩
  unfold Fr.val
  congr 1
  apply Array.ext'
  simpa [Value.cells] using e
end
end Go.Proofs.Ytiphhjipgjpepaa
