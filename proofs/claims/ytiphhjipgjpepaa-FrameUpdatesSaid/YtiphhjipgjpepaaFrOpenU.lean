/- Updates that come in. -/
import Derived.Test.YtiphhjipgjpepaaFrOpen
set_option linter.unusedVariables false
namespace Go.Proofs.Ytiphhjipgjpepaa
open Go.ChangeShapes Go.WideShapes Go.ChangeAt Go.RowKit Go.Deep

theorem wf_u32 {n : Int} (h : (Lit.int .u32 n).wf = true) : 0 ≤ n ∧ n < 4294967296 := by
  have h : 0 ≤ n ∧ n ≤ 4294967295 := by simpa [Lit.wf, IntKind.min, IntKind.max, IntKind.signed, IntKind.bits] using h
  omega

section
variable {H : Type} {enc : TypeId × Value → H} {w : World} {base : Nat}

theorem upd_of_trod {n : Nat} {cs : List Value} {x : DataW H × List MemPlace} (h : DataW.trod enc Try.prog w 0 (fun _ => true) true n 52 cs = some x) :
    ∃ a l d : Int, cs = [.int .u32 a, .int .i64 l, .int .i64 d] ∧ (0 ≤ a ∧ a < 4294967296) ∧ I64 l ∧ I64 d := by
  obtain ⟨xs, m, _, _, hl, hx, hf⟩ := DataW.trod_struct Try.underlying52 h
  have hl3 : cs.length = 3 := hl.trans (by kernel_rfl)
  match cs, hl3 with
  | [c0, c1, c2], _ =>
    match xs, hx with
    | [y0, y1], _ =>
      have k3 : Try.prog.cellsOf 3 = 1 := by kernel_rfl
      have kP : Try.prog.cellsOf 50 = 2 := by kernel_rfl
      have f0 : DataW.trod enc Try.prog w 0 (fun _ => true) true m 50 [c0, c1] = some y0 := by have h := hf 0 _ rfl; simpa [k3, kP] using h
      have f1 : DataW.trod enc Try.prog w 0 (fun _ => true) true m 3 [c2] = some y1 := by have h := hf 1 _ rfl; simpa [k3, kP] using h
      obtain ⟨xs', m', _, _, hl', hx', hf'⟩ := DataW.trod_struct Try.underlying50 f0
      match xs', hx' with
      | [z0, z1], _ =>
        have kA : Try.prog.cellsOf 48 = 1 := by kernel_rfl
        have g0 : DataW.trod enc Try.prog w 0 (fun _ => true) true m' 48 [c0] = some z0 := by have h := hf' 0 _ rfl; simpa [k3, kA] using h
        have g1 : DataW.trod enc Try.prog w 0 (fun _ => true) true m' 3 [c1] = some z1 := by have h := hf' 1 _ rfl; simpa [k3, kA] using h
        obtain ⟨a0, e0, _, w0⟩ := DataW.trod_int Try.underlying48 g0
        obtain ⟨a1, e1, _, w1⟩ := DataW.trod_int Try.underlying3 g1
        obtain ⟨a2, e2, _, w2⟩ := DataW.trod_int Try.underlying3 f1
        simp at e0 e1 e2
        subst e0 e1 e2
        exact ⟨a0, a1, a2, rfl, wf_u32 w0, wf_i64 w1, wf_i64 w2⟩

theorem open_upd {v : Value} {d : DataW H} {p : List MemPlace} (hv : Value.okWide Try.prog w .any base 52 v) (h : DataW.Trod enc Try.prog w 0 (fun _ => true) true 52 v d p) :
    ∃ a l d : Int, v = .agg #[.int .u32 a, .int .i64 l, .int .i64 d] ∧ (0 ≤ a ∧ a < 4294967296) ∧ I64 l ∧ I64 d := by
  obtain ⟨cs, rfl, hsz⟩ := okWide_struct Try.underlying52 hv
  obtain ⟨fuel, hf⟩ := h
  obtain ⟨a, l, d, e, u1, u2, u3⟩ := upd_of_trod hf
  refine ⟨a, l, d, ?_, u1, u2, u3⟩
  congr 1
  apply Array.ext'
  simpa [Value.cells] using e
end
end Go.Proofs.Ytiphhjipgjpepaa
