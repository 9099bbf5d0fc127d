/- Two frames that are the same, as the document has it; which bytes are no frame's. -/
import Derived.Test.YtiphhjipgjpepaaFrMath
set_option linter.unusedVariables false
set_option linter.unusedSimpArgs false
namespace Go.Proofs.Ytiphhjipgjpepaa
open Go.RowKit

set_option maxHeartbeats 1000000 in
theorem rsame_true (kd nd mb mt tb tt sq ak : Int) {v1 v2 : Value} {zs : List Int} {w : World} (h1 : BytesV w v1 zs) (h2 : BytesV w v2 zs) :
    Calls Try.prog 16 #[.agg #[.int .i64 kd, .int .i64 nd, .int .u64 mb, .int .u64 mt, .int .u64 tb, .int .u64 tt, .int .u64 sq, .int .u64 ak, v1], .agg #[.int .i64 kd, .int .i64 nd, .int .u64 mb, .int .u64 mt, .int .u64 tb, .int .u64 tt, .int .u64 sq, .int .u64 ak, v2]] w fun e w' => e = .returned (.bool true) ∧ Grow w w' := by
  have hg : Grow w ((w.alloc (.cells #[.int .i64 kd, .int .i64 nd, .int .u64 mb, .int .u64 mt, .int .u64 tb, .int .u64 tt, .int .u64 sq, .int .u64 ak, v1] 28)).alloc (.cells #[.int .i64 kd, .int .i64 nd, .int .u64 mb, .int .u64 mt, .int .u64 tb, .int .u64 tt, .int .u64 sq, .int .u64 ak, v2] 28)) := ((Grow.refl w).alloc _).alloc _
  have c1 := str_of (h1.mono hg)
  have c2 := str_of (h2.mono hg)
  have HG := Lib.hid hg
  obtain ⟨a1, p1, rfl, _, _⟩ := h1.shape
  obtain ⟨a2, p2, rfl, _, _⟩ := h2.shape
  clear hg h1 h2
  generalize strOfNums zs = s at *
  generalize zs.length = m at *
  go_enter Try.func16, Try.ntmps16
  go_wp2_with fail
  go_ret
  exact ⟨by first | rfl | simp, HG.out⟩

theorem not_ok_cut {f : Fr} (hm : mayF f = true) (h64 : U64 f.mb ∧ U64 f.mt ∧ U64 f.tb ∧ U64 f.tt ∧ U64 f.sq ∧ U64 f.ak) : ¬ okF ((frB f).take (53 + f.zs.length)) := by
  intro h
  have h0 := okF_len (okF_frB hm h64)
  have h1 := okF_len h
  have hl := frB_length f
  have hlt : ((frB f).take (53 + f.zs.length)).length = 53 + f.zs.length := by rw [List.length_take]; omega
  have h2 := h.1
  rw [hlt] at h1 h2
  have e : ∀ k, k < 53 + f.zs.length → ((frB f).take (53 + f.zs.length)).getD k 0 = (frB f).getD k 0 := fun k hk => by
    simp only [List.getD_eq_getElem?_getD]; rw [List.getElem?_take_of_lt hk]
  rw [e 50 (by omega), e 51 (by omega)] at h1
  omega
theorem not_ok_more {f : Fr} (hm : mayF f = true) (h64 : U64 f.mb ∧ U64 f.mt ∧ U64 f.tb ∧ U64 f.tt ∧ U64 f.sq ∧ U64 f.ak) (x : Int) : ¬ okF (frB f ++ [x]) := by
  intro h
  have h0 := okF_len (okF_frB hm h64)
  have h1 := okF_len h
  have hl := frB_length f
  rw [List.length_append] at h1
  have e : ∀ k, k < 54 → (frB f ++ [x]).getD k 0 = (frB f).getD k 0 := fun k hk => by
    simp only [List.getD_eq_getElem?_getD]; rw [List.getElem?_append_left (by omega)]
  rw [e 50 (by omega), e 51 (by omega)] at h1
  simp only [List.length_cons, List.length_nil] at h1
  omega
theorem nrm_top {s : Int} (h0 : 0 ≤ s) (h : nrm s = 65535) : s % 65535 = 0 := by
  unfold nrm at h
  split at h <;> omega
theorem not_ok_chg {zs : List Int} (hb : Bytes zs) (hs : nrm (bsum zs) = 65535) {k : Nat} (hk : 2 * k + 1 < zs.length) {hi lo : Int} (h1 : 0 ≤ hi ∧ hi < 256) (h2 : 0 ≤ lo ∧ lo < 256)
    (hne : (256 * zs.getD (2 * k) 0 + zs.getD (2 * k + 1) 0) % 65535 ≠ (256 * hi + lo) % 65535) : ¬ okF (chg zs k hi lo) := by
  intro h
  have hb2 := chg_bytes (k := k) hb h1 h2
  have e1 := nrm_top (bsum_nonneg hb) hs
  have e2 := nrm_top (bsum_nonneg hb2) (okF_sum hb2 h)
  rw [bsum_chg hi lo hk] at e2
  have := hb.getD (2 * k)
  have := hb.getD (2 * k + 1)
  omega
end Go.Proofs.Ytiphhjipgjpepaa
