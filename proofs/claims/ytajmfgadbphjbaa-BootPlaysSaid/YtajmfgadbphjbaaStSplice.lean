/- A Write that may be, as a splice; what make makes of bytes. -/
import Derived.Test.YtajmfgadbphjbaaStMine
import Derived.Laws.CopyOwn
import Derived.OwnWalk
set_option linter.unusedVariables false
namespace Go.Proofs.Ytajmfgadbphjbaa
open Go.RowKit

theorem wrote_splice (bs : List Int) : ∀ (zs : List Int) (k : Nat), k + bs.length ≤ zs.length → wrote ⟨zs.map (fun z => (z, false)), -1, 0, false, false⟩ k bs = ⟨(splice zs k bs).map (fun z => (z, false)), -1, 0, false, false⟩ := by
  induction bs with
  | nil => intro zs k h; simp [wrote, splice]
  | cons b r ih =>
    intro zs k h
    have h' : k + (r.length + 1) ≤ zs.length := by simpa using h
    have e : wrote ⟨zs.map (fun z => (z, false)), -1, 0, false, false⟩ k (b :: r) = wrote ⟨(zs.set k b).map (fun z => (z, false)), -1, 0, false, false⟩ (k + 1) r := by
      rw [wrote, if_neg (by show ¬ (-1 : Int) = 0; omega)]
      congr 1
      simp [St.put1, List.map_set]
    rw [e, ih (zs.set k b) (k + 1) (by simp; omega)]
    have hk : k < zs.length := by omega
    have e1 : (zs.set k b).take (k + 1) = zs.take k ++ [b] := by
      rw [List.take_succ_eq_append_getElem (by simpa using hk)]
      simp [List.take_set_of_le (Nat.le_refl k)]
    have e2 : (zs.set k b).drop (k + 1 + r.length) = zs.drop (k + (r.length + 1)) := by
      rw [List.drop_set_of_lt (by omega)]; congr 1; omega
    have e3 : splice (zs.set k b) (k + 1) r = splice zs k (b :: r) := by
      unfold splice
      rw [e1, e2, List.length_cons]
      simp
    rw [e3]

theorem made_bytes (n : Nat) : (madeCells #[Value.int .u8 0] n).toList = (List.replicate n (0 : Int)).map (Value.int .u8) := by
  refine List.ext_getElem? fun i => ?_
  by_cases hi : i < n
  · simp [madeCells, hi, Nat.mod_one]
  · rw [List.getElem?_eq_none (by simp [madeCells]; omega), List.getElem?_eq_none (by simp; omega)]

theorem row_of_made {w2 : World} {base B m : Nat} (ho : w2.ownsRow base 5 1 (.slice (some ⟨B, 0, none⟩) m m) m (madeCells #[Value.int .u8 0] m).toList) :
    w2.heap[B]? = some (.cells ((List.replicate m (0 : Int)).map (Value.int .u8)).toArray 5 (0, 0)) := by
  rcases ho.2 with ⟨h', _⟩ | ⟨g', cap', cur, h', _, hg, _, _, hcs, htake⟩
  · simp at h'
  · simp only [Value.slice.injEq, Option.some.injEq, Addr.mk.injEq, and_true, true_and] at h'
    obtain ⟨rfl, rfl⟩ := h'
    rw [hg]
    have : cur = ((List.replicate m (0 : Int)).map (Value.int .u8)).toArray := by
      apply Array.ext'
      rw [← made_bytes, ← htake, List.take_of_length_le (by rw [Array.length_toList]; omega)]
    rw [this]

end Go.Proofs.Ytajmfgadbphjbaa
