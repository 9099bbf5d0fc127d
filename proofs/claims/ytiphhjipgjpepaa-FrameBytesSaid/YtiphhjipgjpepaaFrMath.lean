/- Which bytes are a frame's: plain arithmetic. -/
import Derived.Test.YtiphhjipgjpepaaFrKnown
import Derived.Test.YtiphhjipgjpepaaSumChange
set_option linter.unusedVariables false
set_option linter.unusedSimpArgs false
namespace Go.Proofs.Ytiphhjipgjpepaa
open Go.RowKit

theorem be2_eq (n : Int) : be2 n = [n / 256 % 256, n % 256] := by
  simp [be2, List.range, List.range.loop]
theorem hdB_eq (f : Fr) : hdB f = [f.kind % 256, f.node % 256] ++ be8 f.mb ++ be8 f.mt ++ be8 f.tb ++ be8 f.tt ++ be8 f.sq ++ be8 f.ak ++ be2 f.zs.length := by
  unfold hdB hdTo Fr.nums
  simp

/-- The words' sum with the checksum in its place. -/
theorem nrm_fix {S : Int} (h : 0 ≤ S) : nrm (S + (65535 - nrm S)) = 65535 := by
  unfold nrm
  split <;> split <;> omega
theorem bsum_frB (f : Fr) (h : Bytes f.zs) : nrm (bsum (frB f)) = 65535 := by
  have hb := chkF_bd f
  have hl : (hdB f).length % 2 = 0 := by rw [hdB_length]
  have e0 : hdB f ++ ([0, 0] ++ f.zs) = hdB f ++ [0, 0] ++ f.zs := by simp
  have e1 : bsum (frB f) = bsum (hdB f ++ ([0, 0] ++ f.zs)) + chkF f := by
    unfold frB
    rw [be2_eq, e0, bsum_mid _ _ hl, bsum_mid _ _ hl]
    omega
  have hS : 0 ≤ bsum (hdB f ++ ([0, 0] ++ f.zs)) := bsum_nonneg (by
    rw [e0]
    exact ((hdB_bytes f).append (by unfold Bytes; decide)).append h)
  rw [e1, chkF]
  exact nrm_fix hS
theorem okF_sum {zs : List Int} (hb : Bytes zs) (h : okF zs) : nrm (bsum zs) = 65535 := by
  have := bsum_frB (ofF zs (.slice none 0 0)) (hb.drop 54)
  rwa [h.2.2] at this
theorem okF_len {zs : List Int} (h : okF zs) : 256 * zs.getD 50 0 + zs.getD 51 0 = zs.length - 54 := by
  have hl := may_len h.2.1
  have e := h.2.2
  have hlen : (ofF zs (.slice none 0 0)).zs.length = zs.length - 54 := List.length_drop ..
  have q : ∀ k, k < 52 → (frB (ofF zs (.slice none 0 0))).getD k 0 = (hdB (ofF zs (.slice none 0 0))).getD k 0 := fun k hk => by
    unfold frB
    rw [List.append_assoc]
    simp only [List.getD_eq_getElem?_getD]
    rw [List.getElem?_append_left (by rw [hdB_length]; exact hk)]
  have q2 : ∀ k, k < 2 → (hdB (ofF zs (.slice none 0 0))).getD (50 + k) 0 = (be2 ((ofF zs (.slice none 0 0)).zs.length : Int)).getD k 0 := fun k hk => by
    unfold hdB
    simp only [List.getD_eq_getElem?_getD]
    rw [List.getElem?_append_right (by rw [hdTo_length]; show 2 + 8 * 6 ≤ _; omega), hdTo_length]
    congr 2
    show 50 + k - (2 + 8 * 6) = k
    omega
  have h50 := (q 50 (by omega)).trans (q2 0 (by omega))
  have h51 := (q 51 (by omega)).trans (q2 1 (by omega))
  rw [e, be2_eq] at h50 h51
  simp only [List.getD_cons_zero, List.getD_cons_succ] at h50 h51
  rw [hlen] at h50 h51 hl
  have := h.1
  omega

/-- The head read again. -/
theorem ofF_frB {f : Fr} (hm : MayF f) (hok1 : U64 f.mb ∧ U64 f.mt ∧ U64 f.tb ∧ U64 f.tt ∧ U64 f.sq ∧ U64 f.ak) (u : Value) : ofF (frB f) u = { f with v := u } := by
  obtain ⟨kd, nd, mb, mt, tb, tt, sq, ak, v, zs⟩ := f
  obtain ⟨h1, h2, h3, h4, h5, h6⟩ := hok1
  have hk : 1 ≤ kd ∧ kd ≤ 3 := by rcases hm.2.2 with h | h | h <;> (have := h.1; dsimp only at this; omega)
  have hn := hm.1
  dsimp only at *
  have eb : frB ⟨kd, nd, mb, mt, tb, tt, sq, ak, v, zs⟩ = [kd % 256, nd % 256] ++ (be8 mb ++ (be8 mt ++ (be8 tb ++ (be8 tt ++ (be8 sq ++ (be8 ak ++ (be2 zs.length ++ (be2 (chkF ⟨kd, nd, mb, mt, tb, tt, sq, ak, v, zs⟩) ++ zs)))))))) := by
    unfold frB; rw [hdB_eq]; simp
  generalize chkF ⟨kd, nd, mb, mt, tb, tt, sq, ak, v, zs⟩ = ck at eb
  have skip : ∀ (a : List Int) (n : Nat) (r : List Int), a.length = n → ∀ k, (a ++ r).drop (n + k) = r.drop k := fun a n r h k => by
    subst h; rw [List.drop_append, List.drop_eq_nil_iff.2 (by omega)]; simp
  have q : ∀ (n : Int) (r : List Int), U64 n → num8 (be8 n ++ r) 0 = n := fun n r h => by
    unfold num8
    rw [List.drop_zero, List.take_append_of_le_length (by rw [be8_length]; omega), List.take_of_length_le (by rw [be8_length]; omega), beN_be8 h]
  have s : ∀ (a : List Int) (n k : Nat) (r : List Int), a.length = n → num8 (a ++ r) (n + k) = num8 r k := fun a n k r h => by
    unfold num8; rw [skip a n r h k]
  unfold ofF
  rw [eb]
  have l8 : ∀ n : Int, (be8 n).length = 8 := be8_length
  rw [Fr.mk.injEq]
  refine ⟨by simp; omega, by simp; omega, ?_, ?_, ?_, ?_, ?_, ?_, rfl, ?_⟩
  · rw [s _ 2 0 _ rfl, q _ _ h1]
  · rw [s _ 2 8 _ rfl, s _ 8 0 _ (l8 _), q _ _ h2]
  · rw [s _ 2 16 _ rfl, s _ 8 8 _ (l8 _), s _ 8 0 _ (l8 _), q _ _ h3]
  · rw [s _ 2 24 _ rfl, s _ 8 16 _ (l8 _), s _ 8 8 _ (l8 _), s _ 8 0 _ (l8 _), q _ _ h4]
  · rw [s _ 2 32 _ rfl, s _ 8 24 _ (l8 _), s _ 8 16 _ (l8 _), s _ 8 8 _ (l8 _), s _ 8 0 _ (l8 _), q _ _ h5]
  · rw [s _ 2 40 _ rfl, s _ 8 32 _ (l8 _), s _ 8 24 _ (l8 _), s _ 8 16 _ (l8 _), s _ 8 8 _ (l8 _), s _ 8 0 _ (l8 _), q _ _ h6]
  · rw [skip _ 2 _ rfl 52, skip _ 8 _ (l8 _) 44, skip _ 8 _ (l8 _) 36, skip _ 8 _ (l8 _) 28, skip _ 8 _ (l8 _) 20, skip _ 8 _ (l8 _) 12, skip _ 8 _ (l8 _) 4, skip _ 2 _ (be2_length _) 2, skip _ 2 _ (be2_length _) 0, List.drop_zero]
theorem okF_frB {f : Fr} (hm : mayF f = true) (hok1 : U64 f.mb ∧ U64 f.mt ∧ U64 f.tb ∧ U64 f.tt ∧ U64 f.sq ∧ U64 f.ak) : okF (frB f) := by
  have e := ofF_frB (of_decide_eq_true hm) hok1 (.slice none 0 0)
  refine ⟨by rw [frB_length]; omega, ?_, ?_⟩
  · rw [e]; exact hm
  · rw [e]; rfl
end Go.Proofs.Ytiphhjipgjpepaa
