/- What becomes of sums where a word is changed: no program in sight. -/
import Derived.Test.YtiphhjipgjpepaaSumMath
set_option linter.unusedVariables false
namespace Go.Proofs.Ytiphhjipgjpepaa

theorem parts_at (p : List Int) (k : Nat) (h : 2 * k + 1 < p.length) : p = p.take (2 * k) ++ [p.getD (2 * k) 0, p.getD (2 * k + 1) 0] ++ p.drop (2 * k + 2) := by
  have e1 : p.drop (2 * k) = p.getD (2 * k) 0 :: p.drop (2 * k + 1) := by
    rw [List.drop_eq_getElem_cons (by omega)]; simp [show 2 * k < p.length by omega]
  have e2 : p.drop (2 * k + 1) = p.getD (2 * k + 1) 0 :: p.drop (2 * k + 2) := by
    rw [List.drop_eq_getElem_cons (by omega)]; simp [h]
  conv => lhs; rw [← List.take_append_drop (2 * k) p, e1, e2]
  simp

def chg (p : List Int) (k : Nat) (x y : Int) : List Int := p.take (2 * k) ++ [x, y] ++ p.drop (2 * k + 2)

theorem chg_length {p : List Int} {k : Nat} (x y : Int) (h : 2 * k + 1 < p.length) : (chg p k x y).length = p.length := by
  simp [chg]; omega

theorem bsum_mid {l r : List Int} (a b : Int) (h : l.length % 2 = 0) : bsum (l ++ [a, b] ++ r) = bsum l + (256 * a + b) + bsum r := by
  rw [bsum_append _ _ (by simp; omega), bsum_append _ _ h]
  simp [bsum]

theorem bsum_chg {p : List Int} {k : Nat} (x y : Int) (h : 2 * k + 1 < p.length) : bsum (chg p k x y) = bsum p - (256 * p.getD (2 * k) 0 + p.getD (2 * k + 1) 0) + (256 * x + y) := by
  have hl : (p.take (2 * k)).length % 2 = 0 := by simp; omega
  have e : bsum p = bsum (p.take (2 * k)) + (256 * p.getD (2 * k) 0 + p.getD (2 * k + 1) 0) + bsum (p.drop (2 * k + 2)) := by
    conv => lhs; rw [parts_at p k h]
    exact bsum_mid _ _ hl
  have e' : bsum (chg p k x y) = bsum (p.take (2 * k)) + (256 * x + y) + bsum (p.drop (2 * k + 2)) := bsum_mid _ _ hl
  rw [e', e]; omega

theorem chg_bytes {p : List Int} {k : Nat} {x y : Int} (hp : Bytes p) (hx : 0 ≤ x ∧ x < 256) (hy : 0 ≤ y ∧ y < 256) : Bytes (chg p k x y) :=
  ((hp.take _).append (fun z hz => by simp at hz; rcases hz with rfl | rfl <;> assumption)).append (hp.drop _)

theorem chg_getD {p : List Int} {k : Nat} {x y : Int} (h : 2 * k + 1 < p.length) (i : Nat) : (chg p k x y).getD i 0 = if i = 2 * k then x else if i = 2 * k + 1 then y else p.getD i 0 := by
  have hl : (p.take (2 * k)).length = 2 * k := by simp; omega
  simp only [chg, List.getD_eq_getElem?_getD, List.append_assoc]
  rw [List.getElem?_append]
  by_cases h1 : i < 2 * k
  · rw [if_pos (by omega), if_neg (by omega), if_neg (by omega)]
    simp [h1]
  · rw [if_neg (by omega), hl]
    by_cases h2 : i = 2 * k
    · subst h2; simp
    · by_cases h3 : i = 2 * k + 1
      · subst h3; rw [if_neg (by omega), if_pos rfl]
        have : 2 * k + 1 - 2 * k = 1 := by omega
        rw [this]; simp
      · rw [if_neg h2, if_neg h3]
        obtain ⟨j, rfl⟩ : ∃ j, i = 2 * k + 2 + j := ⟨i - (2 * k + 2), by omega⟩
        have : 2 * k + 2 + j - 2 * k = j + 2 := by omega
        rw [this]
        simp

/-- A sum of nought is one of noughts. -/
theorem zero_of_bsum : ∀ {l : List Int}, Bytes l → bsum l = 0 → ∀ i, l.getD i 0 = 0
  | [], _, _, i => by simp
  | [a], h, h0, i => by
    have := h a (by simp)
    simp [bsum] at h0
    cases i with
    | zero => simp; omega
    | succ i => simp
  | a :: b :: r, h, h0, i => by
    have h1 := h a (by simp); have h2 := h b (by simp)
    have hr : Bytes r := fun z hz => h z (by simp [hz])
    have := bsum_nonneg hr
    simp only [bsum] at h0
    match i with
    | 0 => simp; omega
    | 1 => simp; omega
    | i + 2 => simpa using zero_of_bsum hr (by omega) i

/-- The checksum behind a change. -/
theorem change_law {P m n : Int} (hP : 0 ≤ P) (hm : 0 ≤ m) (hm' : m < 65536) (hmP : m ≤ P) (hn : 0 ≤ n) (hn' : n < 65536) :
    (65535 - nrm (P - m + n) = 65535 - addc (addc (65535 - (65535 - nrm P)) (65535 - m)) n) ∨ (P - m + n = 0 ∧ 65535 - nrm (P - m + n) = 65535 ∧ 65535 - addc (addc (65535 - (65535 - nrm P)) (65535 - m)) n = 0) := by
  have e1 : 65535 - (65535 - nrm P) = nrm P := by omega
  rw [e1, addc_nrm' hP (by omega) (by omega), addc_nrm' (by omega) hn hn']
  have e2 : P + (65535 - m) + n = P - m + n + 65535 := by omega
  rw [e2]
  by_cases h : P - m + n = 0
  · right; rw [h]; simp [nrm]
  · left
    have : nrm (P - m + n + 65535) = nrm (P - m + n) := by
      unfold nrm
      rw [if_neg (by omega), if_neg (by omega)]
      omega
    rw [this]

/-- Bytes of an even number with their checksum behind them. -/
theorem good_law {p : List Int} (hp : Bytes p) (he : p.length % 2 = 0) : nrm (bsum (p ++ [(65535 - nrm (bsum p)) / 256, (65535 - nrm (bsum p)) % 256])) = 65535 := by
  have h1 := bsum_nonneg hp
  have hb := nrm_bd (bsum p)
  rw [bsum_append _ _ he]
  have e : bsum [(65535 - nrm (bsum p)) / 256, (65535 - nrm (bsum p)) % 256] = 65535 - nrm (bsum p) := by simp [bsum]; omega
  rw [e]
  unfold nrm at *
  split at hb
  · rw [if_neg (by omega), if_pos (by assumption)]; omega
  · rw [if_neg (by omega)]
    rw [if_neg (by assumption)]
    omega

theorem chg_set {p : List Int} {k : Nat} (x y : Int) (h : 2 * k + 1 < p.length) : (p.set (2 * k) x).set (2 * k + 1) y = chg p k x y := by
  refine List.ext_getElem (by rw [chg_length x y h]; simp) fun i h1 h2 => ?_
  have e := chg_getD (x := x) (y := y) h i
  have e2 : (chg p k x y).getD i 0 = (chg p k x y)[i] := by simp [h2]
  rw [← e2, e]
  simp only [List.getElem_set]
  by_cases a : 2 * k + 1 = i
  · subst a; rw [if_pos rfl, if_neg (by omega), if_pos rfl]
  · rw [if_neg a]
    by_cases b : 2 * k = i
    · subst b; rw [if_pos rfl, if_pos rfl]
    · rw [if_neg b, if_neg (by omega), if_neg (by omega)]
      have : i < p.length := by simpa using h1
      simp [this]
end Go.Proofs.Ytiphhjipgjpepaa
