/- Which frames may be: all cases. -/
import Derived.Test.YtiphhjipgjpepaaFrMay
import Derived.Test.YtiphhjipgjpepaaFrRMay
set_option linter.unusedVariables false
set_option linter.unusedSimpArgs false
namespace Go.Proofs.Ytiphhjipgjpepaa
open Go.RowKit

theorem leq0 {m : Nat} (h : m = 0) : ((m : Int) == 0) = true := by subst h; rfl
theorem lne0 {m : Nat} (h : m ≠ 0) : ((m : Int) == 0) = false := by
  rw [beq_eq_false_iff_ne]; omega

set_option maxHeartbeats 1000000 in
theorem may_any (f : Fr) (w : World) (hok : FrOk w f) : Calls Try.prog 10 #[f.val] w fun e w' => e = .returned (.bool (mayF f)) ∧ Grow w w' := by
  have HU0 : ∀ x, Grow w x → Calls Try.prog 29 #[f.v] x fun e w' => (∃ a l d : Int, e = .returned (.tuple #[.agg #[.int .u32 a, .int .i64 l, .int .i64 d], .bool (isU f.zs)])) ∧ Grow x w' := fun x hx => by
    refine (update_any f.v f.zs x (hok.body.mono hx)).mono ?_
    rintro e w' ⟨rfl, hg⟩
    obtain ⟨a, l, d, hu⟩ := updCells3 f.zs
    exact ⟨⟨a, l, d, by unfold updV; rw [hu]⟩, hg⟩
  have key : ∀ b : Bool, mayF f = b → (Calls Try.prog 10 #[f.val] w fun e w' => e = .returned (.bool b) ∧ Grow w w') → Calls Try.prog 10 #[f.val] w fun e w' => e = .returned (.bool (mayF f)) ∧ Grow w w' := fun b hb h => by rw [hb]; exact h
  have no : ¬ MayF f → mayF f = false := fun h => decide_eq_false h
  have yes : MayF f → mayF f = true := fun h => decide_eq_true h
  have hul : isU f.zs = true → f.zs.length = 6 := isU_len
  unfold MayF at no yes
  obtain ⟨k, n, mb, mt, tb, tt, sq, ak, v, zs⟩ := f
  obtain ⟨h1, h2, h3, h4, h5, h6, h7, h8, hb⟩ := hok
  dsimp only at *
  obtain ⟨ao, cap, rfl, hlc, hcm⟩ := hb.shape
  simp only [Fr.val, Fr.cells, frCells] at *
  by_cases n1 : n < 1
  · exact key false (no (fun hm => by have := hm.1; omega)) (may_S1 w hlc hcm n1)
  have n1' : 1 ≤ n := by omega
  by_cases n2 : 16 < n
  · exact key false (no (fun hm => by have := hm.1; omega)) (may_S2 w hlc hcm n1' n2)
  have n2' : n ≤ 16 := by omega
  cases t1 : tagOk mb mt
  · exact key false (no (fun hm => by have := hm.2.1.1; rw [t1] at this; cases this)) (may_S3 w hlc hcm t1 n1' n2')
  cases t2 : tagOk tb tt
  · exact key false (no (fun hm => by have := hm.2.1.2.1; rw [t2] at this; cases this)) (may_S4 w hlc hcm t1 t2 n1' n2')
  cases q1 : noneT mb mt
  case true =>
    refine key false (no (fun hm => by have := hm.2.1.2.2; rw [q1] at this; cases this)) ?_
    have hq : mb = 0 ∧ mt = 0 := of_decide_eq_true q1
    obtain ⟨rfl, rfl⟩ := hq
    exact may_S5 w hlc hcm t1 t2 n1' n2'
  have b1 : ¬ (mb = 0 ∧ mt = 0) := of_decide_eq_false q1
  have b2 : mb = 0 ↔ mt = 0 := of_decide_eq_true t1
  have e1 : (mb == 0) = false := by simp; omega
  have e2 : (mt == 0) = false := by simp; omega
  by_cases k1 : k = 1
  · subst k1
    by_cases s1 : sq = 0
    · subst s1
      by_cases s2 : ak = 0
      · subst s2
        by_cases s3 : zs.length = 0
        · exact key true (yes ⟨⟨n1', n2'⟩, ⟨t1, t2, q1⟩, Or.inl ⟨rfl, rfl, rfl, s3⟩⟩) (may_H4 w hlc hcm t1 t2 n1' n2' e1 e2 (leq0 (by omega)))
        · exact key false (no (fun hm => by rcases hm.2.2 with h | h | h <;> omega)) (may_H3 w hlc hcm t1 t2 n1' n2' e1 e2 (lne0 (by omega)))
      · exact key false (no (fun hm => by rcases hm.2.2 with h | h | h <;> omega)) (may_H2 w hlc hcm t1 t2 n1' n2' e1 e2 (by simpa using s2))
    · exact key false (no (fun hm => by rcases hm.2.2 with h | h | h <;> omega)) (may_H1 w hlc hcm t1 t2 n1' n2' e1 e2 (by simpa using s1))
  by_cases k2 : k = 2
  · subst k2
    cases q2 : noneT tb tt
    case true =>
      refine key false (no (fun hm => by rcases hm.2.2 with h | h | h <;> first | omega | (have g := h.2.1; rw [q2] at g; cases g))) ?_
      have hq : tb = 0 ∧ tt = 0 := of_decide_eq_true q2
      obtain ⟨rfl, rfl⟩ := hq
      exact may_C1 w hlc hcm t1 t2 n1' n2' e1 e2 HU0
    have b3 : ¬ (tb = 0 ∧ tt = 0) := of_decide_eq_false q2
    have b4 : tb = 0 ↔ tt = 0 := of_decide_eq_true t2
    have e3 : (tb == 0) = false := by simp; omega
    have e4 : (tt == 0) = false := by simp; omega
    cases hu : isU zs
    · have HU := HU0
      rw [hu] at HU
      by_cases s3 : zs.length = 0
      · by_cases s1 : sq = 0
        · subst s1
          exact key true (yes ⟨⟨n1', n2'⟩, ⟨t1, t2, q1⟩, Or.inr (Or.inl ⟨rfl, q2, Or.inr ⟨s3, rfl⟩⟩)⟩) (may_C4 w hlc hcm t1 t2 n1' n2' e1 e2 e3 e4 (leq0 (by omega)) HU)
        · exact key false (no (fun hm => by rcases hm.2.2 with h | h | h <;> first | omega | (rcases h.2.2 with g | g <;> first | omega | (have g1 := g.1; rw [hu] at g1; cases g1)))) (may_C5 w hlc hcm t1 t2 n1' n2' e1 e2 e3 e4 (by simpa using s1) (leq0 (by omega)) HU)
      · exact key false (no (fun hm => by rcases hm.2.2 with h | h | h <;> first | omega | (rcases h.2.2 with g | g <;> first | omega | (have g1 := g.1; rw [hu] at g1; cases g1)))) (may_C6 w hlc hcm t1 t2 n1' n2' e1 e2 e3 e4 (lne0 (by omega)) HU)
    · have HU := HU0
      rw [hu] at HU
      have hl6 := hul hu
      by_cases s1 : sq = 0
      · subst s1
        exact key false (no (fun hm => by rcases hm.2.2 with h | h | h <;> first | omega | (rcases h.2.2 with g | g <;> first | omega | exact g.2 rfl))) (may_C3 w hlc hcm t1 t2 n1' n2' e1 e2 e3 e4 (lne0 (by omega)) HU)
      · exact key true (yes ⟨⟨n1', n2'⟩, ⟨t1, t2, q1⟩, Or.inr (Or.inl ⟨rfl, q2, Or.inl ⟨hu, s1⟩⟩)⟩) (may_C2 w hlc hcm t1 t2 n1' n2' e1 e2 e3 e4 (by have := h7.1; omega) HU)
  by_cases k3 : k = 3
  · subst k3
    by_cases s1 : sq = 0
    · subst s1
      by_cases s2 : ak = 0
      · subst s2
        by_cases s3 : zs.length < 1
        · exact key false (no (fun hm => by rcases hm.2.2 with h | h | h <;> omega)) (may_D3 w hlc hcm t1 t2 n1' n2' e1 e2 (by omega))
        · by_cases s4 : 2048 < zs.length
          · exact key false (no (fun hm => by rcases hm.2.2 with h | h | h <;> omega)) (may_D4 w hlc hcm t1 t2 n1' n2' e1 e2 (by omega) (by omega) (by simp; omega))
          · cases q2 : noneT tb tt
            case true =>
              refine key false (no (fun hm => by rcases hm.2.2 with h | h | h <;> first | omega | (have g := h.2.1; rw [q2] at g; cases g))) ?_
              have hq : tb = 0 ∧ tt = 0 := of_decide_eq_true q2
              obtain ⟨rfl, rfl⟩ := hq
              exact may_D5 w hlc hcm t1 t2 n1' n2' e1 e2 (by omega) (by omega) HU0
            have b3 : ¬ (tb = 0 ∧ tt = 0) := of_decide_eq_false q2
            have b4 : tb = 0 ↔ tt = 0 := of_decide_eq_true t2
            exact key true (yes ⟨⟨n1', n2'⟩, ⟨t1, t2, q1⟩, Or.inr (Or.inr ⟨rfl, q2, rfl, rfl, by omega, by omega⟩)⟩) (may_D6 w hlc hcm t1 t2 n1' n2' e1 e2 (by simp; omega) (by simp; omega) (by omega) (by omega) HU0)
      · exact key false (no (fun hm => by rcases hm.2.2 with h | h | h <;> omega)) (may_D2 w hlc hcm t1 t2 n1' n2' e1 e2 (by simpa using s2))
    · exact key false (no (fun hm => by rcases hm.2.2 with h | h | h <;> omega)) (may_D1 w hlc hcm t1 t2 n1' n2' e1 e2 (by simpa using s1))
  · exact key false (no (fun hm => by rcases hm.2.2 with h | h | h <;> omega)) (may_O w hlc hcm t1 t2 n1' n2' e1 e2 (by simpa using k1) (by simpa using k2) (by simpa using k3))

set_option maxHeartbeats 1000000 in
theorem rmay_any (f : Fr) (w : World) (hok : FrOk w f) : Calls Try.prog 11 #[f.val] w fun e w' => e = .returned (.bool (mayF f)) ∧ Grow w w' := by
  have HU0 : ∀ x, Grow w x → Calls Try.prog 30 #[f.v] x fun e w' => (∃ a l d : Int, e = .returned (.tuple #[.agg #[.int .u32 a, .int .i64 l, .int .i64 d], .bool (isU f.zs)])) ∧ Grow x w' := fun x hx => by
    refine (rof_any f.v f.zs x (hok.body.mono hx)).mono ?_
    rintro e w' ⟨rfl, hg⟩
    obtain ⟨a, l, d, hu⟩ := updCells3 f.zs
    exact ⟨⟨a, l, d, by unfold updV; rw [hu]⟩, hg⟩
  have key : ∀ b : Bool, mayF f = b → (Calls Try.prog 11 #[f.val] w fun e w' => e = .returned (.bool b) ∧ Grow w w') → Calls Try.prog 11 #[f.val] w fun e w' => e = .returned (.bool (mayF f)) ∧ Grow w w' := fun b hb h => by rw [hb]; exact h
  have no : ¬ MayF f → mayF f = false := fun h => decide_eq_false h
  have yes : MayF f → mayF f = true := fun h => decide_eq_true h
  have hul : isU f.zs = true → f.zs.length = 6 := isU_len
  unfold MayF at no yes
  obtain ⟨k, n, mb, mt, tb, tt, sq, ak, v, zs⟩ := f
  obtain ⟨h1, h2, h3, h4, h5, h6, h7, h8, hb⟩ := hok
  dsimp only at *
  obtain ⟨ao, cap, rfl, hlc, hcm⟩ := hb.shape
  simp only [Fr.val, Fr.cells, frCells] at *
  by_cases n1 : n < 1
  · exact key false (no (fun hm => by have := hm.1; omega)) (rmay_S1 w hlc hcm n1)
  have n1' : 1 ≤ n := by omega
  by_cases n2 : 16 < n
  · exact key false (no (fun hm => by have := hm.1; omega)) (rmay_S2 w hlc hcm n1' n2)
  have n2' : n ≤ 16 := by omega
  cases t1 : tagOk mb mt
  · exact key false (no (fun hm => by have := hm.2.1.1; rw [t1] at this; cases this)) (rmay_S3 w hlc hcm t1 h3.1 h4.1 n1' n2')
  cases t2 : tagOk tb tt
  · exact key false (no (fun hm => by have := hm.2.1.2.1; rw [t2] at this; cases this)) (rmay_S4 w hlc hcm t1 t2 h3.1 h4.1 h5.1 h6.1 n1' n2')
  cases q1 : noneT mb mt
  case true =>
    refine key false (no (fun hm => by have := hm.2.1.2.2; rw [q1] at this; cases this)) ?_
    exact rmay_S5 w hlc hcm t1 t2 h3.1 h4.1 h5.1 h6.1 n1' n2' q1
  have b1 : ¬ (mb = 0 ∧ mt = 0) := of_decide_eq_false q1
  have b2 : mb = 0 ↔ mt = 0 := of_decide_eq_true t1
  have e1 : (mb == 0) = false := by simp; omega
  have e2 : (mt == 0) = false := by simp; omega
  by_cases k1 : k = 1
  · subst k1
    by_cases s1 : sq = 0
    · subst s1
      by_cases s2 : ak = 0
      · subst s2
        by_cases s3 : zs.length = 0
        · exact key true (yes ⟨⟨n1', n2'⟩, ⟨t1, t2, q1⟩, Or.inl ⟨rfl, rfl, rfl, s3⟩⟩) (rmay_H4 w hlc hcm t1 t2 h3.1 h4.1 h5.1 h6.1 n1' n2' (leq0 (by omega)) q1 HU0)
        · exact key false (no (fun hm => by rcases hm.2.2 with h | h | h <;> omega)) (rmay_H3 w hlc hcm t1 t2 h3.1 h4.1 h5.1 h6.1 n1' n2' (lne0 (by omega)) q1 HU0)
      · exact key false (no (fun hm => by rcases hm.2.2 with h | h | h <;> omega)) (rmay_H2 w hlc hcm t1 t2 h3.1 h4.1 h5.1 h6.1 n1' n2' (by simpa using s2) q1 HU0)
    · exact key false (no (fun hm => by rcases hm.2.2 with h | h | h <;> omega)) (rmay_H1 w hlc hcm t1 t2 h3.1 h4.1 h5.1 h6.1 n1' n2' (by simpa using s1) q1 HU0)
  by_cases k2 : k = 2
  · subst k2
    cases q2 : noneT tb tt
    case true =>
      refine key false (no (fun hm => by rcases hm.2.2 with h | h | h <;> first | omega | (have g := h.2.1; rw [q2] at g; cases g))) ?_
      exact rmay_C1 w hlc hcm t1 t2 h3.1 h4.1 h5.1 h6.1 n1' n2' q1 q2 HU0
    have b3 : ¬ (tb = 0 ∧ tt = 0) := of_decide_eq_false q2
    have b4 : tb = 0 ↔ tt = 0 := of_decide_eq_true t2
    have e3 : (tb == 0) = false := by simp; omega
    have e4 : (tt == 0) = false := by simp; omega
    cases hu : isU zs
    · have HU := HU0
      rw [hu] at HU
      by_cases s3 : zs.length = 0
      · by_cases s1 : sq = 0
        · subst s1
          exact key true (yes ⟨⟨n1', n2'⟩, ⟨t1, t2, q1⟩, Or.inr (Or.inl ⟨rfl, q2, Or.inr ⟨s3, rfl⟩⟩)⟩) (rmay_C4 w hlc hcm t1 t2 h3.1 h4.1 h5.1 h6.1 n1' n2' (leq0 (by omega)) q1 q2 HU)
        · exact key false (no (fun hm => by rcases hm.2.2 with h | h | h <;> first | omega | (rcases h.2.2 with g | g <;> first | omega | (have g1 := g.1; rw [hu] at g1; cases g1)))) (rmay_C5 w hlc hcm t1 t2 h3.1 h4.1 h5.1 h6.1 n1' n2' (by simpa using s1) (leq0 (by omega)) q1 q2 HU)
      · exact key false (no (fun hm => by rcases hm.2.2 with h | h | h <;> first | omega | (rcases h.2.2 with g | g <;> first | omega | (have g1 := g.1; rw [hu] at g1; cases g1)))) (rmay_C6 w hlc hcm t1 t2 h3.1 h4.1 h5.1 h6.1 n1' n2' (lne0 (by omega)) q1 q2 HU)
    · have HU := HU0
      rw [hu] at HU
      have hl6 := hul hu
      by_cases s1 : sq = 0
      · subst s1
        exact key false (no (fun hm => by rcases hm.2.2 with h | h | h <;> first | omega | (rcases h.2.2 with g | g <;> first | omega | exact g.2 rfl))) (rmay_C3 w hlc hcm t1 t2 h3.1 h4.1 h5.1 h6.1 n1' n2' (lne0 (by omega)) q1 q2 HU)
      · exact key true (yes ⟨⟨n1', n2'⟩, ⟨t1, t2, q1⟩, Or.inr (Or.inl ⟨rfl, q2, Or.inl ⟨hu, s1⟩⟩)⟩) (rmay_C2 w hlc hcm t1 t2 h3.1 h4.1 h5.1 h6.1 n1' n2' (by simpa using s1) (by simpa using s1) q1 q2 HU)
  by_cases k3 : k = 3
  · subst k3
    cases q2 : noneT tb tt
    case true =>
      refine key false (no (fun hm => by rcases hm.2.2 with h | h | h <;> first | omega | (have g := h.2.1; rw [q2] at g; cases g))) ?_
      exact rmay_D5 w hlc hcm t1 t2 h3.1 h4.1 h5.1 h6.1 n1' n2' q1 q2 HU0
    by_cases s1 : sq = 0
    · subst s1
      by_cases s2 : ak = 0
      · subst s2
        by_cases s3 : zs.length < 1
        · exact key false (no (fun hm => by rcases hm.2.2 with h | h | h <;> omega)) (rmay_D3 w hlc hcm t1 t2 h3.1 h4.1 h5.1 h6.1 n1' n2' (by omega) (decide_eq_false (by omega)) q1 q2 HU0)
        · by_cases s4 : 2048 < zs.length
          · exact key false (no (fun hm => by rcases hm.2.2 with h | h | h <;> omega)) (rmay_D4 w hlc hcm t1 t2 h3.1 h4.1 h5.1 h6.1 n1' n2' (by omega) (by omega) (by simp; omega) q1 q2 HU0)
          · exact key true (yes ⟨⟨n1', n2'⟩, ⟨t1, t2, q1⟩, Or.inr (Or.inr ⟨rfl, q2, rfl, rfl, by omega, by omega⟩)⟩) (rmay_D6 w hlc hcm t1 t2 h3.1 h4.1 h5.1 h6.1 n1' n2' (by omega) (by omega) q1 q2 HU0)
      · exact key false (no (fun hm => by rcases hm.2.2 with h | h | h <;> omega)) (rmay_D2 w hlc hcm t1 t2 h3.1 h4.1 h5.1 h6.1 n1' n2' (by simpa using s2) q1 q2 HU0)
    · exact key false (no (fun hm => by rcases hm.2.2 with h | h | h <;> omega)) (rmay_D1 w hlc hcm t1 t2 h3.1 h4.1 h5.1 h6.1 n1' n2' (by simpa using s1) q1 q2 HU0)
  · exact key false (no (fun hm => by rcases hm.2.2 with h | h | h <;> omega)) (rmay_O w hlc hcm t1 t2 h3.1 h4.1 h5.1 h6.1 n1' n2' (by simpa using k1) (by simpa using k2) (by simpa using k3) q1 HU0)
end Go.Proofs.Ytiphhjipgjpepaa
