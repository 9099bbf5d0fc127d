/- What a session's frame is, the document's way: all cases. -/
import Derived.Test.YtiphhjipgjpepaaFrRSes
set_option linter.unusedVariables false
set_option linter.unusedSimpArgs false
namespace Go.Proofs.Ytiphhjipgjpepaa
open Go.RowKit

theorem rses_any (f : Fr) (a b c d : Int) (w : World) (hok : FrOk w f) : Calls Try.prog 25 #[f.val, .agg #[.int .u64 a, .int .u64 b], .agg #[.int .u64 c, .int .u64 d]] w fun e w' => e = .returned (.bool (sesF f a b c d)) ∧ Grow w w' := by
  have HM : ∀ x, Grow w x → Calls Try.prog 11 #[f.val] x fun e w' => e = .returned (.bool (mayF f)) ∧ Grow x w' := fun x hx => rmay_any f x (hok.mono hx)
  have key : ∀ r : Bool, sesF f a b c d = r → (Calls Try.prog 25 #[f.val, .agg #[.int .u64 a, .int .u64 b], .agg #[.int .u64 c, .int .u64 d]] w fun e w' => e = .returned (.bool r) ∧ Grow w w') → Calls Try.prog 25 #[f.val, .agg #[.int .u64 a, .int .u64 b], .agg #[.int .u64 c, .int .u64 d]] w fun e w' => e = .returned (.bool (sesF f a b c d)) ∧ Grow w w' := fun r hr h => by rw [hr]; exact h
  have no : ¬ SesF f a b c d → sesF f a b c d = false := fun h => decide_eq_false h
  have yes : SesF f a b c d → sesF f a b c d = true := fun h => decide_eq_true h
  unfold SesF at no yes
  generalize sesF f a b c d = R at *
  obtain ⟨ao, cap, hv, hlc, hcm⟩ := hok.body.shape
  clear hok
  generalize mayF f = M at *
  obtain ⟨k, n, mb, mt, tb, tt, sq, ak, v, zs⟩ := f
  dsimp only at *
  subst hv
  simp only [Fr.val, Fr.cells, frCells] at *
  generalize zs.length = m at *
  cases M
  · exact key false (no (fun h => by cases h.1)) (rses_N0 w hlc hcm HM)
  by_cases k1 : k = 1
  · subst k1
    exact key false (no (fun h => h.2.1 rfl)) (rses_N1 w hlc hcm HM)
  have hk : (k != 1) = true := by simpa using k1
  have fin : ∀ x y : Int, x ≠ y → (x == y) = false := fun x y h => by simpa using h
  by_cases ab : a = 0 ∧ b = 0
  · exact key false (no (fun h => h.2.2.1 ab)) (rses_N2 w hlc hcm HM (decide_eq_true ab) hk)
  have q1 : noneT a b = false := decide_eq_false ab
  by_cases cd : c = 0 ∧ d = 0
  · exact key false (no (fun h => h.2.2.2.1 cd)) (rses_N3 w hlc hcm HM q1 (decide_eq_true cd) hk)
  have q2 : noneT c d = false := decide_eq_false cd
  by_cases e1 : mb = c
  · subst e1
    by_cases e2 : mt = d
    · subst e2
      by_cases e3 : tb = a
      · subst e3
        by_cases e4 : tt = b
        · subst e4
          exact key true (yes ⟨rfl, k1, ab, cd, rfl, rfl, rfl, rfl⟩) (rses_e w hlc hcm HM q1 q2 hk)
        · exact key false (no (fun h => e4 h.2.2.2.2.2.2.2)) (rses_d w hlc hcm HM q1 q2 hk (fin _ _ e4))
      · exact key false (no (fun h => e3 h.2.2.2.2.2.2.1)) (rses_c w hlc hcm HM q1 q2 hk (fin _ _ e3))
    · exact key false (no (fun h => e2 h.2.2.2.2.2.1)) (rses_b w hlc hcm HM q1 q2 hk (fin _ _ e2))
  · exact key false (no (fun h => e1 h.2.2.2.2.1)) (rses_a w hlc hcm HM q1 q2 hk (fin _ _ e1))
end Go.Proofs.Ytiphhjipgjpepaa
