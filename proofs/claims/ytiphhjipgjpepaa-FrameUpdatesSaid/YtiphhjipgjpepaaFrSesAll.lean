/- What a session's frame is: all cases. -/
import Derived.Test.YtiphhjipgjpepaaFrSes
set_option linter.unusedVariables false
set_option linter.unusedSimpArgs false
namespace Go.Proofs.Ytiphhjipgjpepaa
open Go.RowKit

def SesF (f : Fr) (a b c d : Int) : Prop := mayF f = true ∧ f.kind ≠ 1 ∧ ¬ (a = 0 ∧ b = 0) ∧ ¬ (c = 0 ∧ d = 0) ∧ f.mb = c ∧ f.mt = d ∧ f.tb = a ∧ f.tt = b
instance (f : Fr) (a b c d : Int) : Decidable (SesF f a b c d) := by unfold SesF; infer_instance
def sesF (f : Fr) (a b c d : Int) : Bool := decide (SesF f a b c d)

theorem ses_any (f : Fr) (a b c d : Int) (w : World) (hok : FrOk w f) : Calls Try.prog 17 #[f.val, .agg #[.int .u64 a, .int .u64 b], .agg #[.int .u64 c, .int .u64 d]] w fun e w' => e = .returned (.bool (sesF f a b c d)) ∧ Grow w w' := by
  have HM : ∀ x, Grow w x → Calls Try.prog 10 #[f.val] x fun e w' => e = .returned (.bool (mayF f)) ∧ Grow x w' := fun x hx => may_any f x (hok.mono hx)
  have key : ∀ r : Bool, sesF f a b c d = r → (Calls Try.prog 17 #[f.val, .agg #[.int .u64 a, .int .u64 b], .agg #[.int .u64 c, .int .u64 d]] w fun e w' => e = .returned (.bool r) ∧ Grow w w') → Calls Try.prog 17 #[f.val, .agg #[.int .u64 a, .int .u64 b], .agg #[.int .u64 c, .int .u64 d]] w fun e w' => e = .returned (.bool (sesF f a b c d)) ∧ Grow w w' := fun r hr h => by rw [hr]; exact h
  have no : ¬ SesF f a b c d → sesF f a b c d = false := fun h => decide_eq_false h
  have yes : SesF f a b c d → sesF f a b c d = true := fun h => decide_eq_true h
  unfold SesF at no yes
  generalize sesF f a b c d = R at *
  obtain ⟨ao, cap, hv, hlc, hcm⟩ := hok.body.shape
  clear hok
  generalize mayF f = M at *
  obtain ⟨k, n, mb, mt, tb, tt, sq, ak, v, zs⟩ := f
  dsimp only at *
  subst hv
  simp only [Fr.val, Fr.cells, frCells] at *
  generalize zs.length = m at *
  cases M
  · exact key false (no (fun h => by cases h.1)) (ses_N0 w hlc hcm HM)
  by_cases k1 : k = 1
  · subst k1
    exact key false (no (fun h => h.2.1 rfl)) (ses_N1 w hlc hcm HM)
  have hk : (k != 1) = true := by simpa using k1
  have fin : ∀ x y : Int, x ≠ y → (x == y) = false := fun x y h => by simpa using h
  by_cases ab : a = 0 ∧ b = 0
  · obtain ⟨rfl, rfl⟩ := ab
    exact key false (no (fun h => h.2.2.1 ⟨rfl, rfl⟩)) (ses_N2 w hlc hcm HM hk)
  by_cases cd : c = 0 ∧ d = 0
  · obtain ⟨rfl, rfl⟩ := cd
    refine key false (no (fun h => h.2.2.2.1 ⟨rfl, rfl⟩)) ?_
    by_cases a0 : a = 0
    · subst a0
      exact ses_M2N w hlc hcm HM hk (fin _ _ (fun h => ab ⟨rfl, h⟩))
    · exact ses_M1N w hlc hcm HM hk (fin _ _ a0)
  by_cases a0 : a = 0
  · subst a0
    have hA := fin b 0 (fun h => ab ⟨rfl, h⟩)
    by_cases c0 : c = 0
    · subst c0
      have hC := fin d 0 (fun h => cd ⟨rfl, h⟩)
      by_cases e1 : mb = 0
      · subst e1
        by_cases e2 : mt = d
        · subst e2
          by_cases e3 : tb = 0
          · subst e3
            by_cases e4 : tt = b
            · subst e4
              exact key true (yes ⟨rfl, k1, ab, cd, rfl, rfl, rfl, rfl⟩) (ses_M2T2e w hlc hcm HM hk hA hC)
            · exact key false (no (fun h => e4 h.2.2.2.2.2.2.2)) (ses_M2T2d w hlc hcm HM hk hA hC (fin _ _ e4))
          · exact key false (no (fun h => e3 h.2.2.2.2.2.2.1)) (ses_M2T2c w hlc hcm HM hk hA hC (fin _ _ e3))
        · exact key false (no (fun h => e2 h.2.2.2.2.2.1)) (ses_M2T2b w hlc hcm HM hk hA hC (fin _ _ e2))
      · exact key false (no (fun h => e1 h.2.2.2.2.1)) (ses_M2T2a w hlc hcm HM hk hA hC (fin _ _ e1))
    · have hC := fin c 0 c0
      by_cases e1 : mb = c
      · subst e1
        by_cases e2 : mt = d
        · subst e2
          by_cases e3 : tb = 0
          · subst e3
            by_cases e4 : tt = b
            · subst e4
              exact key true (yes ⟨rfl, k1, ab, cd, rfl, rfl, rfl, rfl⟩) (ses_M2T1e w hlc hcm HM hk hA hC)
            · exact key false (no (fun h => e4 h.2.2.2.2.2.2.2)) (ses_M2T1d w hlc hcm HM hk hA hC (fin _ _ e4))
          · exact key false (no (fun h => e3 h.2.2.2.2.2.2.1)) (ses_M2T1c w hlc hcm HM hk hA hC (fin _ _ e3))
        · exact key false (no (fun h => e2 h.2.2.2.2.2.1)) (ses_M2T1b w hlc hcm HM hk hA hC (fin _ _ e2))
      · exact key false (no (fun h => e1 h.2.2.2.2.1)) (ses_M2T1a w hlc hcm HM hk hA hC (fin _ _ e1))
  · have hA := fin a 0 a0
    by_cases c0 : c = 0
    · subst c0
      have hC := fin d 0 (fun h => cd ⟨rfl, h⟩)
      by_cases e1 : mb = 0
      · subst e1
        by_cases e2 : mt = d
        · subst e2
          by_cases e3 : tb = a
          · subst e3
            by_cases e4 : tt = b
            · subst e4
              exact key true (yes ⟨rfl, k1, ab, cd, rfl, rfl, rfl, rfl⟩) (ses_M1T2e w hlc hcm HM hk hA hC)
            · exact key false (no (fun h => e4 h.2.2.2.2.2.2.2)) (ses_M1T2d w hlc hcm HM hk hA hC (fin _ _ e4))
          · exact key false (no (fun h => e3 h.2.2.2.2.2.2.1)) (ses_M1T2c w hlc hcm HM hk hA hC (fin _ _ e3))
        · exact key false (no (fun h => e2 h.2.2.2.2.2.1)) (ses_M1T2b w hlc hcm HM hk hA hC (fin _ _ e2))
      · exact key false (no (fun h => e1 h.2.2.2.2.1)) (ses_M1T2a w hlc hcm HM hk hA hC (fin _ _ e1))
    · have hC := fin c 0 c0
      by_cases e1 : mb = c
      · subst e1
        by_cases e2 : mt = d
        · subst e2
          by_cases e3 : tb = a
          · subst e3
            by_cases e4 : tt = b
            · subst e4
              exact key true (yes ⟨rfl, k1, ab, cd, rfl, rfl, rfl, rfl⟩) (ses_M1T1e w hlc hcm HM hk hA hC)
            · exact key false (no (fun h => e4 h.2.2.2.2.2.2.2)) (ses_M1T1d w hlc hcm HM hk hA hC (fin _ _ e4))
          · exact key false (no (fun h => e3 h.2.2.2.2.2.2.1)) (ses_M1T1c w hlc hcm HM hk hA hC (fin _ _ e3))
        · exact key false (no (fun h => e2 h.2.2.2.2.2.1)) (ses_M1T1b w hlc hcm HM hk hA hC (fin _ _ e2))
      · exact key false (no (fun h => e1 h.2.2.2.2.1)) (ses_M1T1a w hlc hcm HM hk hA hC (fin _ _ e1))
end Go.Proofs.Ytiphhjipgjpepaa
