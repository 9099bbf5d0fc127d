/- What a session's frame is: plain laws. -/
import Derived.Test.YtiphhjipgjpepaaFrRSesAll
set_option linter.unusedVariables false
set_option linter.unusedSimpArgs false
namespace Go.Proofs.Ytiphhjipgjpepaa
open Go.RowKit

theorem ses_of {f : Fr} {a b c d : Int} (h : sesF f a b c d = true) : SesF f a b c d := of_decide_eq_true h
theorem ses_kind {f : Fr} {a b c d : Int} (h : sesF f a b c d = true) : f.kind ≠ 1 := (ses_of h).2.1
theorem ses_one {f : Fr} {a b c d a' b' c' d' : Int} (h : sesF f a b c d = true) (h' : sesF f a' b' c' d' = true) : a = a' ∧ b = b' ∧ c = c' ∧ d = d' := by
  obtain ⟨_, _, _, _, h1, h2, h3, h4⟩ := ses_of h
  obtain ⟨_, _, _, _, k1, k2, k3, k4⟩ := ses_of h'
  exact ⟨h3.symm.trans k3, h4.symm.trans k4, h1.symm.trans k1, h2.symm.trans k2⟩
theorem ses_tags {f : Fr} {a b c d : Int} (h : sesF f a b c d = true) : tagOk a b = true ∧ tagOk c d = true := by
  obtain ⟨hm, _, _, _, h1, h2, h3, h4⟩ := ses_of h
  have hm := of_decide_eq_true hm
  rw [← h1, ← h2, ← h3, ← h4]
  exact ⟨hm.2.1.2.1, hm.2.1.1⟩
theorem ses_swap {f : Fr} {a b c d : Int} (h : sesF f a b c d = true) : sesF { f with mb := f.tb, mt := f.tt, tb := f.mb, tt := f.mt } c d a b = true := by
  obtain ⟨hm, hk, hab, hcd, h1, h2, h3, h4⟩ := ses_of h
  have hm := of_decide_eq_true hm
  refine decide_eq_true ⟨decide_eq_true ?_, hk, hcd, hab, h3, h4, h1, h2⟩
  have hn : noneT f.tb f.tt = false := by rw [h3, h4]; exact decide_eq_false hab
  refine ⟨hm.1, ⟨hm.2.1.2.1, hm.2.1.1, hn⟩, ?_⟩
  rcases hm.2.2 with h | h | h
  · exact absurd h.1 hk
  · exact Or.inr (Or.inl ⟨h.1, hm.2.1.2.2, h.2.2⟩)
  · exact Or.inr (Or.inr ⟨h.1, hm.2.1.2.2, h.2.2⟩)
end Go.Proofs.Ytiphhjipgjpepaa
