/- Which frames are the same: frame.Same, ref.Same. -/
import Derived.Test.YtiphhjipgjpepaaFrSame
set_option linter.unusedVariables false
set_option linter.unusedSimpArgs false
namespace Go.Proofs.Ytiphhjipgjpepaa
open Go.RowKit

def SameF (f g : Fr) : Prop := f.kind = g.kind ∧ f.node = g.node ∧ f.mb = g.mb ∧ f.mt = g.mt ∧ f.tb = g.tb ∧ f.tt = g.tt ∧ f.sq = g.sq ∧ f.ak = g.ak ∧ f.zs = g.zs
instance (f g : Fr) : Decidable (SameF f g) := by unfold SameF; infer_instance
def sameF (f g : Fr) : Bool := decide (SameF f g)

set_option maxHeartbeats 1000000 in
theorem equal_len {ao bo : Option Addr} {m n c c' : Nat} (w : World) (h : ((m : Int) == (n : Int)) = false) (h2 : ((m : Int) != (n : Int)) = true) (h1 : m ≤ c) (hc : c ≤ maxLen) (h3 : n ≤ c') (hc' : c' ≤ maxLen) : Calls Try.prog 37 #[.slice ao m c, .slice bo n c'] w fun e w' => e = .returned (.bool false) ∧ Grow w w' := by
  unfold maxLen at *
  have HG := Lib.hid (Grow.refl w)
  go_enter Try.func37, Try.ntmps37
  go_wp2_with fail
  go_ret
  exact ⟨rfl, HG.out⟩

set_option maxHeartbeats 1000000 in
theorem equal_nil {ao bo : Option Addr} {c c' : Nat} (w : World) : Calls Try.prog 37 #[.slice ao 0 c, .slice bo 0 c'] w fun e w' => e = .returned (.bool true) ∧ Grow w w' := by
  have HG := Lib.hid (Grow.refl w)
  go_enter Try.func37, Try.ntmps37
  go_wp2_with fail
  go_loopw [13] (fun i wr => i = .int .i64 0 ∧ w = wr) (fun i _ => 0)
  case atStart => exact ⟨rfl, rfl⟩
  case round =>
    obtain ⟨rfl, rfl⟩ := hrel
    go_wp2_with fail
    go_ret
    exact ⟨rfl, HG.out⟩

theorem equal_any {v u : Value} {zs ys : List Int} {w : World} (h1 : BytesV w v zs) (h2 : BytesV w u ys) (hlz : zs.length ≤ 6000) : Calls Try.prog 37 #[v, u] w fun e w' => e = .returned (.bool (decide (zs = ys))) ∧ Grow w w' := by
  obtain ⟨ao, c, e1, l1, m1⟩ := h1.shape
  obtain ⟨bo, c', e2, l2, m2⟩ := h2.shape
  by_cases hl : zs.length = ys.length
  · by_cases hz : zs = []
    · subst hz
      have hy : ys = [] := List.eq_nil_of_length_eq_zero hl.symm
      subst hy
      subst e1; subst e2
      exact equal_nil w
    · obtain ⟨b, off, cap, rfl, _, hm⟩ := h1.2.solid hz
      obtain ⟨b', off', cap', rfl, _, _⟩ := h2.2.solid (fun h => hz (List.eq_nil_of_length_eq_zero (by rw [hl, h]; rfl)))
      have hc1 := h1.2.cells
      have hc2 := h2.2.cells
      have := bytes_equal (w := w) (b := b) (off := off) (c := cap) (b' := b') (off' := off') (c' := cap') (n := zs.length) (zs := zs) (ys := ys) rfl hl.symm (by unfold maxLen at *; omega) hc1 (fun i hi => hc2 i (by omega))
      rw [← hl]
      refine this.mono ?_
      rintro e w' ⟨rfl, q, rfl⟩
      exact ⟨rfl, grow_dn (Grow.refl w) q⟩
  · have e : decide (zs = ys) = false := decide_eq_false (fun h => hl (by rw [h]))
    rw [e, e1, e2]
    have hne : (zs.length : Int) ≠ (ys.length : Int) := by omega
    exact equal_len w (by simpa using hne) (by simpa using hne) l1 m1 l2 m2

set_option maxRecDepth 20000 in
set_option maxHeartbeats 1000000 in
theorem fsame_0 {k n mb mt tb tt sq ak k' n' mb' mt' tb' tt' sq' ak' : Int} {ao bo : Option Addr} {m c m' c' : Nat} (w : World) (hm : m ≤ c) (hc : c ≤ maxLen) (hm' : m' ≤ c') (hc' : c' ≤ maxLen) (hne : (k == k') = false) : Calls Try.prog 27 #[.agg #[.int .i64 k, .int .i64 n, .int .u64 mb, .int .u64 mt, .int .u64 tb, .int .u64 tt, .int .u64 sq, .int .u64 ak, .slice ao m c], .agg #[.int .i64 k', .int .i64 n', .int .u64 mb', .int .u64 mt', .int .u64 tb', .int .u64 tt', .int .u64 sq', .int .u64 ak', .slice bo m' c']] w fun e w' => e = .returned (.bool false) ∧ Grow w w' := by
  unfold maxLen at *
  have HG : Hid (Grow w ((w.alloc (.cells #[.int .i64 k, .int .i64 n, .int .u64 mb, .int .u64 mt, .int .u64 tb, .int .u64 tt, .int .u64 sq, .int .u64 ak, .slice ao m c] 28)).alloc (.cells #[.int .i64 k', .int .i64 n', .int .u64 mb', .int .u64 mt', .int .u64 tb', .int .u64 tt', .int .u64 sq', .int .u64 ak', .slice bo m' c'] 28))) := ((Grow.refl w).alloc _).alloc _
  go_enter Try.func27, Try.ntmps27
  go_wp2_with fail
  go_ret
  exact ⟨by first | rfl | simp, HG.out⟩

set_option maxRecDepth 20000 in
set_option maxHeartbeats 1000000 in
theorem fsame_1 {k n mb mt tb tt sq ak n' mb' mt' tb' tt' sq' ak' : Int} {ao bo : Option Addr} {m c m' c' : Nat} (w : World) (hm : m ≤ c) (hc : c ≤ maxLen) (hm' : m' ≤ c') (hc' : c' ≤ maxLen) (hne : (n == n') = false) : Calls Try.prog 27 #[.agg #[.int .i64 k, .int .i64 n, .int .u64 mb, .int .u64 mt, .int .u64 tb, .int .u64 tt, .int .u64 sq, .int .u64 ak, .slice ao m c], .agg #[.int .i64 k, .int .i64 n', .int .u64 mb', .int .u64 mt', .int .u64 tb', .int .u64 tt', .int .u64 sq', .int .u64 ak', .slice bo m' c']] w fun e w' => e = .returned (.bool false) ∧ Grow w w' := by
  unfold maxLen at *
  have HG : Hid (Grow w ((w.alloc (.cells #[.int .i64 k, .int .i64 n, .int .u64 mb, .int .u64 mt, .int .u64 tb, .int .u64 tt, .int .u64 sq, .int .u64 ak, .slice ao m c] 28)).alloc (.cells #[.int .i64 k, .int .i64 n', .int .u64 mb', .int .u64 mt', .int .u64 tb', .int .u64 tt', .int .u64 sq', .int .u64 ak', .slice bo m' c'] 28))) := ((Grow.refl w).alloc _).alloc _
  go_enter Try.func27, Try.ntmps27
  go_wp2_with fail
  go_ret
  exact ⟨by first | rfl | simp, HG.out⟩

set_option maxRecDepth 20000 in
set_option maxHeartbeats 1000000 in
theorem fsame_2 {k n mb mt tb tt sq ak mb' mt' tb' tt' sq' ak' : Int} {ao bo : Option Addr} {m c m' c' : Nat} (w : World) (hm : m ≤ c) (hc : c ≤ maxLen) (hm' : m' ≤ c') (hc' : c' ≤ maxLen) (hne : (mb == mb') = false) : Calls Try.prog 27 #[.agg #[.int .i64 k, .int .i64 n, .int .u64 mb, .int .u64 mt, .int .u64 tb, .int .u64 tt, .int .u64 sq, .int .u64 ak, .slice ao m c], .agg #[.int .i64 k, .int .i64 n, .int .u64 mb', .int .u64 mt', .int .u64 tb', .int .u64 tt', .int .u64 sq', .int .u64 ak', .slice bo m' c']] w fun e w' => e = .returned (.bool false) ∧ Grow w w' := by
  unfold maxLen at *
  have HG : Hid (Grow w ((w.alloc (.cells #[.int .i64 k, .int .i64 n, .int .u64 mb, .int .u64 mt, .int .u64 tb, .int .u64 tt, .int .u64 sq, .int .u64 ak, .slice ao m c] 28)).alloc (.cells #[.int .i64 k, .int .i64 n, .int .u64 mb', .int .u64 mt', .int .u64 tb', .int .u64 tt', .int .u64 sq', .int .u64 ak', .slice bo m' c'] 28))) := ((Grow.refl w).alloc _).alloc _
  go_enter Try.func27, Try.ntmps27
  go_wp2_with fail
  go_ret
  exact ⟨by first | rfl | simp, HG.out⟩

set_option maxRecDepth 20000 in
set_option maxHeartbeats 1000000 in
theorem fsame_3 {k n mb mt tb tt sq ak mt' tb' tt' sq' ak' : Int} {ao bo : Option Addr} {m c m' c' : Nat} (w : World) (hm : m ≤ c) (hc : c ≤ maxLen) (hm' : m' ≤ c') (hc' : c' ≤ maxLen) (hne : (mt == mt') = false) : Calls Try.prog 27 #[.agg #[.int .i64 k, .int .i64 n, .int .u64 mb, .int .u64 mt, .int .u64 tb, .int .u64 tt, .int .u64 sq, .int .u64 ak, .slice ao m c], .agg #[.int .i64 k, .int .i64 n, .int .u64 mb, .int .u64 mt', .int .u64 tb', .int .u64 tt', .int .u64 sq', .int .u64 ak', .slice bo m' c']] w fun e w' => e = .returned (.bool false) ∧ Grow w w' := by
  unfold maxLen at *
  have HG : Hid (Grow w ((w.alloc (.cells #[.int .i64 k, .int .i64 n, .int .u64 mb, .int .u64 mt, .int .u64 tb, .int .u64 tt, .int .u64 sq, .int .u64 ak, .slice ao m c] 28)).alloc (.cells #[.int .i64 k, .int .i64 n, .int .u64 mb, .int .u64 mt', .int .u64 tb', .int .u64 tt', .int .u64 sq', .int .u64 ak', .slice bo m' c'] 28))) := ((Grow.refl w).alloc _).alloc _
  go_enter Try.func27, Try.ntmps27
  go_wp2_with fail
  go_ret
  exact ⟨by first | rfl | simp, HG.out⟩

set_option maxRecDepth 20000 in
set_option maxHeartbeats 1000000 in
theorem fsame_4 {k n mb mt tb tt sq ak tb' tt' sq' ak' : Int} {ao bo : Option Addr} {m c m' c' : Nat} (w : World) (hm : m ≤ c) (hc : c ≤ maxLen) (hm' : m' ≤ c') (hc' : c' ≤ maxLen) (hne : (tb == tb') = false) : Calls Try.prog 27 #[.agg #[.int .i64 k, .int .i64 n, .int .u64 mb, .int .u64 mt, .int .u64 tb, .int .u64 tt, .int .u64 sq, .int .u64 ak, .slice ao m c], .agg #[.int .i64 k, .int .i64 n, .int .u64 mb, .int .u64 mt, .int .u64 tb', .int .u64 tt', .int .u64 sq', .int .u64 ak', .slice bo m' c']] w fun e w' => e = .returned (.bool false) ∧ Grow w w' := by
  unfold maxLen at *
  have HG : Hid (Grow w ((w.alloc (.cells #[.int .i64 k, .int .i64 n, .int .u64 mb, .int .u64 mt, .int .u64 tb, .int .u64 tt, .int .u64 sq, .int .u64 ak, .slice ao m c] 28)).alloc (.cells #[.int .i64 k, .int .i64 n, .int .u64 mb, .int .u64 mt, .int .u64 tb', .int .u64 tt', .int .u64 sq', .int .u64 ak', .slice bo m' c'] 28))) := ((Grow.refl w).alloc _).alloc _
  go_enter Try.func27, Try.ntmps27
  go_wp2_with fail
  go_ret
  exact ⟨by first | rfl | simp, HG.out⟩

set_option maxRecDepth 20000 in
set_option maxHeartbeats 1000000 in
theorem fsame_5 {k n mb mt tb tt sq ak tt' sq' ak' : Int} {ao bo : Option Addr} {m c m' c' : Nat} (w : World) (hm : m ≤ c) (hc : c ≤ maxLen) (hm' : m' ≤ c') (hc' : c' ≤ maxLen) (hne : (tt == tt') = false) : Calls Try.prog 27 #[.agg #[.int .i64 k, .int .i64 n, .int .u64 mb, .int .u64 mt, .int .u64 tb, .int .u64 tt, .int .u64 sq, .int .u64 ak, .slice ao m c], .agg #[.int .i64 k, .int .i64 n, .int .u64 mb, .int .u64 mt, .int .u64 tb, .int .u64 tt', .int .u64 sq', .int .u64 ak', .slice bo m' c']] w fun e w' => e = .returned (.bool false) ∧ Grow w w' := by
  unfold maxLen at *
  have HG : Hid (Grow w ((w.alloc (.cells #[.int .i64 k, .int .i64 n, .int .u64 mb, .int .u64 mt, .int .u64 tb, .int .u64 tt, .int .u64 sq, .int .u64 ak, .slice ao m c] 28)).alloc (.cells #[.int .i64 k, .int .i64 n, .int .u64 mb, .int .u64 mt, .int .u64 tb, .int .u64 tt', .int .u64 sq', .int .u64 ak', .slice bo m' c'] 28))) := ((Grow.refl w).alloc _).alloc _
  go_enter Try.func27, Try.ntmps27
  go_wp2_with fail
  go_ret
  exact ⟨by first | rfl | simp, HG.out⟩

set_option maxRecDepth 20000 in
set_option maxHeartbeats 1000000 in
theorem fsame_6 {k n mb mt tb tt sq ak sq' ak' : Int} {ao bo : Option Addr} {m c m' c' : Nat} (w : World) (hm : m ≤ c) (hc : c ≤ maxLen) (hm' : m' ≤ c') (hc' : c' ≤ maxLen) (hne : (sq == sq') = false) : Calls Try.prog 27 #[.agg #[.int .i64 k, .int .i64 n, .int .u64 mb, .int .u64 mt, .int .u64 tb, .int .u64 tt, .int .u64 sq, .int .u64 ak, .slice ao m c], .agg #[.int .i64 k, .int .i64 n, .int .u64 mb, .int .u64 mt, .int .u64 tb, .int .u64 tt, .int .u64 sq', .int .u64 ak', .slice bo m' c']] w fun e w' => e = .returned (.bool false) ∧ Grow w w' := by
  unfold maxLen at *
  have HG : Hid (Grow w ((w.alloc (.cells #[.int .i64 k, .int .i64 n, .int .u64 mb, .int .u64 mt, .int .u64 tb, .int .u64 tt, .int .u64 sq, .int .u64 ak, .slice ao m c] 28)).alloc (.cells #[.int .i64 k, .int .i64 n, .int .u64 mb, .int .u64 mt, .int .u64 tb, .int .u64 tt, .int .u64 sq', .int .u64 ak', .slice bo m' c'] 28))) := ((Grow.refl w).alloc _).alloc _
  go_enter Try.func27, Try.ntmps27
  go_wp2_with fail
  go_ret
  exact ⟨by first | rfl | simp, HG.out⟩

set_option maxRecDepth 20000 in
set_option maxHeartbeats 1000000 in
theorem fsame_7 {k n mb mt tb tt sq ak ak' : Int} {ao bo : Option Addr} {m c m' c' : Nat} (w : World) (hm : m ≤ c) (hc : c ≤ maxLen) (hm' : m' ≤ c') (hc' : c' ≤ maxLen) (hne : (ak == ak') = false) : Calls Try.prog 27 #[.agg #[.int .i64 k, .int .i64 n, .int .u64 mb, .int .u64 mt, .int .u64 tb, .int .u64 tt, .int .u64 sq, .int .u64 ak, .slice ao m c], .agg #[.int .i64 k, .int .i64 n, .int .u64 mb, .int .u64 mt, .int .u64 tb, .int .u64 tt, .int .u64 sq, .int .u64 ak', .slice bo m' c']] w fun e w' => e = .returned (.bool false) ∧ Grow w w' := by
  unfold maxLen at *
  have HG : Hid (Grow w ((w.alloc (.cells #[.int .i64 k, .int .i64 n, .int .u64 mb, .int .u64 mt, .int .u64 tb, .int .u64 tt, .int .u64 sq, .int .u64 ak, .slice ao m c] 28)).alloc (.cells #[.int .i64 k, .int .i64 n, .int .u64 mb, .int .u64 mt, .int .u64 tb, .int .u64 tt, .int .u64 sq, .int .u64 ak', .slice bo m' c'] 28))) := ((Grow.refl w).alloc _).alloc _
  go_enter Try.func27, Try.ntmps27
  go_wp2_with fail
  go_ret
  exact ⟨by first | rfl | simp, HG.out⟩

set_option maxRecDepth 20000 in
set_option maxHeartbeats 1000000 in
theorem fsame_8 {k n mb mt tb tt sq ak : Int} {ao bo : Option Addr} {m c m' c' : Nat} (w : World) (hm : m ≤ c) (hc : c ≤ maxLen) (hm' : m' ≤ c') (hc' : c' ≤ maxLen) {r : Bool} (HE : ∀ x, Grow w x → Calls Try.prog 37 #[.slice ao m c, .slice bo m' c'] x fun e w' => e = .returned (.bool r) ∧ Grow x w') : Calls Try.prog 27 #[.agg #[.int .i64 k, .int .i64 n, .int .u64 mb, .int .u64 mt, .int .u64 tb, .int .u64 tt, .int .u64 sq, .int .u64 ak, .slice ao m c], .agg #[.int .i64 k, .int .i64 n, .int .u64 mb, .int .u64 mt, .int .u64 tb, .int .u64 tt, .int .u64 sq, .int .u64 ak, .slice bo m' c']] w fun e w' => e = .returned (.bool r) ∧ Grow w w' := by
  unfold maxLen at *
  have HG : Hid (Grow w ((w.alloc (.cells #[.int .i64 k, .int .i64 n, .int .u64 mb, .int .u64 mt, .int .u64 tb, .int .u64 tt, .int .u64 sq, .int .u64 ak, .slice ao m c] 28)).alloc (.cells #[.int .i64 k, .int .i64 n, .int .u64 mb, .int .u64 mt, .int .u64 tb, .int .u64 tt, .int .u64 sq, .int .u64 ak, .slice bo m' c'] 28))) := ((Grow.refl w).alloc _).alloc _
  have HEh := Lib.hid HE
  clear HE
  go_enter Try.func27, Try.ntmps27
  go_wp2_with fail
  refine (HEh.out _ HG.out).mono ?_
  rintro e w1 ⟨rfl, hg⟩
  have HG1 := Lib.hid (HG.out.trans hg)
  clear hg
  go_wp2_with fail
  go_ret
  exact ⟨rfl, HG1.out⟩

theorem fsame_any (f g : Fr) (w : World) (h1 : FrOk w f) (h2 : FrOk w g) (hlz : f.zs.length ≤ 6000) : Calls Try.prog 27 #[f.val, g.val] w fun e w' => e = .returned (.bool (sameF f g)) ∧ Grow w w' := by
  have key : ∀ r : Bool, sameF f g = r → (Calls Try.prog 27 #[f.val, g.val] w fun e w' => e = .returned (.bool r) ∧ Grow w w') → Calls Try.prog 27 #[f.val, g.val] w fun e w' => e = .returned (.bool (sameF f g)) ∧ Grow w w' := fun r hr h => by rw [hr]; exact h
  have no : ¬ SameF f g → sameF f g = false := fun h => decide_eq_false h
  have hb1 := h1.body
  have hb2 := h2.body
  clear h1 h2
  obtain ⟨ao, c, hv, l1, m1⟩ := hb1.shape
  obtain ⟨bo, c', hu, l2, m2⟩ := hb2.shape
  obtain ⟨k, n, mb, mt, tb, tt, sq, ak, v, zs⟩ := f
  obtain ⟨k', n', mb', mt', tb', tt', sq', ak', u, ys⟩ := g
  dsimp only at *
  have HE : ∀ x, Grow w x → Calls Try.prog 37 #[v, u] x fun e w' => e = .returned (.bool (decide (zs = ys))) ∧ Grow x w' := fun x hx => equal_any (hb1.mono hx) (hb2.mono hx) hlz
  subst hv; subst hu
  simp only [Fr.val, Fr.cells, frCells] at *
  have fin : ∀ x y : Int, x ≠ y → (x == y) = false := fun x y h => by simpa using h
  by_cases e0 : k = k'
  case neg => exact key false (no (fun h => e0 h.1)) (fsame_0 w l1 m1 l2 m2 (fin _ _ e0))
  subst e0
  by_cases e1 : n = n'
  case neg => exact key false (no (fun h => e1 h.2.1)) (fsame_1 w l1 m1 l2 m2 (fin _ _ e1))
  subst e1
  by_cases e2 : mb = mb'
  case neg => exact key false (no (fun h => e2 h.2.2.1)) (fsame_2 w l1 m1 l2 m2 (fin _ _ e2))
  subst e2
  by_cases e3 : mt = mt'
  case neg => exact key false (no (fun h => e3 h.2.2.2.1)) (fsame_3 w l1 m1 l2 m2 (fin _ _ e3))
  subst e3
  by_cases e4 : tb = tb'
  case neg => exact key false (no (fun h => e4 h.2.2.2.2.1)) (fsame_4 w l1 m1 l2 m2 (fin _ _ e4))
  subst e4
  by_cases e5 : tt = tt'
  case neg => exact key false (no (fun h => e5 h.2.2.2.2.2.1)) (fsame_5 w l1 m1 l2 m2 (fin _ _ e5))
  subst e5
  by_cases e6 : sq = sq'
  case neg => exact key false (no (fun h => e6 h.2.2.2.2.2.2.1)) (fsame_6 w l1 m1 l2 m2 (fin _ _ e6))
  subst e6
  by_cases e7 : ak = ak'
  case neg => exact key false (no (fun h => e7 h.2.2.2.2.2.2.2.1)) (fsame_7 w l1 m1 l2 m2 (fin _ _ e7))
  subst e7
  exact key (decide (zs = ys)) (by unfold sameF SameF; dsimp only; by_cases h : zs = ys <;> simp [h]) (fsame_8 w l1 m1 l2 m2 HE)

set_option maxRecDepth 20000 in
set_option maxHeartbeats 1000000 in
theorem rsame_0 {k n mb mt tb tt sq ak k' n' mb' mt' tb' tt' sq' ak' : Int} {ao bo : Option Addr} {m c m' c' : Nat} (w : World) (hm : m ≤ c) (hc : c ≤ maxLen) (hm' : m' ≤ c') (hc' : c' ≤ maxLen) (hne : (k == k') = false) : Calls Try.prog 16 #[.agg #[.int .i64 k, .int .i64 n, .int .u64 mb, .int .u64 mt, .int .u64 tb, .int .u64 tt, .int .u64 sq, .int .u64 ak, .slice ao m c], .agg #[.int .i64 k', .int .i64 n', .int .u64 mb', .int .u64 mt', .int .u64 tb', .int .u64 tt', .int .u64 sq', .int .u64 ak', .slice bo m' c']] w fun e w' => e = .returned (.bool false) ∧ Grow w w' := by
  unfold maxLen at *
  have HG : Hid (Grow w ((w.alloc (.cells #[.int .i64 k, .int .i64 n, .int .u64 mb, .int .u64 mt, .int .u64 tb, .int .u64 tt, .int .u64 sq, .int .u64 ak, .slice ao m c] 28)).alloc (.cells #[.int .i64 k', .int .i64 n', .int .u64 mb', .int .u64 mt', .int .u64 tb', .int .u64 tt', .int .u64 sq', .int .u64 ak', .slice bo m' c'] 28))) := ((Grow.refl w).alloc _).alloc _
  go_enter Try.func16, Try.ntmps16
  go_wp2_with fail
  go_ret
  exact ⟨by first | rfl | simp, HG.out⟩

set_option maxRecDepth 20000 in
set_option maxHeartbeats 1000000 in
theorem rsame_1 {k n mb mt tb tt sq ak n' mb' mt' tb' tt' sq' ak' : Int} {ao bo : Option Addr} {m c m' c' : Nat} (w : World) (hm : m ≤ c) (hc : c ≤ maxLen) (hm' : m' ≤ c') (hc' : c' ≤ maxLen) (hne : (n == n') = false) : Calls Try.prog 16 #[.agg #[.int .i64 k, .int .i64 n, .int .u64 mb, .int .u64 mt, .int .u64 tb, .int .u64 tt, .int .u64 sq, .int .u64 ak, .slice ao m c], .agg #[.int .i64 k, .int .i64 n', .int .u64 mb', .int .u64 mt', .int .u64 tb', .int .u64 tt', .int .u64 sq', .int .u64 ak', .slice bo m' c']] w fun e w' => e = .returned (.bool false) ∧ Grow w w' := by
  unfold maxLen at *
  have HG : Hid (Grow w ((w.alloc (.cells #[.int .i64 k, .int .i64 n, .int .u64 mb, .int .u64 mt, .int .u64 tb, .int .u64 tt, .int .u64 sq, .int .u64 ak, .slice ao m c] 28)).alloc (.cells #[.int .i64 k, .int .i64 n', .int .u64 mb', .int .u64 mt', .int .u64 tb', .int .u64 tt', .int .u64 sq', .int .u64 ak', .slice bo m' c'] 28))) := ((Grow.refl w).alloc _).alloc _
  go_enter Try.func16, Try.ntmps16
  go_wp2_with fail
  go_ret
  exact ⟨by first | rfl | simp, HG.out⟩

set_option maxRecDepth 20000 in
set_option maxHeartbeats 1000000 in
theorem rsame_2 {k n mb mt tb tt sq ak mb' mt' tb' tt' sq' ak' : Int} {ao bo : Option Addr} {m c m' c' : Nat} (w : World) (hm : m ≤ c) (hc : c ≤ maxLen) (hm' : m' ≤ c') (hc' : c' ≤ maxLen) (hne : (mb == mb') = false) : Calls Try.prog 16 #[.agg #[.int .i64 k, .int .i64 n, .int .u64 mb, .int .u64 mt, .int .u64 tb, .int .u64 tt, .int .u64 sq, .int .u64 ak, .slice ao m c], .agg #[.int .i64 k, .int .i64 n, .int .u64 mb', .int .u64 mt', .int .u64 tb', .int .u64 tt', .int .u64 sq', .int .u64 ak', .slice bo m' c']] w fun e w' => e = .returned (.bool false) ∧ Grow w w' := by
  unfold maxLen at *
  have HG : Hid (Grow w ((w.alloc (.cells #[.int .i64 k, .int .i64 n, .int .u64 mb, .int .u64 mt, .int .u64 tb, .int .u64 tt, .int .u64 sq, .int .u64 ak, .slice ao m c] 28)).alloc (.cells #[.int .i64 k, .int .i64 n, .int .u64 mb', .int .u64 mt', .int .u64 tb', .int .u64 tt', .int .u64 sq', .int .u64 ak', .slice bo m' c'] 28))) := ((Grow.refl w).alloc _).alloc _
  go_enter Try.func16, Try.ntmps16
  go_wp2_with fail
  go_ret
  exact ⟨by first | rfl | simp, HG.out⟩

set_option maxRecDepth 20000 in
set_option maxHeartbeats 1000000 in
theorem rsame_3 {k n mb mt tb tt sq ak mt' tb' tt' sq' ak' : Int} {ao bo : Option Addr} {m c m' c' : Nat} (w : World) (hm : m ≤ c) (hc : c ≤ maxLen) (hm' : m' ≤ c') (hc' : c' ≤ maxLen) (hne : (mt == mt') = false) : Calls Try.prog 16 #[.agg #[.int .i64 k, .int .i64 n, .int .u64 mb, .int .u64 mt, .int .u64 tb, .int .u64 tt, .int .u64 sq, .int .u64 ak, .slice ao m c], .agg #[.int .i64 k, .int .i64 n, .int .u64 mb, .int .u64 mt', .int .u64 tb', .int .u64 tt', .int .u64 sq', .int .u64 ak', .slice bo m' c']] w fun e w' => e = .returned (.bool false) ∧ Grow w w' := by
  unfold maxLen at *
  have HG : Hid (Grow w ((w.alloc (.cells #[.int .i64 k, .int .i64 n, .int .u64 mb, .int .u64 mt, .int .u64 tb, .int .u64 tt, .int .u64 sq, .int .u64 ak, .slice ao m c] 28)).alloc (.cells #[.int .i64 k, .int .i64 n, .int .u64 mb, .int .u64 mt', .int .u64 tb', .int .u64 tt', .int .u64 sq', .int .u64 ak', .slice bo m' c'] 28))) := ((Grow.refl w).alloc _).alloc _
  go_enter Try.func16, Try.ntmps16
  go_wp2_with fail
  go_ret
  exact ⟨by first | rfl | simp, HG.out⟩

set_option maxRecDepth 20000 in
set_option maxHeartbeats 1000000 in
theorem rsame_4 {k n mb mt tb tt sq ak tb' tt' sq' ak' : Int} {ao bo : Option Addr} {m c m' c' : Nat} (w : World) (hm : m ≤ c) (hc : c ≤ maxLen) (hm' : m' ≤ c') (hc' : c' ≤ maxLen) (hne : (tb == tb') = false) : Calls Try.prog 16 #[.agg #[.int .i64 k, .int .i64 n, .int .u64 mb, .int .u64 mt, .int .u64 tb, .int .u64 tt, .int .u64 sq, .int .u64 ak, .slice ao m c], .agg #[.int .i64 k, .int .i64 n, .int .u64 mb, .int .u64 mt, .int .u64 tb', .int .u64 tt', .int .u64 sq', .int .u64 ak', .slice bo m' c']] w fun e w' => e = .returned (.bool false) ∧ Grow w w' := by
  unfold maxLen at *
  have HG : Hid (Grow w ((w.alloc (.cells #[.int .i64 k, .int .i64 n, .int .u64 mb, .int .u64 mt, .int .u64 tb, .int .u64 tt, .int .u64 sq, .int .u64 ak, .slice ao m c] 28)).alloc (.cells #[.int .i64 k, .int .i64 n, .int .u64 mb, .int .u64 mt, .int .u64 tb', .int .u64 tt', .int .u64 sq', .int .u64 ak', .slice bo m' c'] 28))) := ((Grow.refl w).alloc _).alloc _
  go_enter Try.func16, Try.ntmps16
  go_wp2_with fail
  go_ret
  exact ⟨by first | rfl | simp, HG.out⟩

set_option maxRecDepth 20000 in
set_option maxHeartbeats 1000000 in
theorem rsame_5 {k n mb mt tb tt sq ak tt' sq' ak' : Int} {ao bo : Option Addr} {m c m' c' : Nat} (w : World) (hm : m ≤ c) (hc : c ≤ maxLen) (hm' : m' ≤ c') (hc' : c' ≤ maxLen) (hne : (tt == tt') = false) : Calls Try.prog 16 #[.agg #[.int .i64 k, .int .i64 n, .int .u64 mb, .int .u64 mt, .int .u64 tb, .int .u64 tt, .int .u64 sq, .int .u64 ak, .slice ao m c], .agg #[.int .i64 k, .int .i64 n, .int .u64 mb, .int .u64 mt, .int .u64 tb, .int .u64 tt', .int .u64 sq', .int .u64 ak', .slice bo m' c']] w fun e w' => e = .returned (.bool false) ∧ Grow w w' := by
  unfold maxLen at *
  have HG : Hid (Grow w ((w.alloc (.cells #[.int .i64 k, .int .i64 n, .int .u64 mb, .int .u64 mt, .int .u64 tb, .int .u64 tt, .int .u64 sq, .int .u64 ak, .slice ao m c] 28)).alloc (.cells #[.int .i64 k, .int .i64 n, .int .u64 mb, .int .u64 mt, .int .u64 tb, .int .u64 tt', .int .u64 sq', .int .u64 ak', .slice bo m' c'] 28))) := ((Grow.refl w).alloc _).alloc _
  go_enter Try.func16, Try.ntmps16
  go_wp2_with fail
  go_ret
  exact ⟨by first | rfl | simp, HG.out⟩

set_option maxRecDepth 20000 in
set_option maxHeartbeats 1000000 in
theorem rsame_6 {k n mb mt tb tt sq ak sq' ak' : Int} {ao bo : Option Addr} {m c m' c' : Nat} (w : World) (hm : m ≤ c) (hc : c ≤ maxLen) (hm' : m' ≤ c') (hc' : c' ≤ maxLen) (hne : (sq == sq') = false) : Calls Try.prog 16 #[.agg #[.int .i64 k, .int .i64 n, .int .u64 mb, .int .u64 mt, .int .u64 tb, .int .u64 tt, .int .u64 sq, .int .u64 ak, .slice ao m c], .agg #[.int .i64 k, .int .i64 n, .int .u64 mb, .int .u64 mt, .int .u64 tb, .int .u64 tt, .int .u64 sq', .int .u64 ak', .slice bo m' c']] w fun e w' => e = .returned (.bool false) ∧ Grow w w' := by
  unfold maxLen at *
  have HG : Hid (Grow w ((w.alloc (.cells #[.int .i64 k, .int .i64 n, .int .u64 mb, .int .u64 mt, .int .u64 tb, .int .u64 tt, .int .u64 sq, .int .u64 ak, .slice ao m c] 28)).alloc (.cells #[.int .i64 k, .int .i64 n, .int .u64 mb, .int .u64 mt, .int .u64 tb, .int .u64 tt, .int .u64 sq', .int .u64 ak', .slice bo m' c'] 28))) := ((Grow.refl w).alloc _).alloc _
  go_enter Try.func16, Try.ntmps16
  go_wp2_with fail
  go_ret
  exact ⟨by first | rfl | simp, HG.out⟩

set_option maxRecDepth 20000 in
set_option maxHeartbeats 1000000 in
theorem rsame_7 {k n mb mt tb tt sq ak ak' : Int} {ao bo : Option Addr} {m c m' c' : Nat} (w : World) (hm : m ≤ c) (hc : c ≤ maxLen) (hm' : m' ≤ c') (hc' : c' ≤ maxLen) (hne : (ak == ak') = false) : Calls Try.prog 16 #[.agg #[.int .i64 k, .int .i64 n, .int .u64 mb, .int .u64 mt, .int .u64 tb, .int .u64 tt, .int .u64 sq, .int .u64 ak, .slice ao m c], .agg #[.int .i64 k, .int .i64 n, .int .u64 mb, .int .u64 mt, .int .u64 tb, .int .u64 tt, .int .u64 sq, .int .u64 ak', .slice bo m' c']] w fun e w' => e = .returned (.bool false) ∧ Grow w w' := by
  unfold maxLen at *
  have HG : Hid (Grow w ((w.alloc (.cells #[.int .i64 k, .int .i64 n, .int .u64 mb, .int .u64 mt, .int .u64 tb, .int .u64 tt, .int .u64 sq, .int .u64 ak, .slice ao m c] 28)).alloc (.cells #[.int .i64 k, .int .i64 n, .int .u64 mb, .int .u64 mt, .int .u64 tb, .int .u64 tt, .int .u64 sq, .int .u64 ak', .slice bo m' c'] 28))) := ((Grow.refl w).alloc _).alloc _
  go_enter Try.func16, Try.ntmps16
  go_wp2_with fail
  go_ret
  exact ⟨by first | rfl | simp, HG.out⟩

set_option maxRecDepth 20000 in
set_option maxHeartbeats 1000000 in
theorem rsame_8 {k n mb mt tb tt sq ak : Int} {ao bo : Option Addr} {m c m' c' : Nat} (w : World) (hm : m ≤ c) (hc : c ≤ maxLen) (hm' : m' ≤ c') (hc' : c' ≤ maxLen) {s t : ByteArray} (HE : ∀ x, Grow w x → (convert 26 9 (.slice ao m c)).run Try.prog x = .ok (.string s) x) (HE2 : ∀ x, Grow w x → (convert 26 9 (.slice bo m' c')).run Try.prog x = .ok (.string t) x) : Calls Try.prog 16 #[.agg #[.int .i64 k, .int .i64 n, .int .u64 mb, .int .u64 mt, .int .u64 tb, .int .u64 tt, .int .u64 sq, .int .u64 ak, .slice ao m c], .agg #[.int .i64 k, .int .i64 n, .int .u64 mb, .int .u64 mt, .int .u64 tb, .int .u64 tt, .int .u64 sq, .int .u64 ak, .slice bo m' c']] w fun e w' => e = .returned (.bool (s.toList == t.toList)) ∧ Grow w w' := by
  unfold maxLen at *
  have HG : Hid (Grow w ((w.alloc (.cells #[.int .i64 k, .int .i64 n, .int .u64 mb, .int .u64 mt, .int .u64 tb, .int .u64 tt, .int .u64 sq, .int .u64 ak, .slice ao m c] 28)).alloc (.cells #[.int .i64 k, .int .i64 n, .int .u64 mb, .int .u64 mt, .int .u64 tb, .int .u64 tt, .int .u64 sq, .int .u64 ak, .slice bo m' c'] 28))) := ((Grow.refl w).alloc _).alloc _
  have c1 := HE _ HG.out
  have c2 := HE2 _ HG.out
  clear HE HE2
  go_enter Try.func16, Try.ntmps16
  go_wp2_with fail
  go_ret
  exact ⟨by first | rfl | simp, HG.out⟩

theorem rsame_any (f g : Fr) (w : World) (h1 : FrOk w f) (h2 : FrOk w g) : Calls Try.prog 16 #[f.val, g.val] w fun e w' => e = .returned (.bool (sameF f g)) ∧ Grow w w' := by
  have key : ∀ r : Bool, sameF f g = r → (Calls Try.prog 16 #[f.val, g.val] w fun e w' => e = .returned (.bool r) ∧ Grow w w') → Calls Try.prog 16 #[f.val, g.val] w fun e w' => e = .returned (.bool (sameF f g)) ∧ Grow w w' := fun r hr h => by rw [hr]; exact h
  have no : ¬ SameF f g → sameF f g = false := fun h => decide_eq_false h
  have hb1 := h1.body
  have hb2 := h2.body
  clear h1 h2
  obtain ⟨ao, c, hv, l1, m1⟩ := hb1.shape
  obtain ⟨bo, c', hu, l2, m2⟩ := hb2.shape
  obtain ⟨k, n, mb, mt, tb, tt, sq, ak, v, zs⟩ := f
  obtain ⟨k', n', mb', mt', tb', tt', sq', ak', u, ys⟩ := g
  dsimp only at *
  have HE : ∀ x, Grow w x → (convert 26 9 v).run Try.prog x = .ok (.string (strOfNums zs)) x := fun x hx => str_of (hb1.mono hx)
  have HE2 : ∀ x, Grow w x → (convert 26 9 u).run Try.prog x = .ok (.string (strOfNums ys)) x := fun x hx => str_of (hb2.mono hx)
  have hst : ((strOfNums zs).toList == (strOfNums ys).toList) = decide (zs = ys) := by
    by_cases h : zs = ys
    · rw [decide_eq_true h, h]; exact beq_self_eq_true _
    · rw [decide_eq_false h]; exact beq_eq_false_iff_ne.2 (fun e => h (str_inj hb1.1 hb2.1 (by rw [Lib.toList_data, Lib.toList_data] at e; exact ByteArray.ext (Array.toList_inj.1 e))))
  subst hv; subst hu
  simp only [Fr.val, Fr.cells, frCells] at *
  have fin : ∀ x y : Int, x ≠ y → (x == y) = false := fun x y h => by simpa using h
  by_cases e0 : k = k'
  case neg => exact key false (no (fun h => e0 h.1)) (rsame_0 w l1 m1 l2 m2 (fin _ _ e0))
  subst e0
  by_cases e1 : n = n'
  case neg => exact key false (no (fun h => e1 h.2.1)) (rsame_1 w l1 m1 l2 m2 (fin _ _ e1))
  subst e1
  by_cases e2 : mb = mb'
  case neg => exact key false (no (fun h => e2 h.2.2.1)) (rsame_2 w l1 m1 l2 m2 (fin _ _ e2))
  subst e2
  by_cases e3 : mt = mt'
  case neg => exact key false (no (fun h => e3 h.2.2.2.1)) (rsame_3 w l1 m1 l2 m2 (fin _ _ e3))
  subst e3
  by_cases e4 : tb = tb'
  case neg => exact key false (no (fun h => e4 h.2.2.2.2.1)) (rsame_4 w l1 m1 l2 m2 (fin _ _ e4))
  subst e4
  by_cases e5 : tt = tt'
  case neg => exact key false (no (fun h => e5 h.2.2.2.2.2.1)) (rsame_5 w l1 m1 l2 m2 (fin _ _ e5))
  subst e5
  by_cases e6 : sq = sq'
  case neg => exact key false (no (fun h => e6 h.2.2.2.2.2.2.1)) (rsame_6 w l1 m1 l2 m2 (fin _ _ e6))
  subst e6
  by_cases e7 : ak = ak'
  case neg => exact key false (no (fun h => e7 h.2.2.2.2.2.2.2.1)) (rsame_7 w l1 m1 l2 m2 (fin _ _ e7))
  subst e7
  refine key (decide (zs = ys)) (by unfold sameF SameF; dsimp only; by_cases h : zs = ys <;> simp [h]) ?_
  rw [← hst]
  exact rsame_8 w l1 m1 l2 m2 HE HE2

theorem sameF_refl (f : Fr) : sameF f f = true := decide_eq_true ⟨rfl, rfl, rfl, rfl, rfl, rfl, rfl, rfl, rfl⟩
end Go.Proofs.Ytiphhjipgjpepaa
