/- frame.Bytes; the closure get; slices.Clone; frame.Of. -/
import Derived.Test.YtiphhjipgjpepaaFrMayAll
import Derived.Test.YtiphhjipgjpepaaFrBytes
set_option linter.unusedVariables false
set_option linter.unusedSimpArgs false
namespace Go.Proofs.Ytiphhjipgjpepaa
open Go.RowKit

def SomeBytes (f : Fr) (w : World) (e : Ending) (w' : World) : Prop :=
  (mayF f = true ∧ ∃ u, e = .returned (.tuple #[u, .int .i64 0]) ∧ NewBytes w (frB f) u w') ∨ (mayF f = false ∧ e = .returned (.tuple #[.slice none 0 0, .int .i64 2]) ∧ Grow w w')

theorem own_base' {w w' : World} {e : TypeId} {size : Nat} {v : Value} {n : Nat} {xs : List Value} {w0 : World} (hg : Grow w0 w) (h : w'.ownsRow w.heap.size e size v n xs) : w'.ownsRow w0.heap.size e size v n xs := own_base h hg.size

set_option maxHeartbeats 1000000 in
theorem fBytes_any (f : Fr) (w : World) (hok : FrOk w f) (hlen : f.zs.length ≤ 5000) : Calls Try.prog 9 #[f.val] w (SomeBytes f w) := by
  have HM : Hid (∀ x, Grow w x → Calls Try.prog 10 #[f.val] x fun e w' => e = .returned (.bool (mayF f)) ∧ Grow x w') := fun x hx => may_any f x (hok.mono hx)
  have HB : Hid (∀ x, Grow w x → Calls Try.prog 28 #[f.val] x fun e w' => ∃ u, e = .returned u ∧ NewBytes x (frB f) u w') := fun x hx => fbytes_any f x (hok.mono hx) hlen
  obtain ⟨fb, hfb⟩ : ∃ l, frB f = l := ⟨_, rfl⟩
  have HFB := Lib.hid hfb
  rw [hfb] at HB
  cases hm : mayF f
  all_goals
    rw [hm] at HM
    have HMF := Lib.hid hm
    clear hm
  · have HS : Hid (∀ w', Grow w w' → SomeBytes f w (.returned (.tuple #[.slice none 0 0, .int .i64 2])) w') := fun w' h => Or.inr ⟨HMF.out, rfl, h⟩
    clear hok hfb HFB HMF
    obtain ⟨kd, nd, mb, mt, tb, tt, sq, ak, v, zs⟩ := f
    simp only [Fr.val, Fr.cells, frCells] at *
    have c0 := heap_alloc_new w (.cells #[.int .i64 kd, .int .i64 nd, .int .u64 mb, .int .u64 mt, .int .u64 tb, .int .u64 tt, .int .u64 sq, .int .u64 ak, v] 28)
    have HW : Hid (Grow w (w.alloc (.cells #[.int .i64 kd, .int .i64 nd, .int .u64 mb, .int .u64 mt, .int .u64 tb, .int .u64 tt, .int .u64 sq, .int .u64 ak, v] 28))) := (Grow.refl w).alloc _
    clear c0
    go_enter Try.func9, Try.ntmps9
    go_wp2_with fail
    refine (HM.out _ HW.out).mono ?_
    rintro e w1 ⟨rfl, hg⟩
    have HG := Lib.hid (HW.out.trans hg)
    clear hg
    go_wp2_with fail
    go_ret2
    exact HS.out _ HG.out
  · have HS : Hid (∀ u w', NewBytes w fb u w' → SomeBytes f w (.returned (.tuple #[u, .int .i64 0])) w') := fun u w' h => Or.inl ⟨HMF.out, u, rfl, by rw [HFB.out]; exact h⟩
    clear hok hfb HFB HMF
    obtain ⟨kd, nd, mb, mt, tb, tt, sq, ak, v, zs⟩ := f
    simp only [Fr.val, Fr.cells, frCells] at *
    have hF := heap_alloc_new w (.cells #[.int .i64 kd, .int .i64 nd, .int .u64 mb, .int .u64 mt, .int .u64 tb, .int .u64 tt, .int .u64 sq, .int .u64 ak, v] 28)
    have HF := Lib.hid hF
    have HW : Hid (Grow w (w.alloc (.cells #[.int .i64 kd, .int .i64 nd, .int .u64 mb, .int .u64 mt, .int .u64 tb, .int .u64 tt, .int .u64 sq, .int .u64 ak, v] 28))) := (Grow.refl w).alloc _
    clear hF
    go_enter Try.func9, Try.ntmps9
    go_wp2_with fail
    refine (HM.out _ HW.out).mono ?_
    rintro e w1 ⟨rfl, hg⟩
    obtain ⟨⟨f0, f1, f2, f3, f4⟩, f5, f6, f7, f8⟩ := blkF ((hg.block _ (lt_of_block HF.out)).trans HF.out)
    have HG := Lib.hid (HW.out.trans hg)
    clear hg
    go_wp2_with fail
    refine (HB.out _ HG.out).mono ?_
    rintro e w2 ⟨u, rfl, hn⟩
    have HN : Hid (NewBytes w fb u w2) := ⟨own_base' HG.out hn.1, HG.out.trans hn.2⟩
    clear hn
    go_wp2_with fail
    go_ret2
    exact HS.out _ _ HN.out
end Go.Proofs.Ytiphhjipgjpepaa
