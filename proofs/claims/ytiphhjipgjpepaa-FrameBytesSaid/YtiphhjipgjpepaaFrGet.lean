/- The closure get; slices.Clone of bytes. -/
import Derived.Test.YtiphhjipgjpepaaFrOf
set_option linter.unusedVariables false
set_option linter.unusedSimpArgs false
namespace Go.Proofs.Ytiphhjipgjpepaa
open Go.RowKit

set_option maxHeartbeats 1000000 in
theorem get_closure {w : World} {B1 B2 b off m cap at' : Nat} {zs : List Int} (h1 : w.heap[B1]? = some (.cells #[.slice (some ⟨b, off, none⟩) m cap] 26 (0, 0))) (h2 : w.heap[B2]? = some (.cells #[.int .i64 (at' : Int)] 3 (0, 0)))
    (hb : Bytes zs) (hl : zs.length = m) (hc : ∀ i, i < m → w.cell? ⟨b, off + i, none⟩ = some (.int .u8 (zs.getD i 0))) (hmc : m ≤ cap) (hcm : cap ≤ maxLen) (ha : at' + 8 ≤ m) (ha2 : at' ≤ 100) :
    Calls Try.prog 34 #[.pointer (some ⟨B1, 0, none⟩), .pointer (some ⟨B2, 0, none⟩)] w fun e w' => e = .returned (.int .u64 (beN ((zs.drop at').take 8))) ∧ w' = w.setCell ⟨B2, 0, none⟩ (.int .i64 ((at' + 8 : Nat) : Int)) := by
  have HG : Hid (Calls Try.prog 35 #[.slice (some ⟨b, off + at', none⟩) 8 (cap - at')] w fun e w' => e = .returned (.tuple #[.int .u64 (beN ((zs.drop at').take 8)), .int .i64 0]) ∧ w = w') :=
    get8 b (off + at') (cap - at') ((zs.drop at').take 8) w ((hb.drop at').take 8) (fun i hi => by
      rw [List.length_take, List.length_drop] at hi
      rw [Nat.add_assoc, hc (at' + i) (by omega)]
      simp [List.getD_eq_getElem?_getD, List.getElem?_take, List.getElem?_drop]
      rw [if_pos (by omega)]) (by rw [List.length_take, List.length_drop]; omega) (by omega) (by omega)
  unfold maxLen at hcm
  have c1 := cell_of_one h1
  have c2 := cell_of_one h2
  have f2 := free_of_one h2
  have hne : ¬ cap = at' := by omega
  have e8 : at' + 8 - at' = 8 := by omega
  have b1 : (at' : Int) + 8 ≤ (m : Int) := by omega
  have b2 : (m : Int) ≤ (cap : Int) := by omega
  clear h1 h2 hb hc hl
  go_enter Try.func34, Try.ntmps34
  go_wp2_with fail
  refine HG.out.mono ?_
  rintro e w1 ⟨rfl, rfl⟩
  go_wp2_with fail
  go_ret
  exact ⟨rfl, by simp⟩

theorem addr_off {w : World} {b off m cap : Nat} {zs : List Int} (h : BytesV w (.slice (some ⟨b, off, none⟩) m cap) zs) : zs.length = m := by
  obtain ⟨ao, c, e, _, _⟩ := h.shape
  injection e with e1 e2 e3
  exact e2.symm

set_option maxHeartbeats 1000000 in
theorem clone_any {w : World} {b off m cap : Nat} {zs : List Int} (hv : BytesV w (.slice (some ⟨b, off, none⟩) m cap) zs) (hm : m ≤ 10000) :
    Calls Try.prog 36 #[.slice (some ⟨b, off, none⟩) m cap] w fun e w' => ∃ u, e = .returned u ∧ NewBytes w zs u w' := by
  obtain ⟨i0, hi, hz0, hz1, hz2⟩ := info_parts infoByte
  have hl := addr_off hv
  obtain ⟨_, _, e, hlc, hcm⟩ := hv.shape
  injection e with e1 e2 e3
  subst e3
  have HW : Hid (Grow w (w.alloc (.cells #[] 5))) := (Grow.refl w).alloc _
  have HI : Hid (IntsV .u8 (w.alloc (.cells #[] 5)) (.slice (some ⟨b, off, none⟩) m cap) zs) := hv.2.mono ((Below.refl _ _).alloc (Nat.le_refl _) _)
  have HO : Hid ((w.alloc (.cells #[] 5)).ownsRow w.heap.size 5 1 (.slice (some ⟨w.heap.size, 0, none⟩) 0 0) 0 []) := ⟨rfl, Or.inr ⟨w.heap.size, 0, #[], rfl, Nat.le_refl _, heap_alloc_new w _, Nat.le_refl _, Nat.zero_le _, rfl, rfl⟩⟩
  have HL := Lib.hid hl
  have hlm : zs.length ≤ 10000 := by omega
  unfold maxLen at hcm
  have q : ∀ (W : World) (n c n' c' : Nat), (binOp .eql 26 (.slice (some ⟨b, off, none⟩) n c) (.slice none n' c')).run Try.prog W = .ok (.bool false) W := fun W n c n' c' => Lib.run_eql_slice_nil W _ _ _ n c n' c' Try.underlying26
  clear hv hl e1 e2
  go_enter Try.func36, Try.ntmps36
  go_wp2_with (at_builtin; refine wpList_append_ints (k := .u8) rfl _ _ 26 rfl w.heap.size 5 i0 1 Try.underlying26 hi hz0 hz1 hz2 _ 0 [] rfl HO.out _ zs rfl HI.out ?c3 ?c4 ?c5 ?_)
  case c3 => unfold maxLen; omega
  case c4 => omega
  case c5 => exact HW.out.size
  · intro v' w2 hown hgrow
    have HR : Hid (NewBytes w zs v' w2) := by
      refine ⟨by simpa using hown, ?_⟩
      exact grow_own HW.out HO.out hgrow
    clear hown hgrow
    go_wp2_with fail
    go_ret
    exact ⟨_, rfl, HR.out⟩
end Go.Proofs.Ytiphhjipgjpepaa
