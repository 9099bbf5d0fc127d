/- boot.Good. -/
import Derived.Test.YtajmfgadbphjbaaBoEq
set_option linter.unusedVariables false
set_option linter.unusedSimpArgs false
namespace Go.Proofs.Ytajmfgadbphjbaa
open Go.RowKit

instance (zs : List Int) : Decidable (GoodB zs) := by unfold GoodB; infer_instance
def goodNum (zs : List Int) : Int := if GoodB zs then beN (zs.take 8) else 0

theorem grow_dn {a b : World} (h : Grow a b) (n : Nat) : Grow a (b.drewN n) := ⟨h.os, h.tape, h.output, h.size, h.block⟩

theorem good_other (ao : Option Addr) (n c : Nat) (w : World) (h : n ≠ 16) (hc : c ≤ maxLen) (hn : n ≤ c) :
    Calls Try.prog 9 #[.slice ao n c] w fun e w' => e = .returned (.tuple #[.int .u64 0, .bool false]) ∧ w = w' := by
  have h1 : ((n : Int) == 16) = false := by simp; omega
  unfold maxLen at hc
  go_enter Try.func9, Try.ntmps9
  go_wp2_with fail
  go_ret2
  exact ⟨rfl, rfl⟩

set_option maxHeartbeats 1000000 in
theorem good_any {w : World} {b off c : Nat} {zs : List Int} (hb : Bytes zs) (hz : zs.length = 16) (h1 : ∀ i, i < 16 → w.cell? ⟨b, off + i, none⟩ = some (.int .u8 (zs.getD i 0))) (hc : 16 ≤ c) (hm : c ≤ maxLen) :
    Calls Try.prog 9 #[.slice (some ⟨b, off, none⟩) 16 c] w fun e w' => e = .returned (.tuple #[.int .u64 (goodNum zs), .bool (decide (GoodB zs))]) ∧ Grow w w' := by
  have H1 := Lib.hid h1
  have HB := Lib.hid hb
  have HZ := Lib.hid hz
  have hN := beN_lt hb 8
  have hN8 : 0 ≤ beN (zs.take 8) ∧ beN (zs.take 8) < 18446744073709551616 := ⟨hN.1, Int.lt_of_lt_of_le hN.2 (by decide)⟩
  have hg : Calls Try.prog 29 #[.slice (some ⟨b, off, none⟩) 8 c] w fun e w' => e = .returned (.tuple #[.int .u64 (beN (zs.take 8)), .int .i64 0]) ∧ w = w' :=
    get8 b off c (zs.take 8) w (fun x hx => hb x (List.mem_of_mem_take hx)) (fun i hi => by
      rw [List.length_take, hz] at hi
      rw [h1 i (by omega)]
      simp only [List.getD_eq_getElem?_getD]; rw [List.getElem?_take_of_lt (by omega)]) (by rw [List.length_take, hz]; rfl) (by omega) hm
  have HG := Lib.hid hg
  have HSl : Hid (∀ x, Calls Try.prog 8 #[.int .u64 (beN (zs.take 8))] x fun e w' => ∃ v, e = .returned v ∧ NewBytes x (slotB (beN (zs.take 8))) v w') := fun x => slot_any _ x hN8
  have HE : Hid (decide (zs = slotB (beN (zs.take 8))) = decide (GoodB zs)) := by
    show decide _ = decide _
    exact decide_eq_decide.2 (good_slotB hb hz).symm
  have HGN : Hid (goodNum zs = if GoodB zs then beN (zs.take 8) else 0) := rfl
  unfold maxLen at hm
  clear h1 hb hz hN hN8 hg
  generalize beN (zs.take 8) = m at *
  go_enter Try.func9, Try.ntmps9
  go_wp2_with fail
  refine HG.out.mono ?_
  rintro e w' ⟨rfl, rfl⟩
  go_wp2_with fail
  refine (HSl.out _).mono ?_
  rintro e w2 ⟨v, rfl, hnb⟩
  have hiv := ints_of_owns hnb.1
  obtain ⟨b2, off2, c2, rfl, _, hc2⟩ := hiv.solid (fun e => by have := slotB_length m; rw [e] at this; simp at this)
  have heq := bytes_equal (w := w2) (b := b) (off := off) (c := c) (b' := b2) (off' := off2) (c' := c2) (n := 16) HZ.out (slotB_length m) (by omega) (fun i hi => (hnb.2.cell (block_lt (H1.out i hi))).trans (H1.out i hi)) (fun i hi => hiv.cells i (by rw [slotB_length]; exact hi))
  rw [HE.out] at heq
  have HQ := Lib.hid heq
  have HW := Lib.hid hnb.2
  rw [slotB_length]
  clear hiv heq hnb
  go_wp2_with fail
  refine HQ.out.mono ?_
  rintro e w3 ⟨rfl, q, rfl⟩
  by_cases hgd : GoodB zs
  · have e1 : Hid (goodNum zs = m ∧ decide (GoodB zs) = true) := ⟨by rw [HGN.out, if_pos hgd], decide_eq_true hgd⟩
    rw [e1.out.2]
    clear hgd
    go_wp2_with fail
    go_ret2
    exact ⟨by rw [e1.out.1, e1.out.2]; rfl, grow_dn HW.out q⟩
  · have e1 : Hid (goodNum zs = 0 ∧ decide (GoodB zs) = false) := ⟨by rw [HGN.out, if_neg hgd], decide_eq_false hgd⟩
    rw [e1.out.2]
    clear hgd
    go_wp2_with fail
    go_ret2
    exact ⟨by rw [e1.out.1, e1.out.2]; rfl, grow_dn HW.out q⟩
end Go.Proofs.Ytajmfgadbphjbaa
