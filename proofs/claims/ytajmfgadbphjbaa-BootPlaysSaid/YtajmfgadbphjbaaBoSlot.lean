/- boot.Slot, and the document's. -/
import Derived.Test.YtajmfgadbphjbaaBoMath
import Derived.Test.YtajmfgadbphjbaaAppend
set_option linter.unusedVariables false
set_option linter.unusedSimpArgs false
namespace Go.Proofs.Ytajmfgadbphjbaa
open Go.RowKit

theorem nat_not64 (c : Nat) (h : c < 18446744073709551616) : 18446744073709551615 ^^^ c = 18446744073709551615 - c := by
  have h1 : (BitVec.ofNat 64 c).toNat = c := by simp [BitVec.toNat_ofNat]; omega
  have h2 := BitVec.toNat_not (x := BitVec.ofNat 64 c)
  rw [BitVec.not_def, BitVec.toNat_xor, BitVec.toNat_allOnes, h1] at h2
  exact h2
theorem not64 {c : Int} (h : 0 ≤ c ∧ c < 18446744073709551616) : bits .xor .u64 IntKind.u64.max c = top64 - c := by
  have e : IntKind.u64.max = 18446744073709551615 := rfl
  rw [e, u64_xor 18446744073709551615 c (by omega) (by omega) h.1 h.2]
  have : (18446744073709551615 : Int).toNat = 18446744073709551615 := rfl
  rw [this, nat_not64 _ (by omega)]
  unfold top64
  omega
theorem top_bd {c : Int} (h : 0 ≤ c ∧ c < 18446744073709551616) : 0 ≤ top64 - c ∧ top64 - c < 18446744073709551616 := by unfold top64; omega

theorem own_grow {w w' : World} {base : Nat} {e : TypeId} {size : Nat} {v : Value} {n : Nat} {xs : List Value} (h : w.ownsRow base e size v n xs) (hg : Grow w w') : w'.ownsRow base e size v n xs := by
  obtain ⟨h1, h2⟩ := h
  refine ⟨h1, ?_⟩
  rcases h2 with h2 | ⟨g, cap, cur, e1, e2, e3, e4⟩
  · exact Or.inl h2
  · exact Or.inr ⟨g, cap, cur, e1, e2, (hg.block g (lt_of_block e3)).trans e3, e4⟩
theorem grow_own {w w1 w2 : World} {e : TypeId} {size : Nat} {v : Value} {n : Nat} {xs : List Value} (hg : Grow w w1) (h : w1.ownsRow w.heap.size e size v n xs) (hw : w1.grownBy w2 v.ownBlock) : Grow w w2 :=
  Below.grown hg hw hg.size (fun j hj => (h.lt j hj).1)

set_option maxHeartbeats 1000000 in
theorem slot_any (n : Int) (w : World) (hn : 0 ≤ n ∧ n < 18446744073709551616) :
    Calls Try.prog 8 #[.int .u64 n] w fun e w' => ∃ v, e = .returned v ∧ NewBytes w (slotB n) v w' := by
  obtain ⟨i0, hi, hz0, hz1, hz2⟩ := info_parts infoByte
  have H1 : Hid (∀ x, Calls Try.prog 28 #[.int .u64 n, .int .i64 8] x fun e w' => ∃ v, e = .returned (.tuple #[v, .int .i64 0]) ∧ NewBytes x (be8 n) v w') := fun x => put8 n x hn
  have H2 : Hid (∀ x, Calls Try.prog 28 #[.int .u64 (top64 - n), .int .i64 8] x fun e w' => ∃ v, e = .returned (.tuple #[v, .int .i64 0]) ∧ NewBytes x (be8 (top64 - n)) v w') := fun x => put8 _ x (top_bd hn)
  have hx := not64 hn
  go_enter Try.func8, Try.ntmps8
  go_wp2_with fail
  refine (H1.out _).mono ?_
  rintro e w1 ⟨v1, rfl, h1⟩
  have G1 := Lib.hid h1
  clear h1
  go_wp2_with fail
  refine (H2.out _).mono ?_
  rintro e w2 ⟨v2, rfl, h2⟩
  have G2 := Lib.hid h2
  clear h2
  have ho : w2.ownsRow w.heap.size 5 1 v1 8 ((be8 n).map (Value.int .u8)) := by
    have := own_grow G1.out.1 G2.out.2
    rwa [be8_length] at this
  have HG : Hid (Grow w w2) := Grow.trans G1.out.2 G2.out.2
  have HI : Hid (IntsV .u8 w2 v2 (be8 (top64 - n))) := ints_of_owns G2.out.1
  have HL : Hid ((be8 (top64 - n)).length = 8) := be8_length _
  have HO := Lib.hid ho
  have HS : Hid (slotB n = be8 n ++ be8 (top64 - n)) := rfl
  clear ho G1 G2 H1 H2 hx
  generalize be8 (top64 - n) = y at *
  generalize be8 n = x at *
  go_wp2_with (at_builtin; refine wpList_append_ints (k := .u8) rfl _ _ 23 rfl w.heap.size 5 i0 1 Try.underlying23 hi hz0 hz1 hz2 _ 8 _ rfl HO.out _ y rfl HI.out ?c3 ?c4 ?c5 ?_)
  case c3 => rw [HL.out]; unfold maxLen; omega
  case c4 => rw [HL.out]; omega
  case c5 => exact HG.out.size
  · intro v' w3 hown' hgrow
    have HR : Hid (NewBytes w (slotB n) v' w3) := by
      refine ⟨?_, grow_own HG.out HO.out hgrow⟩
      have e : 8 + y.length = (slotB n).length := by rw [HL.out, slotB_length]
      rw [e, ← List.map_append, ← HS.out] at hown'
      exact hown'
    clear hown' hgrow
    go_wp2_with fail
    go_ret
    exact ⟨_, rfl, HR.out⟩
end Go.Proofs.Ytajmfgadbphjbaa
