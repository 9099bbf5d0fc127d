/- boot.Make. -/
import Derived.Test.YtajmfgadbphjbaaBoBegin
import Derived.Test.YtajmfgadbphjbaaStMine
import Derived.Test.YtajmfgadbphjbaaDrawnUse
set_option linter.unusedVariables false
set_option linter.unusedSimpArgs false
namespace Go.Proofs.Ytajmfgadbphjbaa
open Go.RowKit

theorem str_append (a b : List Int) : strOfNums (a ++ b) = strOfNums a ++ strOfNums b := by
  apply ByteArray.ext
  simp [strOfNums]

theorem bytes_stay (zs : List Int) : ∀ (u : Value) (w w' : World), GrowBut NoBlock w w' → BytesV w u zs → BytesV w' u zs := fun _ _ _ h hr => hr.mono h.below

theorem newb_bytes {w w1 : World} {v : Value} {zs : List Int} (h : NewBytes w zs v w1) (hb : Bytes zs) : BytesV w1 v zs := ⟨hb, ints_of_owns h.1⟩

def two0 : List Int := slotB 0 ++ slotB 0
theorem two0_length : two0.length = 32 := by simp [two0, slotB_length]
theorem two0_bytes : Bytes two0 := (slotB_bytes 0).append (slotB_bytes 0)

/-- What Make tells is what its Write tells. -/
theorem make_of {w : World} {v : Value} {m : Nat} {R : Int → World → Prop} (hm : m = 0 ∨ 32 ≤ m) (hm2 : m ≤ 4096)
    (hL : Calls Try.prog 33 #[v] w fun e w' => e = .returned (.int .i64 (m : Nat)) ∧ w = w')
    (hW : ∀ w3 u, Grow w w3 → w3.ownsRow w.heap.size 5 1 u 32 (two0.map (Value.int .u8)) → Calls Try.prog 13 #[v, .int .i64 0, u] w3 fun e w' => ∃ r, e = .returned (.int .i64 r) ∧ R r w') :
    Calls Try.prog 17 #[v] w fun e w' => ∃ r, e = .returned (.int .i64 r) ∧ R r w' := by
  obtain ⟨i0, hi, hz0, hz1, hz2⟩ := info_parts infoByte
  have HS : Hid (∀ x, Calls Try.prog 8 #[.int .u64 0] x fun e w' => ∃ v, e = .returned v ∧ NewBytes x (slotB 0) v w') := fun x => slot_any 0 x (by omega)
  have HL0 : Hid ((slotB 0).length = 16) := slotB_length 0
  have HT : Hid (two0 = slotB 0 ++ slotB 0) := rfl
  have HW := Lib.hid hW
  have HLen := Lib.hid hL
  have key : Hid (∀ Q : Prop, ((decide (0 < (m : Int)) = true → decide ((m : Int) < 32) = false) → Q) → Q) := fun Q h => h (fun h0 => by simp at h0 ⊢; omega)
  clear hW hL
  generalize slotB 0 = zs at *
  generalize two0 = tt at *
  have e3 : Hid (∃ a b, (a && b) = false ∧ decide (0 < (m : Int)) = a ∧ decide ((m : Int) < 32) = b) := ⟨_, _, by rcases hm with rfl | hm; rfl; simp; omega, rfl, rfl⟩
  rcases hm with rfl | hm
  all_goals
    try have b1 : (0 : Int) < (m : Int) := by omega
    try have b2 : (32 : Int) ≤ (m : Int) := by omega
    go_enter Try.func17, Try.ntmps17
    go_wp2_with (go_at_call 33; refine HLen.out.mono ?_; rintro e w' ⟨rfl, rfl⟩)
    refine (HS.out _).mono ?_
    rintro e w1 ⟨v1, rfl, h1⟩
    have G1 := Lib.hid h1
    clear h1
    go_wp2_with fail
    refine (HS.out _).mono ?_
    rintro e w2 ⟨v2, rfl, h2⟩
    have ho : w2.ownsRow w.heap.size 5 1 v1 16 (zs.map (Value.int .u8)) := by
      have := own_grow G1.out.1 h2.2
      rwa [HL0.out] at this
    have HG : Hid (Grow w w2) := Grow.trans G1.out.2 h2.2
    have HI : Hid (IntsV .u8 w2 v2 zs) := ints_of_owns h2.1
    have HO := Lib.hid ho
    clear h2 ho G1
    go_wp2_with (at_builtin; refine wpList_append_ints (k := .u8) rfl _ _ 23 rfl w.heap.size 5 i0 1 Try.underlying23 hi hz0 hz1 hz2 _ 16 _ rfl HO.out _ zs rfl HI.out ?c3 ?c4 ?c5 ?_)
    case c3 => rw [HL0.out]; unfold maxLen; omega
    case c4 => rw [HL0.out]; omega
    case c5 => exact HG.out.size
    · intro v' w3 hown' hgrow
      have hr := grow_own HG.out HO.out hgrow
      rw [HL0.out, ← List.map_append, ← HT.out] at hown'
      have HWW := Lib.hid (HW.out w3 v' hr hown')
      clear hown' hgrow hr
      go_wp2_with fail
      refine HWW.out.mono ?_
      rintro e w4 ⟨r, rfl, hR⟩
      have HR := Lib.hid hR
      clear hR
      go_wp2_with fail
      go_ret
      exact ⟨r, rfl, HR.out⟩

theorem write_nil (w : World) (ao : Option Addr) (n cap : Nat) (hn : n ≤ cap) (hc : cap ≤ maxLen) : Calls Try.prog 13 #[.pointer none, .int .i64 0, .slice ao n cap] w fun e w' => e = .returned (.int .i64 1) ∧ w = w' := by
  unfold maxLen at hc
  have HW : Hid (∀ a b, Calls Try.prog 31 #[.pointer none, .int .i64 a, .int .i64 b] w fun e w' => e = .returned (.int .i64 1) ∧ w = w') := fun a b => by
    go_enter Try.func31, Try.ntmps31
    go_wp2_with (go_at_call 33; refine (len_nil _).mono ?_; rintro e w' ⟨rfl, rfl⟩)
    go_ret
    exact ⟨rfl, rfl⟩
  go_enter Try.func13, Try.ntmps13
  go_wp2_with (first | go_step3 | (go_at_call 31; refine (HW.out _ _).mono ?_; rintro e w' ⟨rfl, rfl⟩))
  try rw [Exit.noGoto_ret]
  go_ret
  exact ⟨rfl, rfl⟩

theorem make_nil (w : World) : Calls Try.prog 17 #[.pointer none] w fun e w' => e = .returned (.int .i64 1) ∧ Grow w w' := by
  refine (make_of (m := 0) (R := fun r w' => r = 1 ∧ Grow w w') (Or.inl rfl) (by omega) (len_nil w) (fun w3 u hg ho => ?_)).mono ?_
  · obtain ⟨ao, cap, hu, h1, h2⟩ := (ints_of_owns ho).shape
    rw [hu, two0_length]
    refine (write_nil w3 ao 32 cap (by have := two0_length; omega) h2).mono ?_
    rintro e w' ⟨rfl, rfl⟩
    exact ⟨1, rfl, rfl, hg⟩
  · rintro e w' ⟨r, rfl, rfl, hg⟩
    exact ⟨rfl, hg⟩

theorem make_small {w : World} {P g : Nat} {st : St} (h : StoreV w P g st) (hl : st.cells.length < 32) : Calls Try.prog 17 #[.pointer (some ⟨P, 0, none⟩)] w fun e w' => e = .returned (.int .i64 2) ∧ w = w' := by
  have HL := Lib.hid (len_any h)
  have b1 : (0 : Int) < (st.cells.length : Int) := by have := h.pos; omega
  have b2 : (st.cells.length : Int) < 32 := by omega
  clear h hl
  generalize st.cells.length = m at *
  go_enter Try.func17, Try.ntmps17
  go_wp2_with (go_at_call 33; refine HL.out.mono ?_; rintro e w' ⟨rfl, rfl⟩)
  go_ret
  exact ⟨rfl, rfl⟩

theorem mine_make {w0 w : World} {P g : Nat} {st : St} (h : Mine w0 w P g st) (hl : 32 ≤ st.cells.length) (hd : st.dead = false) (st' : St) (h1 : wrote st 0 two0 = st') (h2 : st'.dead = false) :
    Calls Try.prog 17 #[.pointer (some ⟨P, 0, none⟩)] w fun e w' => e = .returned (.int .i64 0) ∧ Mine w0 w' P g st' := by
  refine (make_of (R := fun r w' => r = 0 ∧ Mine w0 w' P g st') (Or.inr hl) h.store.le (len_any h.store) (fun w3 u hg ho => ?_)).mono ?_
  · have hm := h.grow hg
    have hP := h.store.ltP
    have hgg := h.store.ltG
    have hheld : Held P g w3 u two0 := fun w' hw => ⟨two0_bytes, ints_of_owns (own_but ho hw (fun k hk => by simp only [Own] at hk; omega))⟩
    refine (write_any hm.store 0 u two0 hheld (by rw [two0_length]; omega) hd).mono ?_
    rintro e w' ⟨rfl, hs, hg2⟩
    rw [h1] at hs
    refine ⟨_, rfl, ?_, hm.turn hs hg2⟩
    rw [wrRes, h1, h2]; rfl
  · rintro e w' ⟨r, rfl, rfl, hg⟩
    exact ⟨rfl, hg⟩

theorem mine_begin {w0 w : World} {P g : Nat} {st : St} (h : Mine w0 w P g st) (n err : Int) (st' : St) (h1 : beginNum st = n) (h2 : beginErr st = err) (h3 : beginSt st = st') :
    Calls Try.prog 14 #[.pointer (some ⟨P, 0, none⟩)] w fun e w' => e = .returned (.tuple #[.int .u64 n, .int .i64 err]) ∧ Mine w0 w' P g st' := by
  refine (begin_any h.store).mono ?_
  rintro e w' ⟨rfl, hs, hg⟩
  subst h1
  subst h2
  subst h3
  exact ⟨rfl, h.turn hs hg⟩
end Go.Proofs.Ytajmfgadbphjbaa
