/- A store of two good slots, plainly. -/
import Derived.Test.YtajmfgadbphjbaaBoKnown
import Derived.Lib.Bytes
set_option linter.unusedVariables false
set_option linter.unusedSimpArgs false
namespace Go.Proofs.Ytajmfgadbphjbaa
open Go.RowKit

theorem ofNat_inj {x y : Int} (hx : 0 ≤ x ∧ x < 256) (hy : 0 ≤ y ∧ y < 256) (h : UInt8.ofNat x.toNat = UInt8.ofNat y.toNat) : x = y := by
  have := congrArg UInt8.toNat h
  simp only [UInt8.toNat_ofNat'] at this
  omega
theorem str_inj {zs ys : List Int} (hz : Bytes zs) (hy : Bytes ys) (h : strOfNums zs = strOfNums ys) : zs = ys := by
  have h1 : zs.map (fun n => UInt8.ofNat n.toNat) = ys.map (fun n => UInt8.ofNat n.toNat) := by
    have := congrArg (fun s => s.data.toList) h
    simpa [strOfNums] using this
  clear h
  induction zs generalizing ys with
  | nil => cases ys with
    | nil => rfl
    | cons y r => simp at h1
  | cons z r ih =>
    cases ys with
    | nil => simp at h1
    | cons y s =>
      simp only [List.map_cons, List.cons.injEq] at h1
      rw [ofNat_inj (hz z (by simp)) (hy y (by simp)) h1.1, ih (fun x hx => hz x (by simp [hx])) (fun x hx => hy x (by simp [hx])) h1.2]
theorem slotB_inj {a b : Int} (ha : 0 ≤ a ∧ a < 18446744073709551616) (hb : 0 ≤ b ∧ b < 18446744073709551616) (h : slotB a = slotB b) : a = b := by
  rw [← (slotB_good ha).2, ← (slotB_good hb).2, h]
theorem slot_str_ne {a b : Int} (ha : 0 ≤ a ∧ a < 18446744073709551616) (hb : 0 ≤ b ∧ b < 18446744073709551616) (h : a ≠ b) : ((strOfNums (slotB a)).toList == (strOfNums (slotB b)).toList) = false :=
  beq_eq_false_iff_ne.2 (fun e => h (slotB_inj ha hb (str_inj (slotB_bytes a) (slotB_bytes b) (by
    rw [Lib.toList_data, Lib.toList_data] at e
    exact ByteArray.ext (Array.toList_inj.1 e)))))

theorem wrote_free (zs : List Int) : ∀ (st : St) (k : Nat), st.fuse = -1 → (wrote st k zs).dead = st.dead ∧ (wrote st k zs).fuse = -1 := by
  induction zs with
  | nil => intro st k h; exact ⟨rfl, h⟩
  | cons b r ih =>
    intro st k h
    rw [wrote, if_neg (by rw [h]; decide)]
    exact ih (st.put1 k b) (k + 1) (by simp [St.put1, h])
theorem wrote_away (zs : List Int) (j m : Nat) : ∀ (st : St) (k : Nat), j + m ≤ k ∨ k + zs.length ≤ j → part (wrote st k zs) j m = part st j m := by
  have set_away : ∀ (cs : List (Int × Bool)) (k : Nat) (c : Int × Bool), j + m ≤ k ∨ k < j → ((cs.set k c).drop j).take m = (cs.drop j).take m := by
    intro cs k c h
    rcases h with h | h
    · by_cases hj : k < j
      · rw [List.drop_set_of_lt hj]
      · rw [List.drop_set, if_neg hj, List.take_set_of_le (by omega)]
    · rw [List.drop_set_of_lt h]
  induction zs with
  | nil => intro st k h; rfl
  | cons b r ih =>
    intro st k h
    rw [List.length_cons] at h
    rw [wrote]
    split
    · exact set_away st.cells k _ (by omega)
    · rw [ih (st.put1 k b) (k + 1) (by omega)]
      exact set_away st.cells k _ (by omega)

theorem half_of {st : St} {i : Nat} {n : Int} (h : part st (16 * i) 16 = (slotB n).map fun z => (z, false)) (hn : 0 ≤ n ∧ n < 18446744073709551616) : halfGood st i = true ∧ halfNum st i = n := by
  have e : halfB st i = slotB n := by unfold halfB; rw [h]; simp [Function.comp_def]
  obtain ⟨h1, h2⟩ := slotB_good hn
  have g : halfGood st i = true := by
    unfold halfGood
    rw [e, h, decide_eq_true h1]
    simp
  exact ⟨g, by unfold halfNum; rw [g, e, if_pos rfl, h2]⟩

/-- Two good slots. -/
structure Two (st : St) (a b : Int) : Prop where
  len : st.cells.length = 40
  dead : st.dead = false
  fuse : st.fuse = -1
  one : part st 0 16 = (slotB a).map fun z => (z, false)
  two : part st 16 16 = (slotB b).map fun z => (z, false)
  ha : 0 ≤ a ∧ a < 18446744073709551616
  hb : 0 ≤ b ∧ b < 18446744073709551616

theorem two_made (a b : Int) (ha : 0 ≤ a ∧ a < 18446744073709551616) (hb : 0 ≤ b ∧ b < 18446744073709551616) : Two (wrote (wrote (St.fresh 40) 0 (slotB a)) 16 (slotB b)) a b := by
  have l1 : (wrote (St.fresh 40) 0 (slotB a)).cells.length = 40 := by rw [wrote_length']; rfl
  have f1 := wrote_free (slotB a) (St.fresh 40) 0 rfl
  have f2 := wrote_free (slotB b) (wrote (St.fresh 40) 0 (slotB a)) 16 f1.2
  have d1 : (wrote (St.fresh 40) 0 (slotB a)).dead = false := f1.1
  have d2 := f2.1.trans d1
  have p1 := wrote_part (slotB a) (St.fresh 40) 0 d1 (by rw [slotB_length]; decide)
  have p2 := wrote_part (slotB b) (wrote (St.fresh 40) 0 (slotB a)) 16 d2 (by rw [slotB_length, l1]; decide)
  rw [slotB_length] at p1 p2
  exact ⟨by rw [wrote_length', l1], d2, f2.2, (wrote_away (slotB b) 0 16 _ 16 (by omega)).trans p1, p2, ha, hb⟩

section
variable {st : St} {a b : Int} (h : Two st a b)
include h
theorem Two.halves : (halfGood st 0 = true ∧ halfNum st 0 = a) ∧ halfGood st 1 = true ∧ halfNum st 1 = b := ⟨half_of h.one h.ha, half_of h.two h.hb⟩
theorem Two.why : whyOf st = 0 := by
  unfold whyOf
  rw [h.len, h.dead, h.halves.1.1]
  rfl
theorem Two.cnt : cntOf st = max a b := by
  unfold cntOf
  rw [h.why, if_pos rfl, h.halves.1.2, h.halves.2.2]
theorem Two.at16 (hlt : b < a) : beginAt st = 16 := by
  unfold beginAt
  rw [h.halves.1.1, h.halves.2.1, h.halves.1.2, h.halves.2.2, decide_eq_true hlt]
  rfl
theorem Two.at0 (hlt : ¬ b < a) : beginAt st = 0 := by
  unfold beginAt
  rw [h.halves.1.1, h.halves.2.1, h.halves.1.2, h.halves.2.2, decide_eq_false hlt]
  rfl
theorem Two.full (ht : max a b = top64) : beginErr st = 5 ∧ beginNum st = 0 ∧ beginSt st = st := by
  have e1 : beginErr st = 5 := by unfold beginErr; rw [if_neg (by rw [h.why]; decide), if_pos (by rw [h.cnt]; exact ht)]
  exact ⟨e1, by unfold beginNum; rw [e1]; rfl, by unfold beginSt; rw [if_neg (fun hh => hh.2 (by rw [h.cnt]; exact ht))]⟩
theorem Two.next (n : Int) (hn : n = max a b + 1) (ht : n < 18446744073709551616) : beginErr st = 0 ∧ beginNum st = n ∧ Two (beginSt st) (if b < a then a else n) (if b < a then n else b) := by
  have h0 := h.ha
  have h1 := h.hb
  have hne : ¬ cntOf st = top64 := by rw [h.cnt]; unfold top64; omega
  have hnb : 0 ≤ n ∧ n < 18446744073709551616 := by omega
  have es : beginSt st = wrote st (beginAt st) (slotB n) := by
    unfold beginSt; rw [if_pos ⟨h.why, hne⟩, h.cnt, hn]
  have hf := wrote_free (slotB n) st (beginAt st) h.fuse
  have hd := hf.1.trans h.dead
  have e1 : beginErr st = 0 := by
    unfold beginErr; rw [if_neg (by rw [h.why]; decide), if_neg hne, es, hd]; rfl
  refine ⟨e1, by unfold beginNum; rw [e1, if_pos rfl, h.cnt, hn], ?_⟩
  rw [es]
  have hl : (wrote st (beginAt st) (slotB n)).cells.length = 40 := by rw [wrote_length', h.len]
  have hp := wrote_part (slotB n) st (beginAt st) hd
  rw [slotB_length, h.len] at hp
  by_cases hlt : b < a
  · rw [if_pos hlt, if_pos hlt]
    rw [h.at16 hlt] at hp hf hd hl ⊢
    exact ⟨hl, hd, hf.2, (wrote_away _ 0 16 st 16 (by omega)).trans h.one, hp (by decide), h0, hnb⟩
  · rw [if_neg hlt, if_neg hlt]
    rw [h.at0 hlt] at hp hf hd hl ⊢
    exact ⟨hl, hd, hf.2, hp (by decide), (wrote_away _ 16 16 st 0 (by rw [slotB_length]; omega)).trans h.two, hnb, h1⟩
end
end Go.Proofs.Ytajmfgadbphjbaa
