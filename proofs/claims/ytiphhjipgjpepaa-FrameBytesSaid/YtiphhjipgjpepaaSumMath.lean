/- Plain arithmetic of sums with carry: no program in sight. -/
set_option linter.unusedVariables false
namespace Go.Proofs.Ytiphhjipgjpepaa

/-- The sum with carry of two 16-bit numbers. -/
def addc (x y : Int) : Int := if 65536 ≤ x + y then x + y - 65535 else x + y

/-- What a sum comes to, if it is reckoned with carry: 0 for 0, else the number from 1 to 65535 that is left of it. -/
def nrm (s : Int) : Int := if s ≤ 0 then 0 else (s - 1) % 65535 + 1

theorem addc_bd {x y : Int} (hx : 0 ≤ x) (hx' : x < 65536) (hy : 0 ≤ y) (hy' : y < 65536) : 0 ≤ addc x y ∧ addc x y < 65536 := by
  unfold addc; split <;> omega

theorem nrm_bd (s : Int) : 0 ≤ nrm s ∧ nrm s < 65536 := by
  unfold nrm; split <;> omega

theorem nrm_id {x : Int} (h : 0 ≤ x) (h' : x < 65536) : nrm x = x := by
  unfold nrm; split <;> omega

theorem addc_nrm {a b : Int} (ha : 0 ≤ a) (hb : 0 ≤ b) : addc (nrm a) (nrm b) = nrm (a + b) := by
  unfold addc nrm
  split <;> split <;> split <;> split <;> omega

theorem addc_comm (x y : Int) : addc x y = addc y x := by unfold addc; rw [Int.add_comm]

theorem addc_assoc {x y z : Int} (hx : 0 ≤ x) (hx' : x < 65536) (hz : 0 ≤ z) (hz' : z < 65536) : addc (addc x y) z = addc x (addc y z) := by
  unfold addc; split <;> split <;> split <;> (try split) <;> omega

/-- The sum of the words of bytes. -/
def bsum : List Int → Int
  | [] => 0
  | [a] => 256 * a
  | a :: b :: r => 256 * a + b + bsum r

def Bytes (l : List Int) : Prop := ∀ z ∈ l, 0 ≤ z ∧ z < 256

theorem Bytes.nil : Bytes [] := fun _ h => by cases h
theorem Bytes.cons {a : Int} {l : List Int} (h : Bytes (a :: l)) : (0 ≤ a ∧ a < 256) ∧ Bytes l := ⟨h a (by simp), fun z hz => h z (by simp [hz])⟩
theorem Bytes.append {k l : List Int} (h : Bytes k) (h' : Bytes l) : Bytes (k ++ l) := fun z hz => by
  rcases List.mem_append.1 hz with hz | hz
  · exact h z hz
  · exact h' z hz
theorem Bytes.take {l : List Int} (h : Bytes l) (n : Nat) : Bytes (l.take n) := fun z hz => h z (List.mem_of_mem_take hz)
theorem Bytes.drop {l : List Int} (h : Bytes l) (n : Nat) : Bytes (l.drop n) := fun z hz => h z (List.mem_of_mem_drop hz)
theorem Bytes.getD {l : List Int} (h : Bytes l) (k : Nat) : 0 ≤ l.getD k 0 ∧ l.getD k 0 < 256 := by
  by_cases hk : k < l.length
  · have : l.getD k 0 = l[k] := by simp [hk]
    rw [this]; exact h _ (List.getElem_mem hk)
  · have : l.getD k 0 = 0 := by simp [Nat.le_of_not_lt hk]
    rw [this]; omega

theorem bsum_nonneg : ∀ {l : List Int}, Bytes l → 0 ≤ bsum l
  | [], _ => by simp [bsum]
  | [a], h => by have := h a (by simp); simp [bsum]; omega
  | a :: b :: r, h => by
    have h1 := h a (by simp); have h2 := h b (by simp)
    have := bsum_nonneg (l := r) (fun z hz => h z (by simp [hz]))
    simp [bsum]; omega

/-- One byte is taken: the sum so far, the high byte, whether there is one. -/
def tstep (s : Int × Int × Bool) (b : Int) : Int × Int × Bool := (if s.2.2 then addc s.1 (256 * s.2.1 + b) else s.1, b, !s.2.2)
def tfin (s : Int × Int × Bool) : Int := if s.2.2 then addc s.1 (256 * s.2.1) else s.1
def tst (bs : List Int) : Int × Int × Bool := bs.foldl tstep (0, 0, false)

theorem tst_snoc (bs : List Int) (b : Int) : tst (bs ++ [b]) = tstep (tst bs) b := by simp [tst, List.foldl_append]

theorem addc_nrm' {a b : Int} (ha : 0 ≤ a) (hb : 0 ≤ b) (hb' : b < 65536) : addc (nrm a) b = nrm (a + b) := by
  have := addc_nrm ha hb
  rwa [nrm_id hb hb'] at this

theorem tfin_from : ∀ (bs : List Int) (n h : Int), 0 ≤ n → Bytes bs → tfin (bs.foldl tstep (nrm n, h, false)) = nrm (n + bsum bs)
  | [], n, h, hn, _ => by simp [tfin, bsum]
  | [a], n, h, hn, hb => by
    have := hb a (by simp)
    simp only [List.foldl, tstep, tfin, bsum]
    simp
    exact addc_nrm' hn (by omega) (by omega)
  | a :: b :: r, n, h, hn, hb => by
    have h1 := hb a (by simp); have h2 := hb b (by simp)
    have hr : Bytes r := fun z hz => hb z (by simp [hz])
    simp only [List.foldl, tstep, bsum]
    simp only [Bool.not_false, Bool.not_true, if_true, Bool.false_eq_true, if_false]
    rw [addc_nrm' hn (by omega) (by omega), tfin_from r _ b (by omega) hr]
    congr 1; omega

theorem tfin_tst (bs : List Int) (h : Bytes bs) : tfin (tst bs) = nrm (bsum bs) := by
  have := tfin_from bs 0 0 (by omega) h
  simpa [tst, nrm] using this

/-- The state stays within bounds. -/
theorem tst_bd (bs : List Int) (h : Bytes bs) : (0 ≤ (tst bs).1 ∧ (tst bs).1 < 65536) ∧ 0 ≤ (tst bs).2.1 ∧ (tst bs).2.1 < 256 := by
  suffices ∀ (l : List Int) (s : Int × Int × Bool), Bytes l → ((0 ≤ s.1 ∧ s.1 < 65536) ∧ 0 ≤ s.2.1 ∧ s.2.1 < 256) → ((0 ≤ (l.foldl tstep s).1 ∧ (l.foldl tstep s).1 < 65536) ∧ 0 ≤ (l.foldl tstep s).2.1 ∧ (l.foldl tstep s).2.1 < 256) from this bs _ h (by simp)
  intro l
  induction l with
  | nil => intro s _ hs; exact hs
  | cons b r ih =>
    intro s hb hs
    obtain ⟨h1, h2⟩ := hb.cons
    refine ih _ h2 ?_
    simp only [tstep]
    refine ⟨?_, h1⟩
    split
    · exact addc_bd hs.1.1 hs.1.2 (by omega) (by omega)
    · exact hs.1

/-- The sum of bytes of an even number, and of others behind them. -/
theorem bsum_append : ∀ (k l : List Int), k.length % 2 = 0 → bsum (k ++ l) = bsum k + bsum l
  | [], l, _ => by simp [bsum]
  | [a], l, h => by simp at h
  | a :: b :: r, l, h => by
    have := bsum_append r l (by simp at h; omega)
    simp only [List.cons_append, bsum, this]; omega

end Go.Proofs.Ytiphhjipgjpepaa
