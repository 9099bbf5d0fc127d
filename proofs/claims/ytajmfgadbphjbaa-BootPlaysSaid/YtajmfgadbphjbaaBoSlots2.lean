/- boot.slots where it is refused; of any store; boot.Count. -/
import Derived.Test.YtajmfgadbphjbaaBoSlots
set_option linter.unusedVariables false
set_option linter.unusedSimpArgs false
namespace Go.Proofs.Ytajmfgadbphjbaa
open Go.RowKit

def slV (n0 n1 : Int) (g0 g1 : Bool) (c e : Int) : Value := .tuple #[.agg #[.int .u64 n0, .int .u64 n1], .agg #[.bool g0, .bool g1], .int .u64 c, .int .i64 e]

set_option maxRecDepth 20000 in
set_option maxHeartbeats 1000000 in
theorem slots_nil {w : World} {v : Value} (hL : ∀ x, Grow w x → Calls Try.prog 33 #[v] x fun e w' => e = .returned (.int .i64 0) ∧ x = w') :
    Calls Try.prog 32 #[v] w fun e w' => e = .returned (slV 0 0 false false 0 1) ∧ Grow w w' := by
  have HA : Hid (Arr w ((w.alloc (.cells #[.int .u64 0, .int .u64 0] 64)).alloc (.cells #[.bool false, .bool false] 65)) w.heap.size 0 0 false false) := Arr.new w
  obtain ⟨c0, c1, c2, c3, f0, f1⟩ := Arr.cells HA.out
  have p0 := f0 0
  have p1 := f0 1
  have q0 := f1 0
  have q1 := f1 1
  clear f0 f1
  have HLN := Lib.hid hL
  have HDD : Hid True := trivial
  clear hL
  go_enter Try.func32, Try.ntmps32
  go_wp2_with (first | (go_at_call 33; refine (HLN.out _ HA.out.grow).mono ?_; rintro e w' ⟨rfl, rfl⟩) | (go_at_call 26; refine (HDD.out _ HA.out.grow).mono ?_; rintro e w' ⟨rfl, rfl⟩))
  go_region
  all_goals go_wp2_with fail
  all_goals refine bodyPost_ret (v := slV 0 0 false false 0 1) (by simp [slV, results, Try.results32, go_sem, c0, c1, c2, c3]) rfl ⟨rfl, ?_⟩
  all_goals first | exact (HA.out.grow).drew | exact (Below.setCell (Below.setCell (Below.setCell (Below.setCell HA.out.grow (Nat.le_refl _) _) (Nat.le_refl _) _) (Nat.le_succ _) _) (Nat.le_succ _) _).drew

set_option maxRecDepth 20000 in
set_option maxHeartbeats 1000000 in
theorem slots_small {w : World} {v : Value} {m : Nat} (h0 : 0 < m) (h1 : m < 32) (hL : ∀ x, Grow w x → Calls Try.prog 33 #[v] x fun e w' => e = .returned (.int .i64 (m : Nat)) ∧ x = w') :
    Calls Try.prog 32 #[v] w fun e w' => e = .returned (slV 0 0 false false 0 2) ∧ Grow w w' := by
  have HA : Hid (Arr w ((w.alloc (.cells #[.int .u64 0, .int .u64 0] 64)).alloc (.cells #[.bool false, .bool false] 65)) w.heap.size 0 0 false false) := Arr.new w
  obtain ⟨c0, c1, c2, c3, f0, f1⟩ := Arr.cells HA.out
  have p0 := f0 0
  have p1 := f0 1
  have q0 := f1 0
  have q1 := f1 1
  clear f0 f1
  have HLN := Lib.hid hL
  have HDD : Hid True := trivial
  have e0 : ((m : Int) == 0) = false := by simp; omega
  clear hL
  go_enter Try.func32, Try.ntmps32
  go_wp2_with (first | (go_at_call 33; refine (HLN.out _ HA.out.grow).mono ?_; rintro e w' ⟨rfl, rfl⟩) | (go_at_call 26; refine (HDD.out _ HA.out.grow).mono ?_; rintro e w' ⟨rfl, rfl⟩))
  go_region
  all_goals go_wp2_with fail
  all_goals refine bodyPost_ret (v := slV 0 0 false false 0 2) (by simp [slV, results, Try.results32, go_sem, c0, c1, c2, c3]) rfl ⟨rfl, ?_⟩
  all_goals first | exact (HA.out.grow).drew | exact (Below.setCell (Below.setCell (Below.setCell (Below.setCell HA.out.grow (Nat.le_refl _) _) (Nat.le_refl _) _) (Nat.le_succ _) _) (Nat.le_succ _) _).drew

set_option maxRecDepth 20000 in
set_option maxHeartbeats 1000000 in
theorem slots_dead {w : World} {v : Value} {m : Nat} (h1 : 32 ≤ m) (hL : ∀ x, Grow w x → Calls Try.prog 33 #[v] x fun e w' => e = .returned (.int .i64 (m : Nat)) ∧ x = w') (hD : ∀ x, Grow w x → Calls Try.prog 26 #[v] x fun e w' => e = .returned (.bool true) ∧ x = w') :
    Calls Try.prog 32 #[v] w fun e w' => e = .returned (slV 0 0 false false 0 7) ∧ Grow w w' := by
  have HA : Hid (Arr w ((w.alloc (.cells #[.int .u64 0, .int .u64 0] 64)).alloc (.cells #[.bool false, .bool false] 65)) w.heap.size 0 0 false false) := Arr.new w
  obtain ⟨c0, c1, c2, c3, f0, f1⟩ := Arr.cells HA.out
  have p0 := f0 0
  have p1 := f0 1
  have q0 := f1 0
  have q1 := f1 1
  clear f0 f1
  have HLN := Lib.hid hL
  have HDD := Lib.hid hD
  have e0 : ((m : Int) == 0) = false := by simp; omega
  clear hL hD
  go_enter Try.func32, Try.ntmps32
  go_wp2_with (first | (go_at_call 33; refine (HLN.out _ HA.out.grow).mono ?_; rintro e w' ⟨rfl, rfl⟩) | (go_at_call 26; refine (HDD.out _ HA.out.grow).mono ?_; rintro e w' ⟨rfl, rfl⟩))
  go_region
  all_goals go_wp2_with fail
  all_goals refine bodyPost_ret (v := slV 0 0 false false 0 7) (by simp [slV, results, Try.results32, go_sem, c0, c1, c2, c3]) rfl ⟨rfl, ?_⟩
  all_goals first | exact (HA.out.grow).drew | exact (Below.setCell (Below.setCell (Below.setCell (Below.setCell HA.out.grow (Nat.le_refl _) _) (Nat.le_refl _) _) (Nat.le_succ _) _) (Nat.le_succ _) _).drew

/-- Why there is no counter: 0: there is. -/
def whyOf (st : St) : Int := if st.cells.length < 32 then 2 else if st.dead then 7 else if halfGood st 0 || halfGood st 1 then 0 else 8
def cntOf (st : St) : Int := if whyOf st = 0 then max (halfNum st 0) (halfNum st 1) else 0

/-- What slots tell. -/
def SomeSlots (st : St) (w : World) (e : Ending) (w' : World) : Prop :=
  (∃ n0 n1 g0 g1, e = .returned (slV n0 n1 g0 g1 (cntOf st) (whyOf st)) ∧ (whyOf st = 0 → n0 = halfNum st 0 ∧ n1 = halfNum st 1 ∧ g0 = halfGood st 0 ∧ g1 = halfGood st 1)) ∧ Grow w w'

theorem whyOf_bd (st : St) : 0 ≤ whyOf st ∧ whyOf st ≤ 8 := by
  unfold whyOf
  split
  · omega
  · split
    · omega
    · split <;> omega

theorem slots_any {w : World} {P g : Nat} {st : St} (h : StoreV w P g st) :
    Calls Try.prog 32 #[.pointer (some ⟨P, 0, none⟩)] w (SomeSlots st w) := by
  have hlen : ∀ x, Grow w x → Calls Try.prog 33 #[.pointer (some ⟨P, 0, none⟩)] x fun e w' => e = .returned (.int .i64 (st.cells.length : Nat)) ∧ x = w' := fun x hx =>
    len_any (h.stay (M := fun _ => False) (GrowBut.of_below hx) (fun h => h) (fun h => h))
  have hdead : ∀ x, Grow w x → Calls Try.prog 26 #[.pointer (some ⟨P, 0, none⟩)] x fun e w' => e = .returned (.bool st.dead) ∧ x = w' := fun x hx =>
    dead_any (h.stay (M := fun _ => False) (GrowBut.of_below hx) (fun h => h) (fun h => h))
  by_cases hl : st.cells.length < 32
  · have e1 : whyOf st = 2 := by unfold whyOf; rw [if_pos hl]
    have e2 : cntOf st = 0 := by unfold cntOf; rw [e1]; rfl
    refine (slots_small h.pos hl hlen).mono ?_
    rintro e w' ⟨rfl, hg⟩
    exact ⟨⟨_, _, _, _, by rw [e1, e2], fun h => absurd h (by rw [e1]; decide)⟩, hg⟩
  · by_cases hd : st.dead = true
    · rw [hd] at hdead
      have e1 : whyOf st = 7 := by unfold whyOf; rw [if_neg hl, if_pos hd]
      have e2 : cntOf st = 0 := by unfold cntOf; rw [e1]; rfl
      refine (slots_dead (by omega) hlen hdead).mono ?_
      rintro e w' ⟨rfl, hg⟩
      exact ⟨⟨_, _, _, _, by rw [e1, e2], fun h => absurd h (by rw [e1]; decide)⟩, hg⟩
    · have e1 : whyOf st = if halfGood st 0 || halfGood st 1 then 0 else 8 := by unfold whyOf; rw [if_neg hl, if_neg hd]
      have e2 : cntOf st = max (halfNum st 0) (halfNum st 1) := by
        unfold cntOf
        rw [e1]
        by_cases hg : (halfGood st 0 || halfGood st 1) = true
        · rw [if_pos hg]; rfl
        · rw [if_neg hg, if_neg (by decide)]
          simp at hg
          have n0 : halfNum st 0 = 0 := by unfold halfNum; rw [hg.1]; rfl
          have n1 : halfNum st 1 = 0 := by unfold halfNum; rw [hg.2]; rfl
          rw [n0, n1]; rfl
      refine (slots_live h (by omega) (by simpa using hd)).mono ?_
      rintro e w' ⟨rfl, hg⟩
      exact ⟨⟨_, _, _, _, by rw [e1, e2]; rfl, fun _ => ⟨rfl, rfl, rfl, rfl⟩⟩, hg⟩

set_option maxHeartbeats 400000 in
theorem count_of {w : World} {v : Value} {n0 n1 : Int} {g0 g1 : Bool} {c e0 : Int} (H : Calls Try.prog 32 #[v] w fun e w' => (∃ n0 n1 g0 g1, e = .returned (slV n0 n1 g0 g1 c e0)) ∧ Grow w w') :
    Calls Try.prog 15 #[v] w fun e w' => e = .returned (.tuple #[.int .u64 c, .int .i64 e0]) ∧ Grow w w' := by
  go_enter Try.func15, Try.ntmps15
  go_wp2_with fail
  refine H.mono ?_
  rintro e w1 ⟨⟨n0, n1, g0, g1, rfl⟩, hg⟩
  have HG : Hid (Grow w ((w1.alloc (.cells #[.int .u64 n0, .int .u64 n1] 64)).alloc (.cells #[.bool g0, .bool g1] 65))) := (hg.alloc _).alloc _
  clear hg
  unfold slV
  go_wp2_with fail
  go_ret2
  exact ⟨rfl, HG.out⟩

theorem count_any {w : World} {P g : Nat} {st : St} (h : StoreV w P g st) :
    Calls Try.prog 15 #[.pointer (some ⟨P, 0, none⟩)] w fun e w' => e = .returned (.tuple #[.int .u64 (cntOf st), .int .i64 (whyOf st)]) ∧ Grow w w' :=
  count_of (n0 := 0) (n1 := 0) (g0 := false) (g1 := false) ((slots_any h).mono fun e w' ⟨⟨n0, n1, g0, g1, he, _⟩, hg⟩ => ⟨⟨n0, n1, g0, g1, he⟩, hg⟩)
end Go.Proofs.Ytajmfgadbphjbaa
