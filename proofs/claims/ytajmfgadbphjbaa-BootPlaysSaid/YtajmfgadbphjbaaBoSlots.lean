/- boot.slots. -/
import Derived.Test.YtajmfgadbphjbaaBoRGood
import Derived.Test.YtajmfgadbphjbaaStOps2
import Derived.Deep.Cut
import Derived.Deep.CutRange
import Derived.Outline
set_option linter.unusedVariables false
set_option linter.unusedSimpArgs false
namespace Go.Proofs.Ytajmfgadbphjbaa
open Go.RowKit

def halfB (st : St) (i : Nat) : List Int := (part st (16 * i) 16).map (·.1)
def halfGood (st : St) (i : Nat) : Bool := !((part st (16 * i) 16).any (·.2)) && decide (GoodB (halfB st i))
def halfNum (st : St) (i : Nat) : Int := if halfGood st i then beN ((halfB st i).take 8) else 0

theorem halfB_length {st : St} {i : Nat} (h : 16 * i + 16 ≤ st.cells.length) : (halfB st i).length = 16 := by
  unfold halfB; rw [List.length_map, part_length h]

/-- Read of a half, then Good of what it tells. -/
theorem half_read {w : World} {P g : Nat} {st : St} (h : StoreV w P g st) (i : Nat) (a : Int) (ha : a = ((16 * i : Nat) : Int)) (hi : 16 * i + 16 ≤ st.cells.length) (hd : st.dead = false) :
    ((part st (16 * i) 16).any (·.2) = true ∧ halfGood st i = false ∧ halfNum st i = 0 ∧ Calls Try.prog 16 #[.pointer (some ⟨P, 0, none⟩), .int .i64 a, .int .i64 16] w fun e w' => e = .returned (.tuple #[.slice none 0 0, .int .i64 8]) ∧ Grow w w') ∨
    Calls Try.prog 16 #[.pointer (some ⟨P, 0, none⟩), .int .i64 a, .int .i64 16] w fun e w' => ∃ b off c, e = .returned (.tuple #[.slice (some ⟨b, off, none⟩) 16 c, .int .i64 0]) ∧ Grow w w' ∧
      ∀ w'', Grow w' w'' → Calls Try.prog 9 #[.slice (some ⟨b, off, none⟩) 16 c] w'' fun e w3 => e = .returned (.tuple #[.int .u64 (halfNum st i), .bool (halfGood st i)]) ∧ Grow w'' w3 := by
  have hr : Calls Try.prog 16 #[.pointer (some ⟨P, 0, none⟩), .int .i64 a, .int .i64 16] w (SomeRead st (16 * i) 16 w) := by rw [ha]; exact read_any h (16 * i) 16 hi hd
  by_cases hu : (part st (16 * i) 16).any (·.2) = true
  · left
    have e1 : halfGood st i = false := by unfold halfGood; rw [hu]; rfl
    refine ⟨hu, e1, by unfold halfNum; rw [e1]; rfl, hr.mono ?_⟩
    rintro e w' ⟨v, err, rfl, h1, h2⟩
    unfold readRes at h1
    rw [if_pos hu] at h1
    obtain ⟨rfl, rfl⟩ := h1
    exact ⟨rfl, h2⟩
  · right
    refine hr.mono ?_
    rintro e w' ⟨v, err, rfl, h1, h2⟩
    unfold readRes at h1
    rw [if_neg hu] at h1
    obtain ⟨rfl, h3⟩ := h1
    have hl : (halfB st i).length = 16 := halfB_length hi
    obtain ⟨b, off, c, rfl, h5, h6⟩ := h3.2.solid (fun e => absurd (show (halfB st i).length = 0 from by unfold halfB; rw [e]; rfl) (by omega))
    have hl' : ((part st (16 * i) 16).map (·.1)).length = 16 := hl
    rw [hl'] at h5 h3 ⊢
    refine ⟨b, off, c, rfl, h2, fun w'' hg => ?_⟩
    have hcell : ∀ j, j < 16 → w''.cell? ⟨b, off + j, none⟩ = some (.int .u8 ((halfB st i).getD j 0)) := fun j hj => by
      have q := h3.2.cells j (by rw [hl']; exact hj)
      exact (hg.cell (block_lt q)).trans q
    have hgood := good_any (w := w'') h3.1 hl hcell h5 h6
    have e1 : halfGood st i = decide (GoodB (halfB st i)) := by unfold halfGood; rw [Bool.eq_false_iff.2 hu]; rfl
    have e2 : halfNum st i = goodNum (halfB st i) := by
      unfold halfNum goodNum
      rw [e1]
      simp
    rw [e1, e2]
    exact hgood


/-- The arrays stand in blocks A, A + 1; elder memory stands. -/
structure Arr (w wr : World) (A : Nat) (n0 n1 : Int) (g0 g1 : Bool) : Prop where
  grow : Grow w wr
  ge : w.heap.size ≤ A
  nums : wr.heap[A]? = some (.cells #[.int .u64 n0, .int .u64 n1] 64 (0, 0))
  goods : wr.heap[A + 1]? = some (.cells #[.bool g0, .bool g1] 65 (0, 0))

theorem Arr.later {w wr wr' : World} {A : Nat} {n0 n1 : Int} {g0 g1 : Bool} (h : Arr w wr A n0 n1 g0 g1) (hg : Grow wr wr') : Arr w wr' A n0 n1 g0 g1 :=
  ⟨h.grow.trans hg, h.ge, (hg.block _ (lt_of_block h.nums)).trans h.nums, (hg.block _ (lt_of_block h.goods)).trans h.goods⟩
theorem Arr.cells {w wr : World} {A : Nat} {n0 n1 : Int} {g0 g1 : Bool} (h : Arr w wr A n0 n1 g0 g1) :
    wr.cell? ⟨A, 0, none⟩ = some (.int .u64 n0) ∧ wr.cell? ⟨A, 1, none⟩ = some (.int .u64 n1) ∧ wr.cell? ⟨A + 1, 0, none⟩ = some (.bool g0) ∧ wr.cell? ⟨A + 1, 1, none⟩ = some (.bool g1) ∧
    (∀ i, wr.frozen? ⟨A, i, none⟩ = false) ∧ ∀ i, wr.frozen? ⟨A + 1, i, none⟩ = false := by
  refine ⟨?_, ?_, ?_, ?_, fun i => ?_, fun i => ?_⟩
  all_goals simp [World.cell?, World.frozen?, h.nums, h.goods]
theorem Arr.new (w : World) : Arr w ((w.alloc (.cells #[.int .u64 0, .int .u64 0] 64)).alloc (.cells #[.bool false, .bool false] 65)) w.heap.size 0 0 false false := by
  refine ⟨((Grow.refl w).alloc _).alloc _, Nat.le_refl _, ?_, ?_⟩
  · rw [Below.heap_alloc _ _ _ (by simp)]; exact heap_alloc_new w _
  · have := heap_alloc_new (w.alloc (.cells #[.int .u64 0, .int .u64 0] 64)) (.cells #[.bool false, .bool false] 65)
    rwa [World.size_alloc] at this
theorem setCell_below {w wr : World} {A : Nat} (h : Grow w wr) (hA : w.heap.size ≤ A) (i : Nat) (v : Value) : Grow w (wr.setCell ⟨A, i, none⟩ v) :=
  Below.setCell h hA v
theorem Arr.put0 {w wr : World} {A : Nat} {n0 n1 : Int} {g0 g1 : Bool} (h : Arr w wr A n0 n1 g0 g1) (n : Int) (g : Bool) : Arr w ((wr.setCell ⟨A, 0, none⟩ (.int .u64 n)).setCell ⟨A + 1, 0, none⟩ (.bool g)) A n n1 g g1 := by
  have k1 := heap_setCell_same wr A 0 _ _ (.int .u64 n) h.nums
  have k2 : (wr.setCell ⟨A, 0, none⟩ (.int .u64 n)).heap[A + 1]? = _ := (Below.heap_setCell _ _ _ _ (show A + 1 ≠ A by omega)).trans h.goods
  have k3 := heap_setCell_same (wr.setCell ⟨A, 0, none⟩ (.int .u64 n)) (A + 1) 0 _ _ (.bool g) k2
  refine ⟨setCell_below (setCell_below h.grow h.ge 0 _) (by have := h.ge; omega) 0 _, h.ge, ?_, k3⟩
  exact (Below.heap_setCell _ _ _ _ (show A ≠ A + 1 by omega)).trans k1
theorem Arr.put1 {w wr : World} {A : Nat} {n0 n1 : Int} {g0 g1 : Bool} (h : Arr w wr A n0 n1 g0 g1) (n : Int) (g : Bool) : Arr w ((wr.setCell ⟨A, 1, none⟩ (.int .u64 n)).setCell ⟨A + 1, 1, none⟩ (.bool g)) A n0 n g0 g := by
  have k1 := heap_setCell_same wr A 1 _ _ (.int .u64 n) h.nums
  have k2 : (wr.setCell ⟨A, 1, none⟩ (.int .u64 n)).heap[A + 1]? = _ := (Below.heap_setCell _ _ _ _ (show A + 1 ≠ A by omega)).trans h.goods
  have k3 := heap_setCell_same (wr.setCell ⟨A, 1, none⟩ (.int .u64 n)) (A + 1) 1 _ _ (.bool g) k2
  refine ⟨setCell_below (setCell_below h.grow h.ge 1 _) (by have := h.ge; omega) 1 _, h.ge, ?_, k3⟩
  exact (Below.heap_setCell _ _ _ _ (show A ≠ A + 1 by omega)).trans k1

/-- The counter behind k halves. -/
def cAt (st : St) : Nat → Int
  | 0 => 0
  | 1 => halfNum st 0
  | _ => max (halfNum st 0) (halfNum st 1)
def nAt (st : St) (k j : Nat) : Int := if j < k then halfNum st j else 0
def gAt (st : St) (k j : Nat) : Bool := if j < k then halfGood st j else false

def slotsRes (st : St) : Value := .tuple #[.agg #[.int .u64 (halfNum st 0), .int .u64 (halfNum st 1)], .agg #[.bool (halfGood st 0), .bool (halfGood st 1)], .int .u64 (max (halfNum st 0) (halfNum st 1)), .int .i64 (if halfGood st 0 || halfGood st 1 then 0 else 8)]

theorem halfNum_bd (st : St) (i : Nat) (hb : ∀ c ∈ st.cells, 0 ≤ c.1 ∧ c.1 < 256) : 0 ≤ halfNum st i ∧ halfNum st i < 18446744073709551616 := by
  unfold halfNum
  split
  · have h := beN_lt (zs := halfB st i) (fun x hx => by
      obtain ⟨c, hc, rfl⟩ := List.mem_map.1 hx
      exact hb c (List.mem_of_mem_drop (List.mem_of_mem_take hc))) 8
    have e : (256 : Int) ^ 8 = 18446744073709551616 := by decide
    omega
  · omega

theorem cAt_good (st : St) (k : Nat) (hb : ∀ c ∈ st.cells, 0 ≤ c.1 ∧ c.1 < 256) (hk : k < 2) (hg : halfGood st k = true) : cAt st (k + 1) = if cAt st k < halfNum st k then halfNum st k else cAt st k := by
  have h0 := halfNum_bd st 0 hb
  have h1 := halfNum_bd st 1 hb
  obtain rfl | rfl : k = 0 ∨ k = 1 := by omega
  · simp only [cAt]
    split <;> omega
  · simp only [cAt]
    split <;> omega
theorem cAt_bad (st : St) (k : Nat) (hb : ∀ c ∈ st.cells, 0 ≤ c.1 ∧ c.1 < 256) (hk : k < 2) (hg : halfGood st k = false) : cAt st (k + 1) = cAt st k := by
  have h0 := halfNum_bd st 0 hb
  have n : halfNum st k = 0 := by unfold halfNum; rw [hg]; rfl
  obtain rfl | rfl : k = 0 ∨ k = 1 := by omega
  · simp only [cAt]
    exact n
  · simp only [cAt]
    omega

/-- What the loop holds. -/
def SlInv (w : World) (st : St) (k : Nat) (wr : World) : Prop := Arr w wr w.heap.size (nAt st k 0) (nAt st k 1) (gAt st k 0) (gAt st k 1)

set_option maxRecDepth 20000 in
set_option maxHeartbeats 4000000 in
theorem slots_live {w : World} {P g : Nat} {st : St} (h : StoreV w P g st) (hl : 32 ≤ st.cells.length) (hd : st.dead = false) :
    Calls Try.prog 32 #[.pointer (some ⟨P, 0, none⟩)] w fun e w' => e = .returned (slotsRes st) ∧ Grow w w' := by
  have HS := Lib.hid h
  have HD := Lib.hid hd
  have hle := h.le
  obtain ⟨m, hm⟩ : ∃ m, st.cells.length = m := ⟨_, rfl⟩
  have HM := Lib.hid hm
  rw [hm] at hl hle
  clear h hd hm
  have e0 : ((m : Int) == 0) = false := by simp; omega
  have hlen : ∀ x, Grow w x → Calls Try.prog 33 #[.pointer (some ⟨P, 0, none⟩)] x fun e w' => e = .returned (.int .i64 (m : Nat)) ∧ x = w' := fun x hx => by
    have := len_any (HS.out.stay (M := (fun _ => False)) (GrowBut.of_below hx) (fun h => h) (fun h => h))
    rwa [HM.out] at this
  have HLN := Lib.hid hlen
  have hdead : ∀ x, Grow w x → Calls Try.prog 26 #[.pointer (some ⟨P, 0, none⟩)] x fun e w' => e = .returned (.bool false) ∧ x = w' := fun x hx => by
    have := dead_any (HS.out.stay (M := (fun _ => False)) (GrowBut.of_below hx) (fun h => h) (fun h => h))
    rwa [HD.out] at this
  have HDD := Lib.hid hdead
  clear hlen hdead
  have HA : Hid (SlInv w st 0 ((w.alloc (.cells #[.int .u64 0, .int .u64 0] 64)).alloc (.cells #[.bool false, .bool false] 65))) := Arr.new w
  go_enter Try.func32, Try.ntmps32
  go_wp2_with (first | (go_at_call 33; refine (HLN.out _ HA.out.grow).mono ?_; rintro e w' ⟨rfl, rfl⟩) | (go_at_call 26; refine (HDD.out _ HA.out.grow).mono ?_; rintro e w' ⟨rfl, rfl⟩))
  go_loopw [4, 26] (fun c i wr => ∃ k : Nat, k ≤ 2 ∧ i = .int .i64 k ∧ c = .int .u64 (cAt st k) ∧ Hid (SlInv w st k wr))
    (fun _ i _ => 2 - (intOf i).toNat)
  case atStart => exact ⟨0, by omega, rfl, rfl, HA.out⟩
  case round =>
    obtain ⟨k, hk, rfl, rfl, HI⟩ := hrel
    have hs := HS.out.stay (M := fun _ => False) (GrowBut.of_below HI.out.grow) (fun h => h) (fun h => h)
    obtain ⟨c0, c1, c2, c3, f0, f1⟩ := Arr.cells HI.out
    by_cases hlt : k < 2
    · obtain rfl | rfl : k = 0 ∨ k = 1 := by omega
      · rcases half_read hs 0 0 (by decide) (by rw [HM.out]; omega) HD.out with ⟨hu, hg0, hn0, hr⟩ | hr
        · have HR := Lib.hid hr
          have HX : Hid (∀ w1, Grow wr w1 → SlInv w st 1 w1) := fun w1 hg => by
            have := Arr.later HI.out hg
            unfold SlInv nAt gAt at this ⊢
            simpa [hg0, hn0] using this
          have HC : Hid (cAt st 1 = cAt st 0) := by
            show cAt st 1 = cAt st 0
            simp only [cAt, hn0]
            try (have := (halfNum_bd st 0 HS.out.byte).1; omega)
          clear hr hg0 hn0 hu hs c0 c1 c2 c3 f0 f1
          go_wp2_with fail
          refine HR.out.mono ?_
          rintro e w1 ⟨rfl, hg⟩
          have HI1 := Lib.hid (Arr.later HI.out hg)
          obtain ⟨c0, c1, c2, c3, f0, f1⟩ := Arr.cells HI1.out
          simp [nAt, gAt] at c0 c1 c2 c3
          have HG1 := Lib.hid hg
          clear hg
          go_wp2_with fail
          go_roundw
          case rel => exact ⟨1, by omega, by go_num, by rw [HC.out], HX.out _ HG1.out⟩
          case measure => simp [intOf]
        · have HR := Lib.hid hr
          clear hr hs c0 c1 c2 c3 f0 f1
          go_wp2_with fail
          refine HR.out.mono ?_
          rintro e w1 ⟨b, off, c, rfl, hg, hgd⟩
          have HGD := Lib.hid (hgd w1 (Grow.refl _))
          have HG1 := Lib.hid hg
          clear hg hgd
          go_wp2_with fail
          refine HGD.out.mono ?_
          rintro e w2 ⟨rfl, hg2⟩
          have HI2 := Lib.hid (Arr.later HI.out (HG1.out.trans hg2))
          obtain ⟨c0, c1, c2, c3, f0, f1⟩ := Arr.cells HI2.out
          clear hg2
          cases hgg : halfGood st 0
          · have HGG := Lib.hid hgg
            clear hgg
            have g0 := f0 0
            have g1 := f1 0
            have HX := Lib.hid (show SlInv w st 1 ((w2.setCell ⟨w.heap.size, 0, none⟩ (.int .u64 (halfNum st 0))).setCell ⟨w.heap.size + 1, 0, none⟩ (.bool (halfGood st 0))) from by
              have := Arr.put0 HI2.out (halfNum st 0) (halfGood st 0)
              unfold SlInv nAt gAt at this ⊢
              simpa using this)
            have HB := Lib.hid (halfNum_bd st 0 HS.out.byte)
            have HC := Lib.hid (cAt_bad st 0 HS.out.byte (by decide) HGG.out)
            rw [HGG.out] at HX
            clear f0 f1
            go_wp2_with fail
            exact ⟨⟨1, by omega, by go_num, by rw [HC.out], HX.out⟩, by simp [intOf]⟩
          · have HGG := Lib.hid hgg
            clear hgg
            have g0 := f0 0
            have g1 := f1 0
            have HX := Lib.hid (show SlInv w st 1 ((w2.setCell ⟨w.heap.size, 0, none⟩ (.int .u64 (halfNum st 0))).setCell ⟨w.heap.size + 1, 0, none⟩ (.bool (halfGood st 0))) from by
              have := Arr.put0 HI2.out (halfNum st 0) (halfGood st 0)
              unfold SlInv nAt gAt at this ⊢
              simpa using this)
            have HB := Lib.hid (halfNum_bd st 0 HS.out.byte)
            have HC := Lib.hid (cAt_good st 0 HS.out.byte (by decide) HGG.out)
            rw [HGG.out] at HX
            clear f0 f1
            go_wp2_with fail
            exact ⟨⟨1, by omega, by go_num, by rw [HC.out], HX.out⟩, by simp [intOf]⟩
      · rcases half_read hs 1 16 (by decide) (by rw [HM.out]; omega) HD.out with ⟨hu, hg0, hn0, hr⟩ | hr
        · have HR := Lib.hid hr
          have HX : Hid (∀ w1, Grow wr w1 → SlInv w st 2 w1) := fun w1 hg => by
            have := Arr.later HI.out hg
            unfold SlInv nAt gAt at this ⊢
            simpa [hg0, hn0] using this
          have HC : Hid (cAt st 2 = cAt st 1) := by
            show cAt st 2 = cAt st 1
            simp only [cAt, hn0]
            try (have := (halfNum_bd st 0 HS.out.byte).1; omega)
          clear hr hg0 hn0 hu hs c0 c1 c2 c3 f0 f1
          go_wp2_with fail
          refine HR.out.mono ?_
          rintro e w1 ⟨rfl, hg⟩
          have HI1 := Lib.hid (Arr.later HI.out hg)
          obtain ⟨c0, c1, c2, c3, f0, f1⟩ := Arr.cells HI1.out
          simp [nAt, gAt] at c0 c1 c2 c3
          have HG1 := Lib.hid hg
          clear hg
          go_wp2_with fail
          go_roundw
          case rel => exact ⟨2, by omega, by go_num, by rw [HC.out], HX.out _ HG1.out⟩
          case measure => simp [intOf]
        · have HR := Lib.hid hr
          clear hr hs c0 c1 c2 c3 f0 f1
          go_wp2_with fail
          refine HR.out.mono ?_
          rintro e w1 ⟨b, off, c, rfl, hg, hgd⟩
          have HGD := Lib.hid (hgd w1 (Grow.refl _))
          have HG1 := Lib.hid hg
          clear hg hgd
          go_wp2_with fail
          refine HGD.out.mono ?_
          rintro e w2 ⟨rfl, hg2⟩
          have HI2 := Lib.hid (Arr.later HI.out (HG1.out.trans hg2))
          obtain ⟨c0, c1, c2, c3, f0, f1⟩ := Arr.cells HI2.out
          clear hg2
          cases hgg : halfGood st 1
          · have HGG := Lib.hid hgg
            clear hgg
            have g0 := f0 1
            have g1 := f1 1
            have HX := Lib.hid (show SlInv w st 2 ((w2.setCell ⟨w.heap.size, 1, none⟩ (.int .u64 (halfNum st 1))).setCell ⟨w.heap.size + 1, 1, none⟩ (.bool (halfGood st 1))) from by
              have := Arr.put1 HI2.out (halfNum st 1) (halfGood st 1)
              unfold SlInv nAt gAt at this ⊢
              simpa using this)
            have HB := Lib.hid (halfNum_bd st 1 HS.out.byte)
            have HC := Lib.hid (cAt_bad st 1 HS.out.byte (by decide) HGG.out)
            rw [HGG.out] at HX
            clear f0 f1
            go_wp2_with fail
            exact ⟨⟨2, by omega, by go_num, by rw [HC.out], HX.out⟩, by simp [intOf]⟩
          · have HGG := Lib.hid hgg
            clear hgg
            have g0 := f0 1
            have g1 := f1 1
            have HX := Lib.hid (show SlInv w st 2 ((w2.setCell ⟨w.heap.size, 1, none⟩ (.int .u64 (halfNum st 1))).setCell ⟨w.heap.size + 1, 1, none⟩ (.bool (halfGood st 1))) from by
              have := Arr.put1 HI2.out (halfNum st 1) (halfGood st 1)
              unfold SlInv nAt gAt at this ⊢
              simpa using this)
            have HB := Lib.hid (halfNum_bd st 1 HS.out.byte)
            have HC := Lib.hid (cAt_good st 1 HS.out.byte (by decide) HGG.out)
            rw [HGG.out] at HX
            clear f0 f1
            go_wp2_with fail
            exact ⟨⟨2, by omega, by go_num, by rw [HC.out], HX.out⟩, by simp [intOf]⟩
    · obtain rfl : k = 2 := by omega
      have HI2 := Lib.hid HI.out
      have HRes : Hid (slotsRes st = .tuple #[.agg #[.int .u64 (halfNum st 0), .int .u64 (halfNum st 1)], .agg #[.bool (halfGood st 0), .bool (halfGood st 1)], .int .u64 (cAt st 2), .int .i64 (if halfGood st 0 || halfGood st 1 then 0 else 8)]) := rfl
      have HZ : Hid (halfGood st 0 = false → halfGood st 1 = false → cAt st 2 = 0) := fun h1 h2 => by
        have e1 : halfNum st 0 = 0 := by unfold halfNum; rw [h1]; rfl
        have e2 : halfNum st 1 = 0 := by unfold halfNum; rw [h2]; rfl
        show max (halfNum st 0) (halfNum st 1) = 0; rw [e1, e2]; rfl
      simp [nAt, gAt] at c0 c1 c2 c3
      have p0 := f0 0
      have p1 := f0 1
      have q0 := f1 0
      have q1 := f1 1
      clear f0 f1 hs
      generalize halfNum st 0 = n0 at *
      generalize halfNum st 1 = n1 at *
      cases hg0 : halfGood st 0
      all_goals cases hg1 : halfGood st 1
      all_goals
        rw [hg0] at c2
        rw [hg1] at c3
        rw [hg0, hg1] at HRes
        have HG0 := Lib.hid hg0
        have HG1 := Lib.hid hg1
        clear hg0 hg1
        go_wp2_with fail
        go_region
        all_goals go_wp2_with fail
        all_goals refine bodyPost_ret (v := slotsRes st) (by rw [HRes.out]; (try rw [HZ.out HG0.out HG1.out]); simp [results, Try.results32, go_sem, c0, c1, c2, c3]) rfl ⟨rfl, ?_⟩
        all_goals exact (Below.setCell (Below.setCell (Below.setCell (Below.setCell HI2.out.grow (Nat.le_refl _) _) (Nat.le_refl _) _) (Nat.le_succ _) _) (Nat.le_succ _) _).drew
end Go.Proofs.Ytajmfgadbphjbaa
