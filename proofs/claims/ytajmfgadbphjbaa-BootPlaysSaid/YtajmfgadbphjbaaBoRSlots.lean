/- The document's Slots and Count. -/
import Derived.Test.YtajmfgadbphjbaaBoBegin
import Derived.Test.YtajmfgadbphjbaaStRef3
set_option linter.unusedVariables false
set_option linter.unusedSimpArgs false
namespace Go.Proofs.Ytajmfgadbphjbaa
open Go.RowKit

theorem rhalf_read {w : World} {R : RAt} {st : St} (h : RefV w R st) (i : Nat) (a : Int) (ha : a = ((16 * i : Nat) : Int)) (hi : 16 * i + 16 ≤ st.cells.length) (hd : st.dead = false) :
    (halfGood st i = false ∧ halfNum st i = 0 ∧ Calls Try.prog 38 #[.pointer (some ⟨R.p, 0, none⟩), .int .i64 a, .int .i64 16] w fun e w' => e = .returned (.tuple #[.slice none 0 0, .int .i64 8]) ∧ w = w') ∨
    Calls Try.prog 38 #[.pointer (some ⟨R.p, 0, none⟩), .int .i64 a, .int .i64 16] w fun e w' => (∃ b off c, e = .returned (.tuple #[.slice (some ⟨b, off, none⟩) 16 c, .int .i64 0]) ∧
      ∀ w'', Grow w w'' → Calls Try.prog 11 #[.slice (some ⟨b, off, none⟩) 16 c] w'' fun e w3 => e = .returned (.tuple #[.int .u64 (halfNum st i), .bool (halfGood st i)]) ∧ Grow w'' w3) ∧ w = w' := by
  have hr : Calls Try.prog 38 #[.pointer (some ⟨R.p, 0, none⟩), .int .i64 a, .int .i64 16] w (SomeRRead st (16 * i) 16 w) := by rw [ha]; exact rread_any h (16 * i) 16 hi hd
  by_cases hu : (part st (16 * i) 16).any (·.2) = true
  · left
    have e1 : halfGood st i = false := by unfold halfGood; rw [hu]; rfl
    refine ⟨e1, by unfold halfNum; rw [e1]; rfl, hr.mono ?_⟩
    rintro e w' ⟨v, err, rfl, h1, h2⟩
    unfold readRes at h1
    rw [if_pos hu] at h1
    obtain ⟨rfl, rfl⟩ := h1
    exact ⟨rfl, h2⟩
  · right
    refine hr.mono ?_
    rintro e w' ⟨v, err, rfl, h1, rfl⟩
    unfold readRes at h1
    rw [if_neg hu] at h1
    obtain ⟨rfl, h3⟩ := h1
    have hl : (halfB st i).length = 16 := halfB_length hi
    obtain ⟨b, off, c, rfl, h5, h6⟩ := h3.2.solid (fun e => absurd (show (halfB st i).length = 0 from by unfold halfB; rw [e]; rfl) (by omega))
    have hl' : ((part st (16 * i) 16).map (·.1)).length = 16 := hl
    rw [hl'] at h5 h3 ⊢
    refine ⟨⟨b, off, c, rfl, fun w'' hg => ?_⟩, rfl⟩
    have hcell : ∀ j, j < 16 → w''.cell? ⟨b, off + j, none⟩ = some (.int .u8 ((halfB st i).getD j 0)) := fun j hj => by
      have q := h3.2.cells j (by rw [hl']; exact hj)
      exact (hg.cell (block_lt q)).trans q
    have hgood := rgood_any (w := w'') h3.1 hl hcell h5 h6
    have e1 : halfGood st i = decide (GoodB (halfB st i)) := by unfold halfGood; rw [Bool.eq_false_iff.2 hu]; rfl
    have e2 : halfNum st i = goodNum (halfB st i) := by
      unfold halfNum goodNum
      rw [e1]
      simp
    rw [e1, e2]
    exact hgood

theorem Arr.other {w wr : World} {A B : Nat} {n0 n1 : Int} {g0 g1 : Bool} (h : Arr w wr A n0 n1 g0 g1) (h1 : B ≠ A) (h2 : B ≠ A + 1) (h3 : w.heap.size ≤ B) (i : Nat) (v : Value) : Arr w (wr.setCell ⟨B, i, none⟩ v) A n0 n1 g0 g1 :=
  ⟨setCell_below h.grow h3 i v, h.ge, (Below.heap_setCell _ _ _ _ (show A ≠ B from Ne.symm h1)).trans h.nums, (Below.heap_setCell _ _ _ _ (show A + 1 ≠ B from Ne.symm h2)).trans h.goods⟩

/-- What the loop holds: the results' blocks, still noughts, and the loop's own. -/
def RSlInv (w : World) (st : St) (k : Nat) (wr : World) : Prop := Arr w wr w.heap.size 0 0 false false ∧ Arr w wr (w.heap.size + 1 + 1) (nAt st k 0) (nAt st k 1) (gAt st k 0) (gAt st k 1)

def rslotsRes (st : St) : Value := .tuple #[.agg #[.int .u64 (halfNum st 0), .int .u64 (halfNum st 1)], .agg #[.bool (halfGood st 0), .bool (halfGood st 1)]]

theorem rslInv_start (w : World) (st : St) : RSlInv w st 0 ((((w.alloc (.cells #[.int .u64 0, .int .u64 0] 64)).alloc (.cells #[.bool false, .bool false] 65)).alloc (.cells #[.int .u64 0, .int .u64 0] 64)).alloc (.cells #[.bool false, .bool false] 65)) := by
  have h1 := Arr.new w
  have h2 := Arr.new2 h1.grow 0 0 false false
  rw [World.size_alloc, World.size_alloc] at h2
  exact ⟨h1.later (((Grow.refl _).alloc _).alloc _), h2⟩

set_option maxRecDepth 20000 in
set_option maxHeartbeats 4000000 in
theorem rslots_live {w : World} {R : RAt} {st : St} (h : RefV w R st) (hl : 32 ≤ st.cells.length) (hd : st.dead = false) :
    Calls Try.prog 35 #[.pointer (some ⟨R.p, 0, none⟩)] w fun e w' => e = .returned (rslotsRes st) ∧ Grow w w' := by
  have HS := Lib.hid h
  have HD := Lib.hid hd
  obtain ⟨m, hm⟩ : ∃ m, st.cells.length = m := ⟨_, rfl⟩
  have HM := Lib.hid hm
  rw [hm] at hl
  clear h hd hm
  have HA := Lib.hid (rslInv_start w st)
  go_enter Try.func35, Try.ntmps35
  go_wp2_with fail
  go_loopw [6] (fun i wr => ∃ k : Nat, k ≤ 2 ∧ i = .int .i64 k ∧ Hid (RSlInv w st k wr))
    (fun i _ => 2 - (intOf i).toNat)
  case atStart => exact ⟨0, by omega, rfl, HA.out⟩
  case round =>
    obtain ⟨k, hk, rfl, HI⟩ := hrel
    have hs := HS.out.stay (M := fun _ => False) (GrowBut.of_below HI.out.1.grow) (fun h => h) (fun h => h) (fun h => h)
    obtain ⟨c0, c1, c2, c3, f0, f1⟩ := Arr.cells HI.out.2
    by_cases hlt : k < 2
    · obtain rfl | rfl : k = 0 ∨ k = 1 := by omega
      · rcases rhalf_read hs 0 0 (by decide) (by rw [HM.out]; omega) HD.out with ⟨hg0, hn0, hr⟩ | hr
        · have HR := Lib.hid hr
          have HX : Hid (RSlInv w st 1 wr) := by
            have := HI.out
            unfold RSlInv nAt gAt at this
            show RSlInv w st 1 wr
            unfold RSlInv nAt gAt
            simpa [hg0, hn0] using this
          clear hr hg0 hn0 hs c0 c1 c2 c3 f0 f1
          go_wp2_with fail
          refine HR.out.mono ?_
          rintro e w1 ⟨rfl, rfl⟩
          go_wp2_with fail
          go_roundw
          case rel => exact ⟨1, by omega, by go_num, HX.out⟩
          case measure => simp [intOf]
        · have HR := Lib.hid hr
          clear hr hs c0 c1 c2 c3 f0 f1
          go_wp2_with fail
          refine HR.out.mono ?_
          rintro e w1 ⟨⟨b, off, c, rfl, hgd⟩, rfl⟩
          have HGD := Lib.hid (hgd wr (Grow.refl _))
          clear hgd
          go_wp2_with fail
          refine HGD.out.mono ?_
          rintro e w2 ⟨rfl, hg2⟩
          have HI2 := Lib.hid (And.intro (Arr.later HI.out.1 hg2) (Arr.later HI.out.2 hg2))
          obtain ⟨c0, c1, c2, c3, f0, f1⟩ := Arr.cells HI2.out.2
          have g0 := f0 0
          have g1 := f1 0
          have HX := Lib.hid (show RSlInv w st 1 ((w2.setCell ⟨w.heap.size + 1 + 1, 0, none⟩ (.int .u64 (halfNum st 0))).setCell ⟨w.heap.size + 1 + 1 + 1, 0, none⟩ (.bool (halfGood st 0))) from by
              have h2 := Arr.put0 HI2.out.2 (halfNum st 0) (halfGood st 0)
              have h1 := (HI2.out.1.other (B := w.heap.size + 1 + 1) (by omega) (by omega) (by omega) 0 (.int .u64 (halfNum st 0))).other (B := w.heap.size + 1 + 1 + 1) (by omega) (by omega) (by omega) 0 (.bool (halfGood st 0))
              unfold RSlInv nAt gAt at *
              exact ⟨h1, by simpa using h2⟩)
          clear f0 f1 hg2
          go_wp2_with fail
          exact ⟨⟨1, by omega, by go_num, HX.out⟩, by simp [intOf]⟩
      · rcases rhalf_read hs 1 16 (by decide) (by rw [HM.out]; omega) HD.out with ⟨hg0, hn0, hr⟩ | hr
        · have HR := Lib.hid hr
          have HX : Hid (RSlInv w st 2 wr) := by
            have := HI.out
            unfold RSlInv nAt gAt at this
            show RSlInv w st 2 wr
            unfold RSlInv nAt gAt
            simpa [hg0, hn0] using this
          clear hr hg0 hn0 hs c0 c1 c2 c3 f0 f1
          go_wp2_with fail
          refine HR.out.mono ?_
          rintro e w1 ⟨rfl, rfl⟩
          go_wp2_with fail
          go_roundw
          case rel => exact ⟨2, by omega, by go_num, HX.out⟩
          case measure => simp [intOf]
        · have HR := Lib.hid hr
          clear hr hs c0 c1 c2 c3 f0 f1
          go_wp2_with fail
          refine HR.out.mono ?_
          rintro e w1 ⟨⟨b, off, c, rfl, hgd⟩, rfl⟩
          have HGD := Lib.hid (hgd wr (Grow.refl _))
          clear hgd
          go_wp2_with fail
          refine HGD.out.mono ?_
          rintro e w2 ⟨rfl, hg2⟩
          have HI2 := Lib.hid (And.intro (Arr.later HI.out.1 hg2) (Arr.later HI.out.2 hg2))
          obtain ⟨c0, c1, c2, c3, f0, f1⟩ := Arr.cells HI2.out.2
          have g0 := f0 1
          have g1 := f1 1
          have HX := Lib.hid (show RSlInv w st 2 ((w2.setCell ⟨w.heap.size + 1 + 1, 1, none⟩ (.int .u64 (halfNum st 1))).setCell ⟨w.heap.size + 1 + 1 + 1, 1, none⟩ (.bool (halfGood st 1))) from by
              have h2 := Arr.put1 HI2.out.2 (halfNum st 1) (halfGood st 1)
              have h1 := (HI2.out.1.other (B := w.heap.size + 1 + 1) (by omega) (by omega) (by omega) 1 (.int .u64 (halfNum st 1))).other (B := w.heap.size + 1 + 1 + 1) (by omega) (by omega) (by omega) 1 (.bool (halfGood st 1))
              unfold RSlInv nAt gAt at *
              exact ⟨h1, by simpa using h2⟩)
          clear f0 f1 hg2
          go_wp2_with fail
          exact ⟨⟨2, by omega, by go_num, HX.out⟩, by simp [intOf]⟩
    · obtain rfl : k = 2 := by omega
      have HI2 := Lib.hid HI.out
      obtain ⟨d0, d1, d2, d3, e0, e1⟩ := Arr.cells HI.out.1
      have HRes : Hid (rslotsRes st = .tuple #[.agg #[.int .u64 (halfNum st 0), .int .u64 (halfNum st 1)], .agg #[.bool (halfGood st 0), .bool (halfGood st 1)]]) := rfl
      simp [nAt, gAt] at c0 c1 c2 c3
      have p0 := e0 0
      have p1 := e0 1
      have q0 := e1 0
      have q1 := e1 1
      clear f0 f1 e0 e1 hs
      generalize halfNum st 0 = n0 at *
      generalize halfNum st 1 = n1 at *
      generalize halfGood st 0 = g0 at *
      generalize halfGood st 1 = g1 at *
      go_wp2_with fail
      go_region
      all_goals go_wp2_with fail
      all_goals refine bodyPost_ret (v := rslotsRes st) (by rw [HRes.out]; simp [results, Try.results35, go_sem, c0, c1, c2, c3, d0, d1, d2, d3]) rfl ⟨rfl, ?_⟩
      all_goals exact (Below.setCell (Below.setCell (Below.setCell (Below.setCell HI2.out.1.grow (Nat.le_refl _) _) (Nat.le_refl _) _) (Nat.le_succ _) _) (Nat.le_succ _) _).drew

set_option maxHeartbeats 2000000 in
theorem rcount_why {w : World} {R : RAt} {st : St} (h : RefV w R st) (hn : whyOf st = 2 ∨ whyOf st = 7) :
    Calls Try.prog 21 #[.pointer (some ⟨R.p, 0, none⟩)] w fun e w' => e = .returned (.tuple #[.int .u64 0, .int .i64 (whyOf st)]) ∧ w = w' := by
  obtain ⟨cb, cu, ⟨hcb, hcu⟩, c0, c1, c2, c3, c4, c5, hf⟩ := h.cellsP
  have hle := h.le
  clear hf c1 c2 c3 c4
  by_cases hl : st.cells.length < 32
  · have e1 : Hid (whyOf st = 2) := by show whyOf st = 2; unfold whyOf; rw [if_pos hl]
    rw [e1.out]
    clear h hn c5
    generalize st.cells.length = m at *
    go_enter Try.func21, Try.ntmps21
    go_wp2_with fail
    go_ret2
    exact ⟨rfl, rfl⟩
  · have hd : st.dead = true := by
      unfold whyOf at hn
      rw [if_neg hl] at hn
      cases hdd : st.dead
      · rw [hdd, if_neg (by decide)] at hn
        split at hn <;> omega
      · rfl
    have e1 : Hid (whyOf st = 7) := by show whyOf st = 7; unfold whyOf; rw [if_neg hl, if_pos hd]
    rw [e1.out]
    rw [hd] at c5
    have hl' : 32 ≤ st.cells.length := by omega
    clear h hn hd hl
    generalize st.cells.length = m at *
    go_enter Try.func21, Try.ntmps21
    go_wp2_with fail
    go_ret2
    exact ⟨rfl, rfl⟩

def RCnt (c e0 : Int) (w : World) (e : Ending) (w' : World) : Prop := e = .returned (.tuple #[.int .u64 c, .int .i64 e0]) ∧ Grow w w'
def RCntIf (g0 g1 : Bool) (c : Int) (w : World) (e : Ending) (w' : World) : Prop := RCnt (if g0 || g1 then c else 0) (if g0 || g1 then 0 else 8) w e w'

set_option maxRecDepth 20000 in
set_option maxHeartbeats 4000000 in
theorem rcount_live {w : World} {R : RAt} {st : St} (h : RefV w R st) (hl : 32 ≤ st.cells.length) (hd : st.dead = false) :
    Calls Try.prog 21 #[.pointer (some ⟨R.p, 0, none⟩)] w (RCntIf (halfGood st 0) (halfGood st 1) (cAt st 2) w) := by
  have HSL := Lib.hid (rslots_live h hl hd)
  have HB := Lib.hid h.byte
  obtain ⟨cb, cu, ⟨hcb, hcu⟩, c0, c1, c2, c3, c4, c5, hf⟩ := h.cellsP
  rw [hd] at c5
  have hle := h.le
  clear hf c1 c2 c3 c4 h hd
  generalize st.cells.length = m at *
  have HRes : Hid (rslotsRes st = .tuple #[.agg #[.int .u64 (halfNum st 0), .int .u64 (halfNum st 1)], .agg #[.bool (halfGood st 0), .bool (halfGood st 1)]]) := rfl
  have G0 := Lib.hid (cAt_good st 0 HB.out (by decide))
  have B0 := Lib.hid (cAt_bad st 0 HB.out (by decide))
  have G1 := Lib.hid (cAt_good st 1 HB.out (by decide))
  have B1 := Lib.hid (cAt_bad st 1 HB.out (by decide))
  have Z0 : Hid (cAt st 0 = 0) := rfl
  generalize hC : cAt st = C at *
  clear hC
  generalize halfNum st 0 = n0 at *
  generalize halfNum st 1 = n1 at *
  generalize halfGood st 0 = g0 at *
  generalize halfGood st 1 = g1 at *
  generalize rslotsRes st = rv at *
  have hrv := HRes.out
  subst hrv
  have hlI : (32 : Int) ≤ (m : Int) := by omega
  go_enter Try.func21, Try.ntmps21
  go_wp2_with fail
  refine HSL.out.mono ?_
  rintro e w1 ⟨rfl, hg⟩
  have HA := Lib.hid (Arr.new2 hg n0 n1 g0 g1)
  obtain ⟨d0, d1, d2, d3, f0, f1⟩ := Arr.cells HA.out
  clear f0 f1 hg c0 c5
  cases g0
  all_goals cases g1
  · go_wp2_with fail
    all_goals go_ret2
    all_goals exact ⟨rfl, HA.out.grow⟩
  · go_wp2_with fail
    go_loopw [6, 7] (fun c i wr => ∃ k : Nat, k ≤ 2 ∧ i = .int .i64 k ∧ c = .int .u64 (C k) ∧ Hid (wr = (w1.alloc (.cells #[.int .u64 n0, .int .u64 n1] 64)).alloc (.cells #[.bool false, .bool true] 65)))
      (fun _ i _ => 2 - (intOf i).toNat)
    case atStart => exact ⟨0, by omega, rfl, by rw [Z0.out], rfl⟩
    case round =>
      obtain ⟨k, hk, rfl, rfl, HW⟩ := hrel
      have hw := HW.out
      subst hw
      by_cases hlt : k < 2
      · obtain rfl | rfl : k = 0 ∨ k = 1 := by omega
        · have HC : Hid (C (0 + 1) = C 0) := by show C (0 + 1) = _; rw [B0.out (by first | rfl | trivial)]
          go_wp2_with fail
          exact ⟨⟨1, by omega, by go_num, by rw [← HC.out], by first | exact trivial | exact rfl⟩, by simp [intOf]⟩
        · by_cases hcn : C 1 < n1
          · have HC : Hid (C (1 + 1) = n1) := by show C (1 + 1) = _; rw [G1.out (by first | rfl | trivial), if_pos hcn]
            go_wp2_with fail
            exact ⟨⟨2, by omega, by go_num, by rw [← HC.out], by first | exact trivial | exact rfl⟩, by simp [intOf]⟩
          · have HC : Hid (C (1 + 1) = C 1) := by show C (1 + 1) = _; rw [G1.out (by first | rfl | trivial), if_neg hcn]
            have hcn' : n1 ≤ C 1 := by omega
            go_wp2_with fail
            exact ⟨⟨2, by omega, by go_num, by rw [← HC.out], by first | exact trivial | exact rfl⟩, by simp [intOf]⟩
      · obtain rfl : k = 2 := by omega
        go_wp2_with fail
        go_ret2
        exact ⟨rfl, HA.out.grow⟩
  · go_wp2_with fail
    go_loopw [6, 7] (fun c i wr => ∃ k : Nat, k ≤ 2 ∧ i = .int .i64 k ∧ c = .int .u64 (C k) ∧ Hid (wr = (w1.alloc (.cells #[.int .u64 n0, .int .u64 n1] 64)).alloc (.cells #[.bool true, .bool false] 65)))
      (fun _ i _ => 2 - (intOf i).toNat)
    case atStart => exact ⟨0, by omega, rfl, by rw [Z0.out], rfl⟩
    case round =>
      obtain ⟨k, hk, rfl, rfl, HW⟩ := hrel
      have hw := HW.out
      subst hw
      by_cases hlt : k < 2
      · obtain rfl | rfl : k = 0 ∨ k = 1 := by omega
        · by_cases hcn : C 0 < n0
          · have HC : Hid (C (0 + 1) = n0) := by show C (0 + 1) = _; rw [G0.out (by first | rfl | trivial), if_pos hcn]
            go_wp2_with fail
            exact ⟨⟨1, by omega, by go_num, by rw [← HC.out], by first | exact trivial | exact rfl⟩, by simp [intOf]⟩
          · have HC : Hid (C (0 + 1) = C 0) := by show C (0 + 1) = _; rw [G0.out (by first | rfl | trivial), if_neg hcn]
            have hcn' : n0 ≤ C 0 := by omega
            go_wp2_with fail
            exact ⟨⟨1, by omega, by go_num, by rw [← HC.out], by first | exact trivial | exact rfl⟩, by simp [intOf]⟩
        · have HC : Hid (C (1 + 1) = C 1) := by show C (1 + 1) = _; rw [B1.out (by first | rfl | trivial)]
          go_wp2_with fail
          exact ⟨⟨2, by omega, by go_num, by rw [← HC.out], by first | exact trivial | exact rfl⟩, by simp [intOf]⟩
      · obtain rfl : k = 2 := by omega
        go_wp2_with fail
        go_ret2
        exact ⟨rfl, HA.out.grow⟩
  · go_wp2_with fail
    go_loopw [6, 7] (fun c i wr => ∃ k : Nat, k ≤ 2 ∧ i = .int .i64 k ∧ c = .int .u64 (C k) ∧ Hid (wr = (w1.alloc (.cells #[.int .u64 n0, .int .u64 n1] 64)).alloc (.cells #[.bool true, .bool true] 65)))
      (fun _ i _ => 2 - (intOf i).toNat)
    case atStart => exact ⟨0, by omega, rfl, by rw [Z0.out], rfl⟩
    case round =>
      obtain ⟨k, hk, rfl, rfl, HW⟩ := hrel
      have hw := HW.out
      subst hw
      by_cases hlt : k < 2
      · obtain rfl | rfl : k = 0 ∨ k = 1 := by omega
        · by_cases hcn : C 0 < n0
          · have HC : Hid (C (0 + 1) = n0) := by show C (0 + 1) = _; rw [G0.out (by first | rfl | trivial), if_pos hcn]
            go_wp2_with fail
            exact ⟨⟨1, by omega, by go_num, by rw [← HC.out], by first | exact trivial | exact rfl⟩, by simp [intOf]⟩
          · have HC : Hid (C (0 + 1) = C 0) := by show C (0 + 1) = _; rw [G0.out (by first | rfl | trivial), if_neg hcn]
            have hcn' : n0 ≤ C 0 := by omega
            go_wp2_with fail
            exact ⟨⟨1, by omega, by go_num, by rw [← HC.out], by first | exact trivial | exact rfl⟩, by simp [intOf]⟩
        · by_cases hcn : C 1 < n1
          · have HC : Hid (C (1 + 1) = n1) := by show C (1 + 1) = _; rw [G1.out (by first | rfl | trivial), if_pos hcn]
            go_wp2_with fail
            exact ⟨⟨2, by omega, by go_num, by rw [← HC.out], by first | exact trivial | exact rfl⟩, by simp [intOf]⟩
          · have HC : Hid (C (1 + 1) = C 1) := by show C (1 + 1) = _; rw [G1.out (by first | rfl | trivial), if_neg hcn]
            have hcn' : n1 ≤ C 1 := by omega
            go_wp2_with fail
            exact ⟨⟨2, by omega, by go_num, by rw [← HC.out], by first | exact trivial | exact rfl⟩, by simp [intOf]⟩
      · obtain rfl : k = 2 := by omega
        go_wp2_with fail
        go_ret2
        exact ⟨rfl, HA.out.grow⟩

theorem rcount_any {w : World} {R : RAt} {st : St} (h : RefV w R st) :
    Calls Try.prog 21 #[.pointer (some ⟨R.p, 0, none⟩)] w (RCnt (cntOf st) (whyOf st) w) := by
  by_cases hl : st.cells.length < 32
  · have e1 : whyOf st = 2 := by unfold whyOf; rw [if_pos hl]
    have e2 : cntOf st = 0 := by unfold cntOf; rw [e1]; rfl
    refine (rcount_why h (Or.inl e1)).mono ?_
    rintro e w' ⟨rfl, rfl⟩
    exact ⟨by rw [e2], Grow.refl _⟩
  · by_cases hd : st.dead = true
    · have e1 : whyOf st = 7 := by unfold whyOf; rw [if_neg hl, if_pos hd]
      have e2 : cntOf st = 0 := by unfold cntOf; rw [e1]; rfl
      refine (rcount_why h (Or.inr e1)).mono ?_
      rintro e w' ⟨rfl, rfl⟩
      exact ⟨by rw [e2], Grow.refl _⟩
    · have e1 : whyOf st = if halfGood st 0 || halfGood st 1 then 0 else 8 := by unfold whyOf; rw [if_neg hl, if_neg hd]
      have e2 : cntOf st = if halfGood st 0 || halfGood st 1 then cAt st 2 else 0 := by
        unfold cntOf
        rw [e1]
        by_cases hg : (halfGood st 0 || halfGood st 1) = true
        · rw [if_pos hg, if_pos rfl, if_pos hg]; rfl
        · rw [if_neg hg, if_neg hg]; rfl
      rw [e1, e2]
      exact rcount_live h (by omega) (by simpa using hd)
end Go.Proofs.Ytajmfgadbphjbaa
