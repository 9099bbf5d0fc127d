/- What an act does, by both: writing, reading, spoiling. -/
import Derived.Test.YteakedikmaobfaaStDo
set_option linter.unusedVariables false
namespace Go.Proofs.Yteakedikmaobfaa
open Go.RowKit

theorem same_left {P : Program} {f : FuncId} {args : Array Value} {w : World} {v : Value} (h : Calls P f args w fun e w' => e = .returned v ∧ w = w') : Calls P f args w fun e w' => e = .returned v ∧ w' = w := h.mono fun _ _ ⟨a, b⟩ => ⟨a, b.symm⟩

theorem Both.noteS {w0 w : World} {P g : Nat} {R : RAt} {st s2 : St} (h : Both w0 w P g R st s2) : ¬ BOwn P g R w.heap.size := fun e => by
  obtain ⟨l1, l2, l3, l4, l5⟩ := h.lts
  simp only [BOwn, Own, ROwn] at e; omega

theorem do_write_bad {w0 w : World} {P g : Nat} {R : RAt} {st : St} (h : Both w0 w P g R st st) (x : ActP) (hx : ActOk w0 x) (h1 : x.kind = 1) (hw : wrongOf st x.at' x.zs.length ≠ 0) :
    Calls Try.prog 16 #[.pointer (some ⟨P, 0, none⟩), .pointer (some ⟨R.p, 0, none⟩), x.val] w (DoneAct w0 P g R st w) := by
  have HA := Lib.hid hx.at'
  have HV := Lib.hid hx.bytes
  obtain ⟨kd, at', n, by', un, v, zs⟩ := x
  dsimp only at h1 hw HA HV
  subst h1
  simp only [ActP.val, ActP.cells]
  have HW1 : Hid (∀ o n, Calls Try.prog 10 #[.pointer (some ⟨P, 0, none⟩), .int .i64 at', v] ((w.alloc o).drewN n) fun e w' => e = .returned (.int .i64 (wrongOf st at' zs.length)) ∧ w' = (w.alloc o).drewN n) := fun o n =>
    same_left (write_bad ((h.alloc o).drewN n).s v zs (((h.alloc o).drewN n).held HV.out).now at' HA.out hw)
  have HW2 : Hid (∀ o n, Calls Try.prog 21 #[.pointer (some ⟨R.p, 0, none⟩), .int .i64 at', v] ((w.alloc o).drewN n) fun e w' => e = .returned (.int .i64 (wrongOf st at' zs.length)) ∧ w' = (w.alloc o).drewN n) := fun o n =>
    same_left (rwrite_bad ((h.alloc o).drewN n).r v zs (((h.alloc o).drewN n).held HV.out).now at' HA.out hw)
  have HB := Lib.hid h
  clear h hx hw
  generalize wrongOf st at' zs.length = q at *
  go_enter Try.func16, Try.ntmps16
  go_wp2_with fail
  go_quiet ((first | (go_at_call 10; exact Calls.quiet_of_same (HW1.out _ _)) | (go_at_call 21; exact Calls.quiet_of_same (HW2.out _ _))))
  go_wp2_with fail
  go_ret
  exact ⟨rfl, (HB.out.alloc _).drewN _, ((GrowBut.refl _ _).alloc _).drewN _⟩

theorem both_stay {w0 : World} {P g : Nat} {R : RAt} {st s2 : St} : ∀ w w', Below w.heap.size w w' → Both w0 w P g R st s2 → Both w0 w' P g R st s2 := fun _ _ hb h => h.grow hb

set_option maxHeartbeats 1000000 in
theorem do_write_good {w0 w : World} {P g : Nat} {R : RAt} {st : St} (h : Both w0 w P g R st st) (x : ActP) (hx : ActOk w0 x) (h1 : x.kind = 1) (k : Nat) (ha : x.at' = k) (hk : k + x.zs.length ≤ st.cells.length) (hd : st.dead = false) :
    Calls Try.prog 16 #[.pointer (some ⟨P, 0, none⟩), .pointer (some ⟨R.p, 0, none⟩), x.val] w (DoneAct w0 P g R (wrote st k x.zs) w) := by
  have HV := Lib.hid hx.bytes
  obtain ⟨kd, at', n, by', un, v, zs⟩ := x
  dsimp only at h1 HV ha hk
  subst h1
  subst ha
  simp only [ActP.val]
  have HB := Lib.hid h
  have HNE := Lib.hid h.noteS
  have HK := Lib.hid hk
  have HD := Lib.hid hd
  clear h hx hk hd
  simp only [ActP.cells]
  go_enter Try.func16, Try.ntmps16
  go_wp2_with fail
  refine wp_region_grow 14 [5, 11] (BOwn P g R) (fun w' => Both w0 w' P g R st st) (by kernel_rfl) (by kernel_rfl) (by rfl) both_stay (HB.out.alloc _) ?_
  simp only [List.take_succ_cons, List.take_zero, List.drop_succ_cons, List.drop_zero]
  repeat (refine wpH_pure (by intro _ _ h; cases h) (by rfl) (by rfl) (fun K hK => ?_); go_simp; refine hK _ ?_; clear hK K)
  refine wpH_det (.int .i64 k) (by rfl) (fun xs => by rfl) (fun xs w' hg hf => ?_) ?_
  · clear hf
    obtain ⟨b0, b1, b2, b3, b4, b5⟩ := act_cells (x := ⟨1, (k : Int), n, by', un, v, zs⟩) (heap_alloc_new w _) hg HNE.out
    dsimp only at b1
    clear b0 b2 b3 b4 b5
    go_simp
    exact Below.refl _ _
  repeat (refine wpH_pure (by intro _ _ h; cases h) (by rfl) (by rfl) (fun K hK => ?_); go_simp; refine hK _ ?_; clear hK K)
  refine wpH_det v (by rfl) (fun xs => by rfl) (fun xs w' hg hf => ?_) ?_
  · clear hf
    obtain ⟨b0, b1, b2, b3, b4, b5⟩ := act_cells (x := ⟨1, (k : Int), n, by', un, v, zs⟩) (heap_alloc_new w _) hg HNE.out
    dsimp only at b5
    clear b0 b1 b2 b3 b4
    go_simp
    exact Below.refl _ _
  refine wpH_cdet (.int .i64 (wrRes st k zs)) (fun w' => Both w0 w' P g R (wrote st k zs) st) (by rfl) both_stay (fun xs => by rfl) (fun xs w' hg hc hf => ?_) ?_
  · clear hf
    go_simp
    refine (write_any hc.s k v zs (hc.held HV.out) HK.out HD.out).mono ?_
    rintro e w2 ⟨rfl, hs, hg2⟩
    exact ⟨_, rfl, rfl, growS hg2, hc.turnS hs hg2⟩
  repeat (refine wpH_pure (by intro _ _ h; cases h) (by rfl) (by rfl) (fun K hK => ?_); go_simp; refine hK _ ?_; clear hK K)
  refine wpH_det (.int .i64 k) (by rfl) (fun xs => by rfl) (fun xs w' hg hf => ?_) ?_
  · clear hf
    obtain ⟨b0, b1, b2, b3, b4, b5⟩ := act_cells (x := ⟨1, (k : Int), n, by', un, v, zs⟩) (heap_alloc_new w _) hg HNE.out
    dsimp only at b1
    clear b0 b2 b3 b4 b5
    go_simp
    exact Below.refl _ _
  repeat (refine wpH_pure (by intro _ _ h; cases h) (by rfl) (by rfl) (fun K hK => ?_); go_simp; refine hK _ ?_; clear hK K)
  refine wpH_det v (by rfl) (fun xs => by rfl) (fun xs w' hg hf => ?_) ?_
  · clear hf
    obtain ⟨b0, b1, b2, b3, b4, b5⟩ := act_cells (x := ⟨1, (k : Int), n, by', un, v, zs⟩) (heap_alloc_new w _) hg HNE.out
    dsimp only at b5
    clear b0 b1 b2 b3 b4
    go_simp
    exact Below.refl _ _
  refine wpH_cdet (.int .i64 (wrRes st k zs)) (fun w' => Both w0 w' P g R (wrote st k zs) (wrote st k zs)) (by rfl) both_stay (fun xs => by rfl) (fun xs w' hg hc hf => ?_) ?_
  · clear hf
    go_simp
    refine (rwrite_any hc.r k v zs (hc.heldR HV.out) HK.out HD.out).mono ?_
    rintro e w2 ⟨rfl, hs, hg2⟩
    exact ⟨_, rfl, rfl, growR hg2, hc.turnR hs hg2⟩
  repeat (refine wpH_pure (by intro _ _ h; cases h) (by rfl) (by rfl) (fun K hK => ?_); go_simp; refine hK _ ?_; clear hK K)
  refine wpH_nil ?_
  intro xs w2 hg hc _
  have HC := Lib.hid hc
  have HG : Hid (GrowBut (BOwn P g R) w w2) := ((GrowBut.refl _ _).alloc _).trans hg
  simp only [fill]
  clear hg hc
  go_simp
  go_wp2
  go_ret
  exact ⟨rfl, HC.out, HG.out⟩

set_option maxHeartbeats 400000 in
theorem do_spoil_bad {w0 w : World} {P g : Nat} {R : RAt} {st : St} (h : Both w0 w P g R st st) (x : ActP) (hx : ActOk w0 x) (h5 : x.kind = 5) (hb : ¬ (0 ≤ x.at' ∧ x.at' < st.cells.length)) :
    Calls Try.prog 16 #[.pointer (some ⟨P, 0, none⟩), .pointer (some ⟨R.p, 0, none⟩), x.val] w (DoneAct w0 P g R st w) := by
  have ha := hx.at'
  obtain ⟨kd, at', n, by', un, v, zs⟩ := x
  dsimp only at h5 hb ha
  subst h5
  simp only [ActP.val, ActP.cells]
  have HSP : Hid (∀ o, Calls Try.prog 22 #[.pointer (some ⟨P, 0, none⟩), .int .i64 at', .int .u8 by', .bool un] (w.alloc o) fun e w' => e = .returned (.int .i64 2) ∧ w.alloc o = w') := fun o =>
    spoil_bad (h.alloc o).s at' by' un (by omega)
  obtain ⟨cb, cu, ⟨hcb, hcu⟩, c0, c1, c2, c3, c4, c5, hf⟩ := h.r.cellsP
  have hlt := h.lts.2.2.1
  have HB := Lib.hid h
  clear h hx c1 c2 c3 c4 c5 hf hcb hcu
  by_cases hn : at' < 0
  · clear hb
    go_enter Try.func16, Try.ntmps16
    go_wp2_with (go_at_call 22; refine (HSP.out _).mono ?_; rintro e w' ⟨rfl, rfl⟩)
    go_quiet (fail)
    go_wp2_with fail
    go_ret
    exact ⟨rfl, (HB.out.alloc _).drewN _, ((GrowBut.refl _ _).alloc _).drewN _⟩
  · have h2 : decide ((st.cells.length : Int) ≤ at') = true := by simp; omega
    have h3 : decide (at' < 0) = false := by simp; omega
    clear hb hn
    go_enter Try.func16, Try.ntmps16
    go_wp2_with (go_at_call 22; refine (HSP.out _).mono ?_; rintro e w' ⟨rfl, rfl⟩)
    go_quiet (fail)
    go_wp2_with fail
    go_ret
    exact ⟨rfl, (HB.out.alloc _).drewN _, ((GrowBut.refl _ _).alloc _).drewN _⟩

set_option maxHeartbeats 1000000 in
theorem do_spoil_good {w0 w : World} {P g : Nat} {R : RAt} {st : St} (h : Both w0 w P g R st st) (x : ActP) (hx : ActOk w0 x) (h5 : x.kind = 5) (k : Nat) (ha : x.at' = k) (hk : k < st.cells.length) :
    Calls Try.prog 16 #[.pointer (some ⟨P, 0, none⟩), .pointer (some ⟨R.p, 0, none⟩), x.val] w (DoneAct w0 P g R { st with cells := st.cells.set k (x.by', x.un) } w) := by
  have HY := Lib.hid hx.by'
  obtain ⟨kd, at', n, by', un, v, zs⟩ := x
  dsimp only at h5 ha HY
  subst h5
  subst ha
  simp only [ActP.val, ActP.cells]
  have HSP : Hid (∀ o, Calls Try.prog 22 #[.pointer (some ⟨P, 0, none⟩), .int .i64 (k : Int), .int .u8 by', .bool un] (w.alloc o) fun e w' => e = .returned (.int .i64 0) ∧ StoreV w' P g { st with cells := st.cells.set k (by', un) } ∧ GrowBut (Own P g) (w.alloc o) w') := fun o =>
    spoil_any (h.alloc o).s k by' un hk HY.out
  have HNE : Hid (¬ Own P g w.heap.size) := fun e => h.noteS (Or.inl e)
  have HB := Lib.hid h
  have HBP : Hid (w.heap.size ≠ R.p ∧ w.heap.size ≠ R.b ∧ w.heap.size ≠ R.u) := by
    obtain ⟨l1, l2, l3, l4, l5⟩ := h.lts
    exact ⟨by omega, by omega, by omega⟩
  have hl := h.s.le
  clear h hx
  go_enter Try.func16, Try.ntmps16
  go_wp2_with fail
  refine (HSP.out _).mono ?_
  rintro e w2 ⟨rfl, hs, hg⟩
  have HB2 := Lib.hid ((HB.out.alloc _).turnS hs hg)
  have HG2 : Hid (GrowBut (BOwn P g R) w w2) := ((GrowBut.refl _ _).alloc _).trans (growS hg)
  obtain ⟨b0, b1, b2, b3, b4, b5⟩ := act_cells (x := ⟨5, (k : Int), n, by', un, v, zs⟩) (heap_alloc_new w _) hg HNE.out
  dsimp only at b1 b3 b4
  clear b0 b2 b5 hs hg HSP HB
  obtain ⟨cb, cu, ⟨hcb, hcu⟩, c0, c1, c2, c3, c4, c5, hf⟩ := HB2.out.r.cellsP
  obtain ⟨g0, g1, gf0, gf1⟩ := HB2.out.r.cellsR k hk
  have hk1 : (k : Int) < (st.cells.length : Int) := by omega
  have hk2 : decide ((st.cells.length : Int) ≤ (k : Int)) = false := by simp; omega
  have p1 := HBP.out.1
  have p2 := HBP.out.2.1
  have p3 := HBP.out.2.2
  have q1 := HB2.out.r.ne1
  have q2 := HB2.out.r.ne2
  have q3 := HB2.out.r.ne3
  clear c2 c3 c4 c5 hf
  have HFin : Hid (∀ n : Nat, DoneAct w0 P g R { st with cells := st.cells.set k (by', un) } w (.returned (.bool true)) ((((w2.drewN n).setCell ⟨R.b, k, none⟩ (.int .u8 by')).setCell ⟨R.u, k, none⟩ (.bool un)).drew)) := by
    intro n
    have hr := (HB2.out.drewN n).r.putR k by' un hk HY.out
    have hg : GrowBut (ROwn R) (w2.drewN n) (((w2.drewN n).setCell ⟨R.b, k, none⟩ (.int .u8 by')).setCell ⟨R.u, k, none⟩ (.bool un)) := ((GrowBut.refl _ _).setCell (Or.inr (Or.inl rfl)) _).setCell (Or.inr (Or.inr rfl)) _
    exact ⟨rfl, ((HB2.out.drewN n).turnR hr hg).drew, ((HG2.out.drewN n).trans (growR hg)).drew⟩
  go_wp2_with fail
  go_quiet (fail)
  go_wp2_with fail
  go_region
  go_wp2_with fail
  go_region
  go_wp2_with fail
  go_ret
  exact HFin.out _

/-- Reading turns nothing. -/
theorem do_read_bad {w0 w : World} {P g : Nat} {R : RAt} {st : St} (h : Both w0 w P g R st st) (x : ActP) (hx : ActOk w0 x) (h2 : x.kind = 2) (hw : wrongOf st x.at' x.n ≠ 0) :
    Calls Try.prog 16 #[.pointer (some ⟨P, 0, none⟩), .pointer (some ⟨R.p, 0, none⟩), x.val] w (DoneAct w0 P g R st w) := by
  have ha := hx.at'
  have hn := hx.n
  obtain ⟨kd, at', n, by', un, v, zs⟩ := x
  dsimp only at h2 hw ha hn
  subst h2
  simp only [ActP.val, ActP.cells]
  have HR : Hid (∀ o, Calls Try.prog 11 #[.pointer (some ⟨P, 0, none⟩), .int .i64 at', .int .i64 n] (w.alloc o) fun e w' => e = .returned (.tuple #[.slice none 0 0, .int .i64 (wrongOf st at' n)]) ∧ w.alloc o = w') := fun o => read_bad (h.alloc o).s at' n ha hn hw
  have HR2 : Hid (∀ o, Calls Try.prog 25 #[.pointer (some ⟨R.p, 0, none⟩), .int .i64 at', .int .i64 n] (w.alloc o) fun e w' => e = .returned (.tuple #[.slice none 0 0, .int .i64 (wrongOf st at' n)]) ∧ w.alloc o = w') := fun o => rread_bad (h.alloc o).r at' n ha hn hw
  have HB := Lib.hid h
  have hconv := fun W : World => str_of (w := W) (v := .slice none 0 0) (zs := []) ⟨Bytes.nil, Or.inl ⟨rfl, none, 0, rfl, Nat.zero_le _, fun _ => rfl⟩⟩
  clear h hx hw ha hn
  generalize wrongOf st at' n = q at *
  generalize strOfNums [] = sx at *
  go_enter Try.func16, Try.ntmps16
  go_wp2_with (first | (go_at_call 11; refine (HR.out _).mono ?_; rintro e w' ⟨rfl, rfl⟩) | (go_at_call 25; refine (HR2.out _).mono ?_; rintro e w' ⟨rfl, rfl⟩))
  go_ret
  exact ⟨rfl, HB.out.alloc _, (GrowBut.refl _ _).alloc _⟩

theorem do_read_good {w0 w : World} {P g : Nat} {R : RAt} {st : St} (h : Both w0 w P g R st st) (x : ActP) (hx : ActOk w0 x) (h2 : x.kind = 2) (k m : Nat) (ha : x.at' = k) (hn : x.n = m) (hk : k + m ≤ st.cells.length) (hd : st.dead = false) :
    Calls Try.prog 16 #[.pointer (some ⟨P, 0, none⟩), .pointer (some ⟨R.p, 0, none⟩), x.val] w (DoneAct w0 P g R st w) := by
  obtain ⟨kd, at', n, by', un, v, zs⟩ := x
  dsimp only at h2 ha hn
  subst h2
  subst ha
  subst hn
  simp only [ActP.val, ActP.cells]
  have HB := Lib.hid h
  have HNE : Hid (¬ NoBlock w.heap.size) := fun e => e
  have HK := Lib.hid hk
  have HD := Lib.hid hd
  clear h hx hk hd
  go_enter Try.func16, Try.ntmps16
  go_wp2_with fail
  refine (read_any (HB.out.alloc _).s k m HK.out HD.out).mono ?_
  rintro e w2 ⟨v1, er1, rfl, hr1, hg⟩
  have HB2 := Lib.hid ((HB.out.alloc _).grow hg)
  have HG2 : Hid (Grow w w2) := Grow.trans ((Grow.refl _).alloc _) hg
  obtain ⟨b0, b1, b2, b3, b4, b5⟩ := act_cells (x := ⟨2, (k : Int), (m : Int), by', un, v, zs⟩) (heap_alloc_new w _) (GrowBut.of_below (M := NoBlock) hg) HNE.out
  dsimp only at b1 b2
  have HR1 := Lib.hid hr1
  clear b0 b3 b4 b5 hg HB hr1
  go_wp2_with fail
  refine (rread_any HB2.out.r k m HK.out HD.out).mono ?_
  rintro e w3 ⟨v2, er2, rfl, hr2, rfl⟩
  have hr1 := HR1.out
  unfold readRes at hr1 hr2
  split at hr1
  · rename_i hany
    rw [if_pos hany] at hr2
    obtain ⟨rfl, rfl⟩ := hr1
    obtain ⟨rfl, rfl⟩ := hr2
    have hconv := str_of (w := w2) (v := .slice none 0 0) (zs := []) ⟨Bytes.nil, Or.inl ⟨rfl, none, 0, rfl, Nat.zero_le _, fun _ => rfl⟩⟩
    clear hany HR1 b1 b2
    generalize strOfNums [] = sx at *
    go_wp2_with fail
    go_ret
    exact ⟨rfl, HB2.out, GrowBut.of_below HG2.out⟩
  · rename_i hany
    rw [if_neg hany] at hr2
    obtain ⟨rfl, hb1⟩ := hr1
    obtain ⟨rfl, hb2⟩ := hr2
    have hc1 := str_of hb1
    have hc2 := str_of hb2
    clear hany HR1 b1 b2 hb1 hb2
    generalize strOfNums ((part st k m).map (·.1)) = sx at *
    go_wp2_with fail
    go_ret
    exact ⟨rfl, HB2.out, GrowBut.of_below HG2.out⟩

/-- **What an act does, it does by both.** -/
theorem do_any {w0 w : World} {P g : Nat} {R : RAt} {st : St} (h : Both w0 w P g R st st) (x : ActP) (hx : ActOk w0 x) :
    Calls Try.prog 16 #[.pointer (some ⟨P, 0, none⟩), .pointer (some ⟨R.p, 0, none⟩), x.val] w (DoneAct w0 P g R (doSt st x) w) := by
  unfold doSt
  by_cases h1 : x.kind = 1
  · rw [if_pos h1]
    by_cases hw : wrongOf st x.at' x.zs.length = 0
    · rw [if_pos hw]
      have hi : insideOf st x.at' x.zs.length := by
        rcases Classical.em (insideOf st x.at' x.zs.length) with h | h
        · exact h
        · rw [inside_no h] at hw; cases hw
      have hd : st.dead = false := by
        rw [inside_yes hi] at hw
        cases hdd : st.dead
        · rfl
        · rw [hdd] at hw; cases hw
      obtain ⟨i1, i2, i3, i4⟩ := hi
      exact do_write_good h x hx h1 x.at'.toNat (by omega) (by omega) hd
    · rw [if_neg hw]
      exact do_write_bad h x hx h1 hw
  rw [if_neg h1]
  by_cases h2 : x.kind = 2
  · rw [if_neg (by omega), if_neg (by omega), if_neg (by omega)]
    by_cases hw : wrongOf st x.at' x.n = 0
    · have hi : insideOf st x.at' x.n := by
        rcases Classical.em (insideOf st x.at' x.n) with h | h
        · exact h
        · rw [inside_no h] at hw; cases hw
      have hd : st.dead = false := by
        rw [inside_yes hi] at hw
        cases hdd : st.dead
        · rfl
        · rw [hdd] at hw; cases hw
      obtain ⟨i1, i2, i3, i4⟩ := hi
      exact do_read_good h x hx h2 x.at'.toNat x.n.toNat (by omega) (by omega) (by omega) hd
    · exact do_read_bad h x hx h2 hw
  by_cases h3 : x.kind = 3
  · rw [if_pos h3]
    exact do_fuse h x hx h3
  rw [if_neg h3]
  by_cases h4 : x.kind = 4
  · rw [if_pos h4]
    exact do_raise h x h4
  rw [if_neg h4]
  by_cases h5 : x.kind = 5
  · rw [if_pos h5]
    by_cases hb : 0 ≤ x.at' ∧ x.at' < st.cells.length
    · rw [if_pos hb]
      exact do_spoil_good h x hx h5 x.at'.toNat (by omega) (by omega)
    · rw [if_neg hb]
      exact do_spoil_bad h x hx h5 hb
  rw [if_neg h5]
  exact do_other h x h1 h2 h3 h4 h5
end Go.Proofs.Yteakedikmaobfaa
