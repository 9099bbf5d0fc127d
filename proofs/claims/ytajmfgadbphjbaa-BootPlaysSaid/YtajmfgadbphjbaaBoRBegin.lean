/- The document's Begin. -/
import Derived.Test.YtajmfgadbphjbaaBoRSlots
set_option linter.unusedVariables false
set_option linter.unusedSimpArgs false
namespace Go.Proofs.Ytajmfgadbphjbaa
open Go.RowKit

def RSomeBegin (R : RAt) (n err : Int) (st' : St) (w : World) (e : Ending) (w' : World) : Prop :=
  e = .returned (.tuple #[.int .u64 n, .int .i64 err]) ∧ RefV w' R st' ∧ GrowBut (ROwn R) w w'
def RBegun (R : RAt) (st : St) (k : Nat) (zs : List Int) (c : Int) (w : World) (e : Ending) (w' : World) : Prop :=
  RSomeBegin R (if (wrote st k zs).dead then 0 else c + 1) (if (wrote st k zs).dead then 7 else 0) (wrote st k zs) w e w'

theorem rbegin_why {w : World} {v : Value} {c err : Int} (he : err ≠ 0) (H : Calls Try.prog 21 #[v] w (RCnt c err w)) :
    Calls Try.prog 25 #[v] w fun e w' => e = .returned (.tuple #[.int .u64 0, .int .i64 err]) ∧ Grow w w' := by
  have hb : (err != 0) = true := by simpa using he
  clear he
  go_enter Try.func25, Try.ntmps25
  go_wp2_with fail
  refine H.mono ?_
  rintro e w1 ⟨rfl, hg⟩
  have HG := Lib.hid hg
  clear hg
  go_wp2_with fail
  go_ret2
  exact ⟨rfl, HG.out⟩
theorem rbegin_full {w : World} {v : Value} {c : Int} (hc : (c == 18446744073709551615) = true) (H : Calls Try.prog 21 #[v] w (RCnt c 0 w)) :
    Calls Try.prog 25 #[v] w fun e w' => e = .returned (.tuple #[.int .u64 0, .int .i64 5]) ∧ Grow w w' := by
  go_enter Try.func25, Try.ntmps25
  go_wp2_with fail
  refine H.mono ?_
  rintro e w1 ⟨rfl, hg⟩
  have HG := Lib.hid hg
  clear hg
  go_wp2_with fail
  go_ret2
  exact ⟨rfl, HG.out⟩

set_option maxHeartbeats 4000000 in
theorem rbegin_A {w : World} {g1 : Bool} {R : RAt} {st : St} (h : RefV w R st) (hd : st.dead = false) (hl : 32 ≤ st.cells.length) (c n0 n1 : Int) (hcn : Calls Try.prog 21 #[.pointer (some ⟨R.p, 0, none⟩)] w (RCnt c 0 w))
    (hn0 : halfNum st 0 = n0) (hn1 : halfNum st 1 = n1) (hc : (c == 18446744073709551615) = false) (h0 : 0 ≤ c) (h1 : c + 1 < 18446744073709551616) (hg0 : halfGood st 0 = false) (hg1 : halfGood st 1 = g1)  :
    Calls Try.prog 25 #[.pointer (some ⟨R.p, 0, none⟩)] w fun e w' => RBegun R st 0 (slotB (c + 1)) c w e w' := by
  have HSl : Hid (∀ x, Calls Try.prog 10 #[.int .u64 (c + 1)] x fun e w' => ∃ v, e = .returned v ∧ NewBytes x (slotB (c + 1)) v w') := fun x => refslot_any _ x ⟨by omega, h1⟩
  have HCN := Lib.hid hcn
  have HS := Lib.hid h
  have HD := Lib.hid hd
  have HL := Lib.hid hl
  have HG0 := Lib.hid hg0
  have HG1 := Lib.hid hg1
  have HB := Lib.hid (slotB_bytes (c + 1))
  have HBL := Lib.hid (slotB_length (c + 1))
  have HN0 := Lib.hid hn0
  have HN1 := Lib.hid hn1
  clear h hd hl hcn hg0 hg1 hn0 hn1
  generalize slotB (c + 1) = zs at *
  go_enter Try.func25, Try.ntmps25
  go_wp2_with fail
  refine HCN.out.mono ?_
  rintro e w1 ⟨rfl, hg1⟩
  have HS1 := Lib.hid (HS.out.stay (M := fun _ => False) (GrowBut.of_below hg1) (fun h => h) (fun h => h) (fun h => h))
  have HW1 := Lib.hid hg1
  have hsl := rslots_live HS1.out HL.out HD.out
  unfold rslotsRes at hsl
  rw [HN0.out, HN1.out, HG0.out, HG1.out] at hsl
  have HSLx := Lib.hid hsl
  clear hg1 hsl
  go_wp2_with fail
  refine HSLx.out.mono ?_
  rintro e w2 ⟨rfl, hg2⟩
  have HA := Lib.hid (Arr.new2 (HW1.out.trans hg2) n0 n1 false g1)
  obtain ⟨c0, c1, c2, c3, f0, f1⟩ := Arr.cells HA.out
  clear f0 f1 hg2
  go_wp2_with fail
  refine (HSl.out _).mono ?_
  rintro e w3 ⟨v, rfl, hv⟩
  have hg3 := HA.out.grow.trans hv.2
  have hsz := HA.out.grow.size
  have hlt := HS.out.lts
  have hs3 : RefV w3 R st := HS.out.stay (M := fun _ => False) (GrowBut.of_below hg3) (fun h => h) (fun h => h) (fun h => h)
  have hheld : HeldR R w3 v zs := fun w' hw => ⟨HB.out, ints_of_owns (own_but hv.1 hw (fun k hk => by simp only [ROwn] at hk; simp only [World.size_alloc] at *; omega))⟩
  have hwr := rwrite_any hs3 0 v zs hheld (by rw [HBL.out]; have := HL.out; omega) HD.out
  have HWR := Lib.hid hwr
  have HG3 := Lib.hid hg3
  clear hwr hg3 hv hs3 hsz hlt hheld c0 c1 c2 c3
  go_wp2_with fail
  refine HWR.out.mono ?_
  rintro e w4 ⟨rfl, hs4, hg4⟩
  have HS4 := Lib.hid hs4
  have HG4 := Lib.hid ((grow_but HG3.out : GrowBut (ROwn R) w w3).trans hg4)
  unfold wrRes
  clear hs4 hg4
  cases hdd : (wrote st 0 zs).dead
  · have HDD := Lib.hid hdd
    clear hdd
    go_wp2_with fail
    go_ret2
    exact ⟨by simp [HDD.out], HS4.out, HG4.out⟩
  · have HDD := Lib.hid hdd
    clear hdd
    go_wp2_with fail
    go_ret2
    exact ⟨by simp [HDD.out], HS4.out, HG4.out⟩

set_option maxHeartbeats 4000000 in
theorem rbegin_B {w : World} {g1 : Bool} {R : RAt} {st : St} (h : RefV w R st) (hd : st.dead = false) (hl : 32 ≤ st.cells.length) (c n0 n1 : Int) (hcn : Calls Try.prog 21 #[.pointer (some ⟨R.p, 0, none⟩)] w (RCnt c 0 w))
    (hn0 : halfNum st 0 = n0) (hn1 : halfNum st 1 = n1) (hc : (c == 18446744073709551615) = false) (h0 : 0 ≤ c) (h1 : c + 1 < 18446744073709551616) (hg0 : halfGood st 0 = true) (hg1 : halfGood st 1 = g1) (hb : (n0 == c) = false) :
    Calls Try.prog 25 #[.pointer (some ⟨R.p, 0, none⟩)] w fun e w' => RBegun R st 0 (slotB (c + 1)) c w e w' := by
  have HSl : Hid (∀ x, Calls Try.prog 10 #[.int .u64 (c + 1)] x fun e w' => ∃ v, e = .returned v ∧ NewBytes x (slotB (c + 1)) v w') := fun x => refslot_any _ x ⟨by omega, h1⟩
  have HCN := Lib.hid hcn
  have HS := Lib.hid h
  have HD := Lib.hid hd
  have HL := Lib.hid hl
  have HG0 := Lib.hid hg0
  have HG1 := Lib.hid hg1
  have HB := Lib.hid (slotB_bytes (c + 1))
  have HBL := Lib.hid (slotB_length (c + 1))
  have HN0 := Lib.hid hn0
  have HN1 := Lib.hid hn1
  clear h hd hl hcn hg0 hg1 hn0 hn1
  generalize slotB (c + 1) = zs at *
  go_enter Try.func25, Try.ntmps25
  go_wp2_with fail
  refine HCN.out.mono ?_
  rintro e w1 ⟨rfl, hg1⟩
  have HS1 := Lib.hid (HS.out.stay (M := fun _ => False) (GrowBut.of_below hg1) (fun h => h) (fun h => h) (fun h => h))
  have HW1 := Lib.hid hg1
  have hsl := rslots_live HS1.out HL.out HD.out
  unfold rslotsRes at hsl
  rw [HN0.out, HN1.out, HG0.out, HG1.out] at hsl
  have HSLx := Lib.hid hsl
  clear hg1 hsl
  go_wp2_with fail
  refine HSLx.out.mono ?_
  rintro e w2 ⟨rfl, hg2⟩
  have HA := Lib.hid (Arr.new2 (HW1.out.trans hg2) n0 n1 true g1)
  obtain ⟨c0, c1, c2, c3, f0, f1⟩ := Arr.cells HA.out
  clear f0 f1 hg2
  go_wp2_with fail
  refine (HSl.out _).mono ?_
  rintro e w3 ⟨v, rfl, hv⟩
  have hg3 := HA.out.grow.trans hv.2
  have hsz := HA.out.grow.size
  have hlt := HS.out.lts
  have hs3 : RefV w3 R st := HS.out.stay (M := fun _ => False) (GrowBut.of_below hg3) (fun h => h) (fun h => h) (fun h => h)
  have hheld : HeldR R w3 v zs := fun w' hw => ⟨HB.out, ints_of_owns (own_but hv.1 hw (fun k hk => by simp only [ROwn] at hk; simp only [World.size_alloc] at *; omega))⟩
  have hwr := rwrite_any hs3 0 v zs hheld (by rw [HBL.out]; have := HL.out; omega) HD.out
  have HWR := Lib.hid hwr
  have HG3 := Lib.hid hg3
  clear hwr hg3 hv hs3 hsz hlt hheld c0 c1 c2 c3
  go_wp2_with fail
  refine HWR.out.mono ?_
  rintro e w4 ⟨rfl, hs4, hg4⟩
  have HS4 := Lib.hid hs4
  have HG4 := Lib.hid ((grow_but HG3.out : GrowBut (ROwn R) w w3).trans hg4)
  unfold wrRes
  clear hs4 hg4
  cases hdd : (wrote st 0 zs).dead
  · have HDD := Lib.hid hdd
    clear hdd
    go_wp2_with fail
    go_ret2
    exact ⟨by simp [HDD.out], HS4.out, HG4.out⟩
  · have HDD := Lib.hid hdd
    clear hdd
    go_wp2_with fail
    go_ret2
    exact ⟨by simp [HDD.out], HS4.out, HG4.out⟩

set_option maxHeartbeats 4000000 in
theorem rbegin_C {w : World} {R : RAt} {st : St} (h : RefV w R st) (hd : st.dead = false) (hl : 32 ≤ st.cells.length) (c n0 n1 : Int) (hcn : Calls Try.prog 21 #[.pointer (some ⟨R.p, 0, none⟩)] w (RCnt c 0 w))
    (hn0 : halfNum st 0 = n0) (hn1 : halfNum st 1 = n1) (hc : (c == 18446744073709551615) = false) (h0 : 0 ≤ c) (h1 : c + 1 < 18446744073709551616) (hg0 : halfGood st 0 = true) (hg1 : halfGood st 1 = false) (hb : (n0 == c) = true) :
    Calls Try.prog 25 #[.pointer (some ⟨R.p, 0, none⟩)] w fun e w' => RBegun R st 16 (slotB (c + 1)) c w e w' := by
  have HSl : Hid (∀ x, Calls Try.prog 10 #[.int .u64 (c + 1)] x fun e w' => ∃ v, e = .returned v ∧ NewBytes x (slotB (c + 1)) v w') := fun x => refslot_any _ x ⟨by omega, h1⟩
  have HCN := Lib.hid hcn
  have HS := Lib.hid h
  have HD := Lib.hid hd
  have HL := Lib.hid hl
  have HG0 := Lib.hid hg0
  have HG1 := Lib.hid hg1
  have HB := Lib.hid (slotB_bytes (c + 1))
  have HBL := Lib.hid (slotB_length (c + 1))
  have HN0 := Lib.hid hn0
  have HN1 := Lib.hid hn1
  clear h hd hl hcn hg0 hg1 hn0 hn1
  generalize slotB (c + 1) = zs at *
  go_enter Try.func25, Try.ntmps25
  go_wp2_with fail
  refine HCN.out.mono ?_
  rintro e w1 ⟨rfl, hg1⟩
  have HS1 := Lib.hid (HS.out.stay (M := fun _ => False) (GrowBut.of_below hg1) (fun h => h) (fun h => h) (fun h => h))
  have HW1 := Lib.hid hg1
  have hsl := rslots_live HS1.out HL.out HD.out
  unfold rslotsRes at hsl
  rw [HN0.out, HN1.out, HG0.out, HG1.out] at hsl
  have HSLx := Lib.hid hsl
  clear hg1 hsl
  go_wp2_with fail
  refine HSLx.out.mono ?_
  rintro e w2 ⟨rfl, hg2⟩
  have HA := Lib.hid (Arr.new2 (HW1.out.trans hg2) n0 n1 true false)
  obtain ⟨c0, c1, c2, c3, f0, f1⟩ := Arr.cells HA.out
  clear f0 f1 hg2
  go_wp2_with fail
  refine (HSl.out _).mono ?_
  rintro e w3 ⟨v, rfl, hv⟩
  have hg3 := HA.out.grow.trans hv.2
  have hsz := HA.out.grow.size
  have hlt := HS.out.lts
  have hs3 : RefV w3 R st := HS.out.stay (M := fun _ => False) (GrowBut.of_below hg3) (fun h => h) (fun h => h) (fun h => h)
  have hheld : HeldR R w3 v zs := fun w' hw => ⟨HB.out, ints_of_owns (own_but hv.1 hw (fun k hk => by simp only [ROwn] at hk; simp only [World.size_alloc] at *; omega))⟩
  have hwr := rwrite_any hs3 16 v zs hheld (by rw [HBL.out]; have := HL.out; omega) HD.out
  have HWR := Lib.hid hwr
  have HG3 := Lib.hid hg3
  clear hwr hg3 hv hs3 hsz hlt hheld c0 c1 c2 c3
  go_wp2_with fail
  refine HWR.out.mono ?_
  rintro e w4 ⟨rfl, hs4, hg4⟩
  have HS4 := Lib.hid hs4
  have HG4 := Lib.hid ((grow_but HG3.out : GrowBut (ROwn R) w w3).trans hg4)
  unfold wrRes
  clear hs4 hg4
  cases hdd : (wrote st 16 zs).dead
  · have HDD := Lib.hid hdd
    clear hdd
    go_wp2_with fail
    go_ret2
    exact ⟨by simp [HDD.out], HS4.out, HG4.out⟩
  · have HDD := Lib.hid hdd
    clear hdd
    go_wp2_with fail
    go_ret2
    exact ⟨by simp [HDD.out], HS4.out, HG4.out⟩

set_option maxHeartbeats 4000000 in
theorem rbegin_D {w : World} {R : RAt} {st : St} (h : RefV w R st) (hd : st.dead = false) (hl : 32 ≤ st.cells.length) (c n0 n1 : Int) (hcn : Calls Try.prog 21 #[.pointer (some ⟨R.p, 0, none⟩)] w (RCnt c 0 w))
    (hn0 : halfNum st 0 = n0) (hn1 : halfNum st 1 = n1) (hc : (c == 18446744073709551615) = false) (h0 : 0 ≤ c) (h1 : c + 1 < 18446744073709551616) (hg0 : halfGood st 0 = true) (hg1 : halfGood st 1 = true) (hb : (n0 == c) = true) (hb2 : (n1 == c) = false) :
    Calls Try.prog 25 #[.pointer (some ⟨R.p, 0, none⟩)] w fun e w' => RBegun R st 16 (slotB (c + 1)) c w e w' := by
  have HSl : Hid (∀ x, Calls Try.prog 10 #[.int .u64 (c + 1)] x fun e w' => ∃ v, e = .returned v ∧ NewBytes x (slotB (c + 1)) v w') := fun x => refslot_any _ x ⟨by omega, h1⟩
  have HCN := Lib.hid hcn
  have HS := Lib.hid h
  have HD := Lib.hid hd
  have HL := Lib.hid hl
  have HG0 := Lib.hid hg0
  have HG1 := Lib.hid hg1
  have HB := Lib.hid (slotB_bytes (c + 1))
  have HBL := Lib.hid (slotB_length (c + 1))
  have HN0 := Lib.hid hn0
  have HN1 := Lib.hid hn1
  clear h hd hl hcn hg0 hg1 hn0 hn1
  generalize slotB (c + 1) = zs at *
  go_enter Try.func25, Try.ntmps25
  go_wp2_with fail
  refine HCN.out.mono ?_
  rintro e w1 ⟨rfl, hg1⟩
  have HS1 := Lib.hid (HS.out.stay (M := fun _ => False) (GrowBut.of_below hg1) (fun h => h) (fun h => h) (fun h => h))
  have HW1 := Lib.hid hg1
  have hsl := rslots_live HS1.out HL.out HD.out
  unfold rslotsRes at hsl
  rw [HN0.out, HN1.out, HG0.out, HG1.out] at hsl
  have HSLx := Lib.hid hsl
  clear hg1 hsl
  go_wp2_with fail
  refine HSLx.out.mono ?_
  rintro e w2 ⟨rfl, hg2⟩
  have HA := Lib.hid (Arr.new2 (HW1.out.trans hg2) n0 n1 true true)
  obtain ⟨c0, c1, c2, c3, f0, f1⟩ := Arr.cells HA.out
  clear f0 f1 hg2
  go_wp2_with fail
  refine (HSl.out _).mono ?_
  rintro e w3 ⟨v, rfl, hv⟩
  have hg3 := HA.out.grow.trans hv.2
  have hsz := HA.out.grow.size
  have hlt := HS.out.lts
  have hs3 : RefV w3 R st := HS.out.stay (M := fun _ => False) (GrowBut.of_below hg3) (fun h => h) (fun h => h) (fun h => h)
  have hheld : HeldR R w3 v zs := fun w' hw => ⟨HB.out, ints_of_owns (own_but hv.1 hw (fun k hk => by simp only [ROwn] at hk; simp only [World.size_alloc] at *; omega))⟩
  have hwr := rwrite_any hs3 16 v zs hheld (by rw [HBL.out]; have := HL.out; omega) HD.out
  have HWR := Lib.hid hwr
  have HG3 := Lib.hid hg3
  clear hwr hg3 hv hs3 hsz hlt hheld c0 c1 c2 c3
  go_wp2_with fail
  refine HWR.out.mono ?_
  rintro e w4 ⟨rfl, hs4, hg4⟩
  have HS4 := Lib.hid hs4
  have HG4 := Lib.hid ((grow_but HG3.out : GrowBut (ROwn R) w w3).trans hg4)
  unfold wrRes
  clear hs4 hg4
  cases hdd : (wrote st 16 zs).dead
  · have HDD := Lib.hid hdd
    clear hdd
    go_wp2_with fail
    go_ret2
    exact ⟨by simp [HDD.out], HS4.out, HG4.out⟩
  · have HDD := Lib.hid hdd
    clear hdd
    go_wp2_with fail
    go_ret2
    exact ⟨by simp [HDD.out], HS4.out, HG4.out⟩

set_option maxHeartbeats 4000000 in
theorem rbegin_E {w : World} {R : RAt} {st : St} (h : RefV w R st) (hd : st.dead = false) (hl : 32 ≤ st.cells.length) (c n0 n1 : Int) (hcn : Calls Try.prog 21 #[.pointer (some ⟨R.p, 0, none⟩)] w (RCnt c 0 w))
    (hn0 : halfNum st 0 = n0) (hn1 : halfNum st 1 = n1) (hc : (c == 18446744073709551615) = false) (h0 : 0 ≤ c) (h1 : c + 1 < 18446744073709551616) (hg0 : halfGood st 0 = true) (hg1 : halfGood st 1 = true) (hb : (n0 == c) = true) (hb2 : (n1 == c) = true) :
    Calls Try.prog 25 #[.pointer (some ⟨R.p, 0, none⟩)] w fun e w' => RBegun R st 0 (slotB (c + 1)) c w e w' := by
  have HSl : Hid (∀ x, Calls Try.prog 10 #[.int .u64 (c + 1)] x fun e w' => ∃ v, e = .returned v ∧ NewBytes x (slotB (c + 1)) v w') := fun x => refslot_any _ x ⟨by omega, h1⟩
  have HCN := Lib.hid hcn
  have HS := Lib.hid h
  have HD := Lib.hid hd
  have HL := Lib.hid hl
  have HG0 := Lib.hid hg0
  have HG1 := Lib.hid hg1
  have HB := Lib.hid (slotB_bytes (c + 1))
  have HBL := Lib.hid (slotB_length (c + 1))
  have HN0 := Lib.hid hn0
  have HN1 := Lib.hid hn1
  clear h hd hl hcn hg0 hg1 hn0 hn1
  generalize slotB (c + 1) = zs at *
  go_enter Try.func25, Try.ntmps25
  go_wp2_with fail
  refine HCN.out.mono ?_
  rintro e w1 ⟨rfl, hg1⟩
  have HS1 := Lib.hid (HS.out.stay (M := fun _ => False) (GrowBut.of_below hg1) (fun h => h) (fun h => h) (fun h => h))
  have HW1 := Lib.hid hg1
  have hsl := rslots_live HS1.out HL.out HD.out
  unfold rslotsRes at hsl
  rw [HN0.out, HN1.out, HG0.out, HG1.out] at hsl
  have HSLx := Lib.hid hsl
  clear hg1 hsl
  go_wp2_with fail
  refine HSLx.out.mono ?_
  rintro e w2 ⟨rfl, hg2⟩
  have HA := Lib.hid (Arr.new2 (HW1.out.trans hg2) n0 n1 true true)
  obtain ⟨c0, c1, c2, c3, f0, f1⟩ := Arr.cells HA.out
  clear f0 f1 hg2
  go_wp2_with fail
  refine (HSl.out _).mono ?_
  rintro e w3 ⟨v, rfl, hv⟩
  have hg3 := HA.out.grow.trans hv.2
  have hsz := HA.out.grow.size
  have hlt := HS.out.lts
  have hs3 : RefV w3 R st := HS.out.stay (M := fun _ => False) (GrowBut.of_below hg3) (fun h => h) (fun h => h) (fun h => h)
  have hheld : HeldR R w3 v zs := fun w' hw => ⟨HB.out, ints_of_owns (own_but hv.1 hw (fun k hk => by simp only [ROwn] at hk; simp only [World.size_alloc] at *; omega))⟩
  have hwr := rwrite_any hs3 0 v zs hheld (by rw [HBL.out]; have := HL.out; omega) HD.out
  have HWR := Lib.hid hwr
  have HG3 := Lib.hid hg3
  clear hwr hg3 hv hs3 hsz hlt hheld c0 c1 c2 c3
  go_wp2_with fail
  refine HWR.out.mono ?_
  rintro e w4 ⟨rfl, hs4, hg4⟩
  have HS4 := Lib.hid hs4
  have HG4 := Lib.hid ((grow_but HG3.out : GrowBut (ROwn R) w w3).trans hg4)
  unfold wrRes
  clear hs4 hg4
  cases hdd : (wrote st 0 zs).dead
  · have HDD := Lib.hid hdd
    clear hdd
    go_wp2_with fail
    go_ret2
    exact ⟨by simp [HDD.out], HS4.out, HG4.out⟩
  · have HDD := Lib.hid hdd
    clear hdd
    go_wp2_with fail
    go_ret2
    exact ⟨by simp [HDD.out], HS4.out, HG4.out⟩

theorem rbegin_any {w : World} {R : RAt} {st : St} (h : RefV w R st) :
    Calls Try.prog 25 #[.pointer (some ⟨R.p, 0, none⟩)] w fun e w' => RSomeBegin R (beginNum st) (beginErr st) (beginSt st) w e w' := by
  have hs := rcount_any h
  have stay : ∀ w', Grow w w' → RefV w' R st := fun w' hg => h.stay (M := fun _ => False) (GrowBut.of_below hg) (fun h => h) (fun h => h) (fun h => h)
  by_cases hw : whyOf st = 0
  · by_cases hc : cntOf st = top64
    · have e1 : beginErr st = 5 := by unfold beginErr; rw [if_neg (by rw [hw]; decide), if_pos hc]
      have e2 : beginNum st = 0 := by unfold beginNum; rw [e1]; rfl
      have e3 : beginSt st = st := by unfold beginSt; rw [if_neg (fun h => h.2 hc)]
      rw [e1, e2, e3]
      rw [hw] at hs
      refine (rbegin_full (c := cntOf st) (by rw [hc]; decide) hs).mono ?_
      rintro e w' ⟨rfl, hg⟩
      exact ⟨rfl, stay _ hg, grow_but hg⟩
    · have hb := cntOf_bd h.byte
      have ht : top64 = 18446744073709551615 := rfl
      have e3 : beginSt st = wrote st (beginAt st) (slotB (cntOf st + 1)) := by unfold beginSt; rw [if_pos ⟨hw, hc⟩]
      have e1 : beginErr st = if (wrote st (beginAt st) (slotB (cntOf st + 1))).dead then 7 else 0 := by unfold beginErr; rw [if_neg (by rw [hw]; decide), if_neg hc, e3]
      have e2 : beginNum st = if (wrote st (beginAt st) (slotB (cntOf st + 1))).dead then 0 else cntOf st + 1 := by
        unfold beginNum; rw [e1]
        cases (wrote st (beginAt st) (slotB (cntOf st + 1))).dead <;> rfl
      have hl : ¬ st.cells.length < 32 := by
        intro hh; unfold whyOf at hw; rw [if_pos hh] at hw; omega
      have hd : st.dead = false := by
        cases hdd : st.dead
        · rfl
        · unfold whyOf at hw; rw [if_neg hl, hdd, if_pos rfl] at hw; omega
      have hg : (halfGood st 0 || halfGood st 1) = true := by
        unfold whyOf at hw
        rw [if_neg hl, hd, if_neg (by decide)] at hw
        split at hw
        · assumption
        · omega
      have hm : cntOf st = max (halfNum st 0) (halfNum st 1) := by unfold cntOf; rw [if_pos hw]
      have b0 := halfNum_bd st 0 h.byte
      have b1 := halfNum_bd st 1 h.byte
      rw [e1, e2, e3]
      rw [ht] at hb hc
      rw [hw] at hs
      have hcb : (cntOf st == 18446744073709551615) = false := by simpa using hc
      cases hg0 : halfGood st 0
      · have ea : beginAt st = 0 := by unfold beginAt; rw [hg0]; rfl
        rw [ea]
        exact rbegin_A (g1 := halfGood st 1) h hd (by omega) _ _ _ hs rfl rfl hcb hb.1 (by omega) hg0 rfl
      · by_cases q0 : halfNum st 0 = cntOf st
        · cases hg1 : halfGood st 1
          · have ea : beginAt st = 16 := by unfold beginAt; rw [hg0, hg1]; rfl
            rw [ea]
            exact rbegin_C h hd (by omega) _ _ _ hs rfl rfl hcb hb.1 (by omega) hg0 hg1 (by simpa using q0)
          · by_cases q1 : halfNum st 1 = cntOf st
            · have ea : beginAt st = 0 := by unfold beginAt; rw [hg0, hg1, decide_eq_false (by omega)]; rfl
              rw [ea]
              exact rbegin_E h hd (by omega) _ _ _ hs rfl rfl hcb hb.1 (by omega) hg0 hg1 (by simpa using q0) (by simpa using q1)
            · have ea : beginAt st = 16 := by unfold beginAt; rw [hg0, hg1, decide_eq_true (by omega)]; rfl
              rw [ea]
              exact rbegin_D h hd (by omega) _ _ _ hs rfl rfl hcb hb.1 (by omega) hg0 hg1 (by simpa using q0) (by simpa using q1)
        · have hg1 : halfGood st 1 = true := by
            cases hh : halfGood st 1
            · have : halfNum st 1 = 0 := by unfold halfNum; rw [hh]; rfl
              omega
            · rfl
          have ea : beginAt st = 0 := by unfold beginAt; rw [hg0, hg1, decide_eq_false (by omega)]; rfl
          rw [ea]
          exact rbegin_B (g1 := true) h hd (by omega) _ _ _ hs rfl rfl hcb hb.1 (by omega) hg0 hg1 (by simpa using q0)
  · have e1 : beginErr st = whyOf st := by unfold beginErr; rw [if_pos hw]
    have e2 : beginNum st = 0 := by unfold beginNum; rw [e1, if_neg hw]
    have e3 : beginSt st = st := by unfold beginSt; rw [if_neg (fun h => hw h.1)]
    rw [e1, e2, e3]
    refine (rbegin_why hw hs).mono ?_
    rintro e w' ⟨rfl, hg⟩
    exact ⟨rfl, stay _ hg, grow_but hg⟩
end Go.Proofs.Ytajmfgadbphjbaa
