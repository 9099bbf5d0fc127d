/- boot.Begin. -/
import Derived.Test.YtajmfgadbphjbaaBoSlots2
import Derived.Test.YtajmfgadbphjbaaStWrite
set_option linter.unusedVariables false
set_option linter.unusedSimpArgs false
namespace Go.Proofs.Ytajmfgadbphjbaa
open Go.RowKit

/-! ### Plain -/

theorem wrote_length' (zs : List Int) : ∀ (st : St) (k : Nat), (wrote st k zs).cells.length = st.cells.length := by
  induction zs with
  | nil => intro st k; rfl
  | cons b r ih =>
    intro st k
    rw [wrote]
    split
    · simp [St.tear]
    · rw [ih]; simp [St.put1]

/-- Where the power stays, all is written. -/
theorem wrote_alive (zs : List Int) : ∀ (st : St) (k : Nat), (wrote st k zs).dead = false → k + zs.length ≤ st.cells.length →
    (wrote st k zs).cells = st.cells.take k ++ (zs.map (fun z => (z, false)) ++ st.cells.drop (k + zs.length)) := by
  induction zs with
  | nil => intro st k hd hl; simp [wrote]
  | cons b r ih =>
    intro st k hd hl
    rw [wrote] at hd ⊢
    split at hd
    · simp [St.tear] at hd
    · rename_i hf
      rw [if_neg hf]
      rw [List.length_cons] at hl
      have hk : k < st.cells.length := by omega
      have hl' : k + 1 + r.length ≤ (st.put1 k b).cells.length := by simp [St.put1]; omega
      rw [ih _ _ hd hl']
      have e0 : (st.put1 k b).cells = st.cells.set k (b, false) := rfl
      rw [e0]
      have e1 : (st.cells.set k (b, false)).take (k + 1) = st.cells.take k ++ [(b, false)] := by
        rw [List.take_succ_eq_append_getElem (by simpa using hk)]
        simp [List.take_set_of_le (Nat.le_refl k)]
      have e2 : (st.cells.set k (b, false)).drop (k + 1 + r.length) = st.cells.drop (k + (r.length + 1)) := by
        rw [List.drop_set_of_lt (by omega)]; congr 1; omega
      rw [e1, e2]
      simp
theorem wrote_part (zs : List Int) (st : St) (k : Nat) (hd : (wrote st k zs).dead = false) (hl : k + zs.length ≤ st.cells.length) : part (wrote st k zs) k zs.length = zs.map fun z => (z, false) := by
  unfold part
  rw [wrote_alive zs st k hd hl, List.drop_append_of_le_length (by rw [List.length_take]; omega), List.drop_of_length_le (by rw [List.length_take]; omega), List.nil_append, List.take_append_of_le_length (by simp), List.take_of_length_le (by simp)]

def beginAt (st : St) : Nat := if halfGood st 0 && (!(halfGood st 1) || decide (halfNum st 1 < halfNum st 0)) then 16 else 0
def beginSt (st : St) : St := if whyOf st = 0 ∧ cntOf st ≠ top64 then wrote st (beginAt st) (slotB (cntOf st + 1)) else st
def beginErr (st : St) : Int := if whyOf st ≠ 0 then whyOf st else if cntOf st = top64 then 5 else if (beginSt st).dead then 7 else 0
def beginNum (st : St) : Int := if beginErr st = 0 then cntOf st + 1 else 0

theorem cntOf_bd {st : St} (hb : ∀ c ∈ st.cells, 0 ≤ c.1 ∧ c.1 < 256) : 0 ≤ cntOf st ∧ cntOf st ≤ top64 := by
  have h0 := halfNum_bd st 0 hb
  have h1 := halfNum_bd st 1 hb
  unfold cntOf top64
  split <;> omega

/-! ### In memory -/

theorem own_but {M : Nat → Prop} {w w' : World} {base : Nat} {e : TypeId} {size : Nat} {v : Value} {n : Nat} {xs : List Value} (h : w.ownsRow base e size v n xs) (hg : GrowBut M w w') (hm : ∀ k, M k → k < base) : w'.ownsRow base e size v n xs := by
  obtain ⟨h1, h2⟩ := h
  refine ⟨h1, ?_⟩
  rcases h2 with h2 | ⟨g, cap, cur, e1, e2, e3, e4⟩
  · exact Or.inl h2
  · exact Or.inr ⟨g, cap, cur, e1, e2, (hg.block g (lt_of_block e3) (fun hh => by have := hm g hh; omega)).trans e3, e4⟩

/-- New bytes stay whatever is done to elder blocks. -/
theorem held_newb {P g : Nat} {w w1 : World} {v : Value} {zs : List Int} (h : NewBytes w zs v w1) (hP : P < w.heap.size) (hg : g < w.heap.size) (hb : Bytes zs) : Held P g w1 v zs := fun w' hw =>
  ⟨hb, ints_of_owns (own_but h.1 hw (fun k hk => by simp only [Own] at hk; omega))⟩

theorem Arr.new2 {w w1 : World} (hg : Grow w w1) (n0 n1 : Int) (g0 g1 : Bool) : Arr w ((w1.alloc (.cells #[.int .u64 n0, .int .u64 n1] 64)).alloc (.cells #[.bool g0, .bool g1] 65)) w1.heap.size n0 n1 g0 g1 := by
  refine ⟨(hg.alloc _).alloc _, hg.size, ?_, ?_⟩
  · rw [Below.heap_alloc _ _ _ (by simp)]; exact heap_alloc_new w1 _
  · have := heap_alloc_new (w1.alloc (.cells #[.int .u64 n0, .int .u64 n1] 64)) (.cells #[.bool g0, .bool g1] 65)
    rwa [World.size_alloc] at this

theorem grow_but {M : Nat → Prop} {w w' : World} (h : Grow w w') : GrowBut M w w' := GrowBut.of_below h

/-- What Begin tells and leaves. -/
def SomeBegin (P g : Nat) (n err : Int) (st' : St) (w : World) (e : Ending) (w' : World) : Prop :=
  e = .returned (.tuple #[.int .u64 n, .int .i64 err]) ∧ StoreV w' P g st' ∧ GrowBut (Own P g) w w'

def Begun (P g : Nat) (st : St) (k : Nat) (zs : List Int) (c : Int) (w : World) (e : Ending) (w' : World) : Prop :=
  SomeBegin P g (if (wrote st k zs).dead then 0 else c + 1) (if (wrote st k zs).dead then 7 else 0) (wrote st k zs) w e w'

theorem begin_why {w : World} {v : Value} {err : Int} (he : err ≠ 0) (H : Calls Try.prog 32 #[v] w fun e w' => (∃ n0 n1 g0 g1 c, e = .returned (slV n0 n1 g0 g1 c err)) ∧ Grow w w') :
    Calls Try.prog 14 #[v] w fun e w' => e = .returned (.tuple #[.int .u64 0, .int .i64 err]) ∧ Grow w w' := by
  have hb : (err != 0) = true := by simpa using he
  clear he
  go_enter Try.func14, Try.ntmps14
  go_wp2_with fail
  refine H.mono ?_
  rintro e w1 ⟨⟨n0, n1, g0, g1, c, rfl⟩, hg⟩
  have HG := Lib.hid ((hg.alloc (.cells #[.int .u64 n0, .int .u64 n1] 64)).alloc (.cells #[.bool g0, .bool g1] 65))
  clear hg
  unfold slV
  go_wp2_with fail
  go_ret2
  exact ⟨rfl, HG.out⟩

theorem begin_full {w : World} {v : Value} {c : Int} (hc : (c == 18446744073709551615) = true) (H : Calls Try.prog 32 #[v] w fun e w' => (∃ n0 n1 g0 g1, e = .returned (slV n0 n1 g0 g1 c 0)) ∧ Grow w w') :
    Calls Try.prog 14 #[v] w fun e w' => e = .returned (.tuple #[.int .u64 0, .int .i64 5]) ∧ Grow w w' := by
  go_enter Try.func14, Try.ntmps14
  go_wp2_with fail
  refine H.mono ?_
  rintro e w1 ⟨⟨n0, n1, g0, g1, rfl⟩, hg⟩
  have HG := Lib.hid ((hg.alloc (.cells #[.int .u64 n0, .int .u64 n1] 64)).alloc (.cells #[.bool g0, .bool g1] 65))
  clear hg
  unfold slV
  go_wp2_with fail
  go_ret2
  exact ⟨rfl, HG.out⟩

set_option maxHeartbeats 4000000 in
theorem begin_live {w : World} {P g : Nat} {st : St} (h : StoreV w P g st) (hw : whyOf st = 0) (c : Int) (hce : cntOf st = c) (hc : (c == 18446744073709551615) = false) (h0 : 0 ≤ c) (h1 : c + 1 < 18446744073709551616) :
    Calls Try.prog 14 #[.pointer (some ⟨P, 0, none⟩)] w (Begun P g st (beginAt st) (slotB (c + 1)) c w) := by
  have hd : st.dead = false := by
    unfold whyOf at hw
    split at hw
    · omega
    · split at hw
      · omega
      · simpa using ‹¬ st.dead = true›
  have hl : 32 ≤ st.cells.length := by
    unfold whyOf at hw
    split at hw <;> omega
  have HSl : Hid (∀ x, Calls Try.prog 8 #[.int .u64 (c + 1)] x fun e w' => ∃ v, e = .returned v ∧ NewBytes x (slotB (c + 1)) v w') := fun x => slot_any _ x ⟨by omega, h1⟩
  have HSS : Hid (Calls Try.prog 32 #[.pointer (some ⟨P, 0, none⟩)] w fun e w' => e = .returned (slV (halfNum st 0) (halfNum st 1) (halfGood st 0) (halfGood st 1) c 0) ∧ Grow w w') := by
    refine (slots_any h).mono ?_
    rintro e w' ⟨⟨n0, n1, g0, g1, rfl, hh⟩, hg⟩
    obtain ⟨rfl, rfl, rfl, rfl⟩ := hh hw
    exact ⟨by rw [hce, hw], hg⟩
  have HS := Lib.hid h
  have HD := Lib.hid hd
  have HL := Lib.hid hl
  have HB := Lib.hid (slotB_bytes (c + 1))
  have HBL := Lib.hid (slotB_length (c + 1))
  have HAt : Hid (beginAt st = if halfGood st 0 && (!(halfGood st 1) || decide (halfNum st 1 < halfNum st 0)) then 16 else 0) := rfl
  clear h hd hl hw hce
  generalize slotB (c + 1) = zs at *
  generalize halfNum st 0 = n0 at *
  generalize halfNum st 1 = n1 at *
  cases hg0 : halfGood st 0
  · rw [hg0] at HSS HAt
    have HA0 : Hid (beginAt st = 0) := HAt.out
    clear hg0 HAt
    rw [HA0.out]
    go_enter Try.func14, Try.ntmps14
    go_wp2_with fail
    refine HSS.out.mono ?_
    rintro e w1 ⟨rfl, hg⟩
    have HA := Lib.hid (Arr.new2 hg n0 n1 false (halfGood st 1))
    obtain ⟨c0, c1, c2, c3, f0, f1⟩ := Arr.cells HA.out
    clear f0 f1 hg
    unfold slV
    go_wp2_with fail
    refine (HSl.out _).mono ?_
    rintro e w2 ⟨v, rfl, hv⟩
    have hg2 := HA.out.grow.trans hv.2
    have hP := HS.out.ltP
    have hgg := HS.out.ltG
    have hsz := HA.out.grow.size
    have hs2 : StoreV w2 P g st := HS.out.stay (M := fun _ => False) (GrowBut.of_below hg2) (fun h => h) (fun h => h)
    have hwr := write_any hs2 0 v zs (held_newb hv (by omega) (by omega) HB.out) (by rw [HBL.out]; have := HL.out; omega) HD.out
    have HWR := Lib.hid hwr
    have HG2 := Lib.hid hg2
    obtain ⟨ao, cap, rfl, _, _⟩ := (ints_of_owns hv.1).shape
    clear hwr hg2 hv hs2 hP hgg hsz c0 c1 c2 c3
    go_wp2_with fail
    refine HWR.out.mono ?_
    rintro e w3 ⟨rfl, hs3, hg3⟩
    have HS3 := Lib.hid hs3
    have HG3 := Lib.hid ((grow_but HG2.out : GrowBut (Own P g) w w2).trans hg3)
    unfold wrRes
    clear hs3 hg3
    cases hdd : (wrote st 0 zs).dead
    · have HDD := Lib.hid hdd
      have hrd : Calls Try.prog 16 #[.pointer (some ⟨P, 0, none⟩), .int .i64 0, .int .i64 16] w3 fun e w' => (∃ b off cap, e = .returned (.tuple #[.slice (some ⟨b, off, none⟩) 16 cap, .int .i64 0]) ∧ ∀ i, i < 16 → w'.cell? ⟨b, off + i, none⟩ = some (.int .u8 (zs.getD i 0))) ∧ Grow w3 w' := by
        refine (read_any HS3.out 0 16 (by rw [wrote_length']; have := HL.out; omega) hdd).mono ?_
        rintro e w' ⟨v, err, rfl, hr, hg⟩
        have hp := wrote_part zs st 0 hdd (by rw [HBL.out]; have := HL.out; omega)
        rw [HBL.out] at hp
        unfold readRes at hr
        rw [hp, if_neg (by simp)] at hr
        obtain ⟨rfl, hb⟩ := hr
        have e : (zs.map fun z => (z, false)).map (·.1) = zs := by simp [Function.comp_def]
        rw [e] at hb
        obtain ⟨b, off, cap, rfl, _, _⟩ := hb.2.solid (fun e => by have := HBL.out; rw [e] at this; simp at this)
        rw [HBL.out] at hb ⊢
        exact ⟨⟨b, off, cap, rfl, fun i hi => hb.2.cells i (by rw [HBL.out]; exact hi)⟩, hg⟩
      have HRD := Lib.hid hrd
      clear hrd hdd
      go_wp2_with fail
      refine HRD.out.mono ?_
      rintro e w4 ⟨⟨b, off, cap2, rfl, hcs⟩, hg4⟩
      have HC := Lib.hid hcs
      have HS4 : Hid (StoreV w4 P g (wrote st 0 zs)) := HS3.out.stay (M := fun _ => False) (GrowBut.of_below hg4) (fun h => h) (fun h => h)
      have HG4 := Lib.hid (HG3.out.trans (grow_but hg4))
      clear hcs hg4
      go_wp2_with fail
      refine (HSl.out _).mono ?_
      rintro e w5 ⟨v2, rfl, hv2⟩
      have HS5 : Hid (StoreV w5 P g (wrote st 0 zs)) := HS4.out.stay (M := fun _ => False) (GrowBut.of_below hv2.2) (fun h => h) (fun h => h)
      have HG5 := Lib.hid (HG4.out.trans (grow_but hv2.2))
      have hi2 := ints_of_owns hv2.1
      obtain ⟨b2, off2, cap3, rfl, _, _⟩ := hi2.solid (fun e => by have := HBL.out; rw [e] at this; simp at this)
      rw [HBL.out] at hi2 ⊢
      have heq := bytes_equal (w := w5) (b := b) (off := off) (c := cap2) (b' := b2) (off' := off2) (c' := cap3) (n := 16) HBL.out HBL.out (by omega) (fun i hi => (hv2.2.cell (block_lt (HC.out i hi))).trans (HC.out i hi)) (fun i hi => hi2.cells i (by rw [HBL.out]; exact hi))
      rw [decide_eq_true rfl] at heq
      have HQ := Lib.hid heq
      clear hv2 hi2 heq
      go_wp2_with fail
      refine HQ.out.mono ?_
      rintro e w6 ⟨rfl, q, rfl⟩
      go_wp2_with fail
      go_ret2
      exact ⟨by simp [HDD.out], HS5.out.stay (M := fun _ => False) (GrowBut.of_below (grow_dn (Grow.refl _) q)) (fun h => h) (fun h => h), HG5.out.drewN q⟩
    · have HDD := Lib.hid hdd
      clear hdd
      go_wp2_with fail
      go_ret2
      exact ⟨by simp [HDD.out], HS3.out, HG3.out⟩
  cases hg1 : halfGood st 1
  · rw [hg0, hg1] at HSS HAt
    have HA0 : Hid (beginAt st = 16) := HAt.out
    clear hg0 hg1 HAt
    rw [HA0.out]
    go_enter Try.func14, Try.ntmps14
    go_wp2_with fail
    refine HSS.out.mono ?_
    rintro e w1 ⟨rfl, hg⟩
    have HA := Lib.hid (Arr.new2 hg n0 n1 true false)
    obtain ⟨c0, c1, c2, c3, f0, f1⟩ := Arr.cells HA.out
    clear f0 f1 hg
    unfold slV
    go_wp2_with fail
    refine (HSl.out _).mono ?_
    rintro e w2 ⟨v, rfl, hv⟩
    have hg2 := HA.out.grow.trans hv.2
    have hP := HS.out.ltP
    have hgg := HS.out.ltG
    have hsz := HA.out.grow.size
    have hs2 : StoreV w2 P g st := HS.out.stay (M := fun _ => False) (GrowBut.of_below hg2) (fun h => h) (fun h => h)
    have hwr := write_any hs2 16 v zs (held_newb hv (by omega) (by omega) HB.out) (by rw [HBL.out]; have := HL.out; omega) HD.out
    have HWR := Lib.hid hwr
    have HG2 := Lib.hid hg2
    obtain ⟨ao, cap, rfl, _, _⟩ := (ints_of_owns hv.1).shape
    clear hwr hg2 hv hs2 hP hgg hsz c0 c1 c2 c3
    go_wp2_with fail
    refine HWR.out.mono ?_
    rintro e w3 ⟨rfl, hs3, hg3⟩
    have HS3 := Lib.hid hs3
    have HG3 := Lib.hid ((grow_but HG2.out : GrowBut (Own P g) w w2).trans hg3)
    unfold wrRes
    clear hs3 hg3
    cases hdd : (wrote st 16 zs).dead
    · have HDD := Lib.hid hdd
      have hrd : Calls Try.prog 16 #[.pointer (some ⟨P, 0, none⟩), .int .i64 16, .int .i64 16] w3 fun e w' => (∃ b off cap, e = .returned (.tuple #[.slice (some ⟨b, off, none⟩) 16 cap, .int .i64 0]) ∧ ∀ i, i < 16 → w'.cell? ⟨b, off + i, none⟩ = some (.int .u8 (zs.getD i 0))) ∧ Grow w3 w' := by
        refine (read_any HS3.out 16 16 (by rw [wrote_length']; have := HL.out; omega) hdd).mono ?_
        rintro e w' ⟨v, err, rfl, hr, hg⟩
        have hp := wrote_part zs st 16 hdd (by rw [HBL.out]; have := HL.out; omega)
        rw [HBL.out] at hp
        unfold readRes at hr
        rw [hp, if_neg (by simp)] at hr
        obtain ⟨rfl, hb⟩ := hr
        have e : (zs.map fun z => (z, false)).map (·.1) = zs := by simp [Function.comp_def]
        rw [e] at hb
        obtain ⟨b, off, cap, rfl, _, _⟩ := hb.2.solid (fun e => by have := HBL.out; rw [e] at this; simp at this)
        rw [HBL.out] at hb ⊢
        exact ⟨⟨b, off, cap, rfl, fun i hi => hb.2.cells i (by rw [HBL.out]; exact hi)⟩, hg⟩
      have HRD := Lib.hid hrd
      clear hrd hdd
      go_wp2_with fail
      refine HRD.out.mono ?_
      rintro e w4 ⟨⟨b, off, cap2, rfl, hcs⟩, hg4⟩
      have HC := Lib.hid hcs
      have HS4 : Hid (StoreV w4 P g (wrote st 16 zs)) := HS3.out.stay (M := fun _ => False) (GrowBut.of_below hg4) (fun h => h) (fun h => h)
      have HG4 := Lib.hid (HG3.out.trans (grow_but hg4))
      clear hcs hg4
      go_wp2_with fail
      refine (HSl.out _).mono ?_
      rintro e w5 ⟨v2, rfl, hv2⟩
      have HS5 : Hid (StoreV w5 P g (wrote st 16 zs)) := HS4.out.stay (M := fun _ => False) (GrowBut.of_below hv2.2) (fun h => h) (fun h => h)
      have HG5 := Lib.hid (HG4.out.trans (grow_but hv2.2))
      have hi2 := ints_of_owns hv2.1
      obtain ⟨b2, off2, cap3, rfl, _, _⟩ := hi2.solid (fun e => by have := HBL.out; rw [e] at this; simp at this)
      rw [HBL.out] at hi2 ⊢
      have heq := bytes_equal (w := w5) (b := b) (off := off) (c := cap2) (b' := b2) (off' := off2) (c' := cap3) (n := 16) HBL.out HBL.out (by omega) (fun i hi => (hv2.2.cell (block_lt (HC.out i hi))).trans (HC.out i hi)) (fun i hi => hi2.cells i (by rw [HBL.out]; exact hi))
      rw [decide_eq_true rfl] at heq
      have HQ := Lib.hid heq
      clear hv2 hi2 heq
      go_wp2_with fail
      refine HQ.out.mono ?_
      rintro e w6 ⟨rfl, q, rfl⟩
      go_wp2_with fail
      go_ret2
      exact ⟨by simp [HDD.out], HS5.out.stay (M := fun _ => False) (GrowBut.of_below (grow_dn (Grow.refl _) q)) (fun h => h) (fun h => h), HG5.out.drewN q⟩
    · have HDD := Lib.hid hdd
      clear hdd
      go_wp2_with fail
      go_ret2
      exact ⟨by simp [HDD.out], HS3.out, HG3.out⟩
  by_cases hn : n1 < n0
  · have HA0 : Hid (beginAt st = 16) := by
      show beginAt st = 16
      rw [HAt.out, hg0, hg1, decide_eq_true hn]; rfl
    rw [hg0, hg1] at HSS
    clear hg0 hg1 HAt
    rw [HA0.out]
    go_enter Try.func14, Try.ntmps14
    go_wp2_with fail
    refine HSS.out.mono ?_
    rintro e w1 ⟨rfl, hg⟩
    have HA := Lib.hid (Arr.new2 hg n0 n1 true true)
    obtain ⟨c0, c1, c2, c3, f0, f1⟩ := Arr.cells HA.out
    clear f0 f1 hg
    unfold slV
    go_wp2_with fail
    refine (HSl.out _).mono ?_
    rintro e w2 ⟨v, rfl, hv⟩
    have hg2 := HA.out.grow.trans hv.2
    have hP := HS.out.ltP
    have hgg := HS.out.ltG
    have hsz := HA.out.grow.size
    have hs2 : StoreV w2 P g st := HS.out.stay (M := fun _ => False) (GrowBut.of_below hg2) (fun h => h) (fun h => h)
    have hwr := write_any hs2 16 v zs (held_newb hv (by omega) (by omega) HB.out) (by rw [HBL.out]; have := HL.out; omega) HD.out
    have HWR := Lib.hid hwr
    have HG2 := Lib.hid hg2
    obtain ⟨ao, cap, rfl, _, _⟩ := (ints_of_owns hv.1).shape
    clear hwr hg2 hv hs2 hP hgg hsz c0 c1 c2 c3
    go_wp2_with fail
    refine HWR.out.mono ?_
    rintro e w3 ⟨rfl, hs3, hg3⟩
    have HS3 := Lib.hid hs3
    have HG3 := Lib.hid ((grow_but HG2.out : GrowBut (Own P g) w w2).trans hg3)
    unfold wrRes
    clear hs3 hg3
    cases hdd : (wrote st 16 zs).dead
    · have HDD := Lib.hid hdd
      have hrd : Calls Try.prog 16 #[.pointer (some ⟨P, 0, none⟩), .int .i64 16, .int .i64 16] w3 fun e w' => (∃ b off cap, e = .returned (.tuple #[.slice (some ⟨b, off, none⟩) 16 cap, .int .i64 0]) ∧ ∀ i, i < 16 → w'.cell? ⟨b, off + i, none⟩ = some (.int .u8 (zs.getD i 0))) ∧ Grow w3 w' := by
        refine (read_any HS3.out 16 16 (by rw [wrote_length']; have := HL.out; omega) hdd).mono ?_
        rintro e w' ⟨v, err, rfl, hr, hg⟩
        have hp := wrote_part zs st 16 hdd (by rw [HBL.out]; have := HL.out; omega)
        rw [HBL.out] at hp
        unfold readRes at hr
        rw [hp, if_neg (by simp)] at hr
        obtain ⟨rfl, hb⟩ := hr
        have e : (zs.map fun z => (z, false)).map (·.1) = zs := by simp [Function.comp_def]
        rw [e] at hb
        obtain ⟨b, off, cap, rfl, _, _⟩ := hb.2.solid (fun e => by have := HBL.out; rw [e] at this; simp at this)
        rw [HBL.out] at hb ⊢
        exact ⟨⟨b, off, cap, rfl, fun i hi => hb.2.cells i (by rw [HBL.out]; exact hi)⟩, hg⟩
      have HRD := Lib.hid hrd
      clear hrd hdd
      go_wp2_with fail
      refine HRD.out.mono ?_
      rintro e w4 ⟨⟨b, off, cap2, rfl, hcs⟩, hg4⟩
      have HC := Lib.hid hcs
      have HS4 : Hid (StoreV w4 P g (wrote st 16 zs)) := HS3.out.stay (M := fun _ => False) (GrowBut.of_below hg4) (fun h => h) (fun h => h)
      have HG4 := Lib.hid (HG3.out.trans (grow_but hg4))
      clear hcs hg4
      go_wp2_with fail
      refine (HSl.out _).mono ?_
      rintro e w5 ⟨v2, rfl, hv2⟩
      have HS5 : Hid (StoreV w5 P g (wrote st 16 zs)) := HS4.out.stay (M := fun _ => False) (GrowBut.of_below hv2.2) (fun h => h) (fun h => h)
      have HG5 := Lib.hid (HG4.out.trans (grow_but hv2.2))
      have hi2 := ints_of_owns hv2.1
      obtain ⟨b2, off2, cap3, rfl, _, _⟩ := hi2.solid (fun e => by have := HBL.out; rw [e] at this; simp at this)
      rw [HBL.out] at hi2 ⊢
      have heq := bytes_equal (w := w5) (b := b) (off := off) (c := cap2) (b' := b2) (off' := off2) (c' := cap3) (n := 16) HBL.out HBL.out (by omega) (fun i hi => (hv2.2.cell (block_lt (HC.out i hi))).trans (HC.out i hi)) (fun i hi => hi2.cells i (by rw [HBL.out]; exact hi))
      rw [decide_eq_true rfl] at heq
      have HQ := Lib.hid heq
      clear hv2 hi2 heq
      go_wp2_with fail
      refine HQ.out.mono ?_
      rintro e w6 ⟨rfl, q, rfl⟩
      go_wp2_with fail
      go_ret2
      exact ⟨by simp [HDD.out], HS5.out.stay (M := fun _ => False) (GrowBut.of_below (grow_dn (Grow.refl _) q)) (fun h => h) (fun h => h), HG5.out.drewN q⟩
    · have HDD := Lib.hid hdd
      clear hdd
      go_wp2_with fail
      go_ret2
      exact ⟨by simp [HDD.out], HS3.out, HG3.out⟩
  · have HA0 : Hid (beginAt st = 0) := by
      show beginAt st = 0
      rw [HAt.out, hg0, hg1, decide_eq_false hn]; rfl
    rw [hg0, hg1] at HSS
    clear hg0 hg1 HAt
    rw [HA0.out]
    go_enter Try.func14, Try.ntmps14
    go_wp2_with fail
    refine HSS.out.mono ?_
    rintro e w1 ⟨rfl, hg⟩
    have HA := Lib.hid (Arr.new2 hg n0 n1 true true)
    obtain ⟨c0, c1, c2, c3, f0, f1⟩ := Arr.cells HA.out
    clear f0 f1 hg
    unfold slV
    go_wp2_with fail
    refine (HSl.out _).mono ?_
    rintro e w2 ⟨v, rfl, hv⟩
    have hg2 := HA.out.grow.trans hv.2
    have hP := HS.out.ltP
    have hgg := HS.out.ltG
    have hsz := HA.out.grow.size
    have hs2 : StoreV w2 P g st := HS.out.stay (M := fun _ => False) (GrowBut.of_below hg2) (fun h => h) (fun h => h)
    have hwr := write_any hs2 0 v zs (held_newb hv (by omega) (by omega) HB.out) (by rw [HBL.out]; have := HL.out; omega) HD.out
    have HWR := Lib.hid hwr
    have HG2 := Lib.hid hg2
    obtain ⟨ao, cap, rfl, _, _⟩ := (ints_of_owns hv.1).shape
    clear hwr hg2 hv hs2 hP hgg hsz c0 c1 c2 c3
    go_wp2_with fail
    refine HWR.out.mono ?_
    rintro e w3 ⟨rfl, hs3, hg3⟩
    have HS3 := Lib.hid hs3
    have HG3 := Lib.hid ((grow_but HG2.out : GrowBut (Own P g) w w2).trans hg3)
    unfold wrRes
    clear hs3 hg3
    cases hdd : (wrote st 0 zs).dead
    · have HDD := Lib.hid hdd
      have hrd : Calls Try.prog 16 #[.pointer (some ⟨P, 0, none⟩), .int .i64 0, .int .i64 16] w3 fun e w' => (∃ b off cap, e = .returned (.tuple #[.slice (some ⟨b, off, none⟩) 16 cap, .int .i64 0]) ∧ ∀ i, i < 16 → w'.cell? ⟨b, off + i, none⟩ = some (.int .u8 (zs.getD i 0))) ∧ Grow w3 w' := by
        refine (read_any HS3.out 0 16 (by rw [wrote_length']; have := HL.out; omega) hdd).mono ?_
        rintro e w' ⟨v, err, rfl, hr, hg⟩
        have hp := wrote_part zs st 0 hdd (by rw [HBL.out]; have := HL.out; omega)
        rw [HBL.out] at hp
        unfold readRes at hr
        rw [hp, if_neg (by simp)] at hr
        obtain ⟨rfl, hb⟩ := hr
        have e : (zs.map fun z => (z, false)).map (·.1) = zs := by simp [Function.comp_def]
        rw [e] at hb
        obtain ⟨b, off, cap, rfl, _, _⟩ := hb.2.solid (fun e => by have := HBL.out; rw [e] at this; simp at this)
        rw [HBL.out] at hb ⊢
        exact ⟨⟨b, off, cap, rfl, fun i hi => hb.2.cells i (by rw [HBL.out]; exact hi)⟩, hg⟩
      have HRD := Lib.hid hrd
      clear hrd hdd
      go_wp2_with fail
      refine HRD.out.mono ?_
      rintro e w4 ⟨⟨b, off, cap2, rfl, hcs⟩, hg4⟩
      have HC := Lib.hid hcs
      have HS4 : Hid (StoreV w4 P g (wrote st 0 zs)) := HS3.out.stay (M := fun _ => False) (GrowBut.of_below hg4) (fun h => h) (fun h => h)
      have HG4 := Lib.hid (HG3.out.trans (grow_but hg4))
      clear hcs hg4
      go_wp2_with fail
      refine (HSl.out _).mono ?_
      rintro e w5 ⟨v2, rfl, hv2⟩
      have HS5 : Hid (StoreV w5 P g (wrote st 0 zs)) := HS4.out.stay (M := fun _ => False) (GrowBut.of_below hv2.2) (fun h => h) (fun h => h)
      have HG5 := Lib.hid (HG4.out.trans (grow_but hv2.2))
      have hi2 := ints_of_owns hv2.1
      obtain ⟨b2, off2, cap3, rfl, _, _⟩ := hi2.solid (fun e => by have := HBL.out; rw [e] at this; simp at this)
      rw [HBL.out] at hi2 ⊢
      have heq := bytes_equal (w := w5) (b := b) (off := off) (c := cap2) (b' := b2) (off' := off2) (c' := cap3) (n := 16) HBL.out HBL.out (by omega) (fun i hi => (hv2.2.cell (block_lt (HC.out i hi))).trans (HC.out i hi)) (fun i hi => hi2.cells i (by rw [HBL.out]; exact hi))
      rw [decide_eq_true rfl] at heq
      have HQ := Lib.hid heq
      clear hv2 hi2 heq
      go_wp2_with fail
      refine HQ.out.mono ?_
      rintro e w6 ⟨rfl, q, rfl⟩
      go_wp2_with fail
      go_ret2
      exact ⟨by simp [HDD.out], HS5.out.stay (M := fun _ => False) (GrowBut.of_below (grow_dn (Grow.refl _) q)) (fun h => h) (fun h => h), HG5.out.drewN q⟩
    · have HDD := Lib.hid hdd
      clear hdd
      go_wp2_with fail
      go_ret2
      exact ⟨by simp [HDD.out], HS3.out, HG3.out⟩

theorem begin_any {w : World} {P g : Nat} {st : St} (h : StoreV w P g st) :
    Calls Try.prog 14 #[.pointer (some ⟨P, 0, none⟩)] w fun e w' => SomeBegin P g (beginNum st) (beginErr st) (beginSt st) w e w' := by
  have hs := slots_any h
  by_cases hw : whyOf st = 0
  · by_cases hc : cntOf st = top64
    · have e1 : beginErr st = 5 := by unfold beginErr; rw [if_neg (by rw [hw]; decide), if_pos hc]
      have e2 : beginNum st = 0 := by unfold beginNum; rw [e1]; rfl
      have e3 : beginSt st = st := by unfold beginSt; rw [if_neg (fun h => h.2 hc)]
      rw [e1, e2, e3]
      refine (begin_full (c := cntOf st) (by rw [hc]; decide) (hs.mono ?_)).mono ?_
      · rintro e w' ⟨⟨n0, n1, g0, g1, rfl, _⟩, hg⟩
        exact ⟨⟨_, _, _, _, by rw [hw]⟩, hg⟩
      · rintro e w' ⟨rfl, hg⟩
        exact ⟨rfl, h.stay (M := fun _ => False) (GrowBut.of_below hg) (fun h => h) (fun h => h), grow_but hg⟩
    · have hb := cntOf_bd h.byte
      have ht : top64 = 18446744073709551615 := rfl
      have e3 : beginSt st = wrote st (beginAt st) (slotB (cntOf st + 1)) := by unfold beginSt; rw [if_pos ⟨hw, hc⟩]
      have e1 : beginErr st = if (wrote st (beginAt st) (slotB (cntOf st + 1))).dead then 7 else 0 := by unfold beginErr; rw [if_neg (by rw [hw]; decide), if_neg hc, e3]
      have e2 : beginNum st = if (wrote st (beginAt st) (slotB (cntOf st + 1))).dead then 0 else cntOf st + 1 := by
        unfold beginNum; rw [e1]
        cases (wrote st (beginAt st) (slotB (cntOf st + 1))).dead <;> rfl
      rw [e1, e2, e3]
      rw [ht] at hb hc
      exact begin_live h hw _ rfl (by simpa using hc) hb.1 (by omega)
  · have e1 : beginErr st = whyOf st := by unfold beginErr; rw [if_pos hw]
    have e2 : beginNum st = 0 := by unfold beginNum; rw [e1, if_neg hw]
    have e3 : beginSt st = st := by unfold beginSt; rw [if_neg (fun h => hw h.1)]
    rw [e1, e2, e3]
    refine (begin_why (err := whyOf st) hw (hs.mono ?_)).mono ?_
    · rintro e w' ⟨⟨n0, n1, g0, g1, rfl, _⟩, hg⟩
      exact ⟨⟨_, _, _, _, _, rfl⟩, hg⟩
    · rintro e w' ⟨rfl, hg⟩
      exact ⟨rfl, h.stay (M := fun _ => False) (GrowBut.of_below hg) (fun h => h) (fun h => h), grow_but hg⟩
end Go.Proofs.Ytajmfgadbphjbaa
