/- Updates. -/
import Derived.Test.YtiphhjipgjpepaaFrPre
import Derived.Test.YtiphhjipgjpepaaDrawnUse
import Derived.Outline
set_option linter.unusedVariables false
set_option linter.unusedSimpArgs false
namespace Go.Proofs.Ytiphhjipgjpepaa
open Go.RowKit

def mayU (a l d : Int) : Bool := mayP a l && decide (0 ≤ d ∧ d ≤ 255)

set_option maxHeartbeats 1000000 in
theorem umay_any (a l d : Int) (w : World) (ha : 0 ≤ a ∧ a < 4294967296) (hl : -9223372036854775808 ≤ l ∧ l ≤ 9223372036854775807) :
    Calls Try.prog 47 #[.agg #[.int .u32 a, .int .i64 l, .int .i64 d]] w fun e w' => e = .returned (.bool (mayU a l d)) ∧ Grow w w' := by
  have HM : Hid (∀ x, Calls Try.prog 52 #[.agg #[.int .u32 a, .int .i64 l]] x fun e w' => e = .returned (.bool (mayP a l)) ∧ Grow x w') := fun x => mayp_any a l x ha hl
  have HU : Hid (mayU a l d = (mayP a l && decide (0 ≤ d ∧ d ≤ 255))) := rfl
  have c2 := cell_new w [.int .u32 a, .int .i64 l, .int .i64 d] 52 2 _ rfl
  have HC2 := Lib.hid c2
  clear c2
  generalize mayP a l = mp at *
  cases mp
  · have HR : Hid (mayU a l d = false) := by show _ = _; rw [HU.out]; rfl
    go_enter Try.func47, Try.ntmps47
    go_wp2_with fail
    refine (HM.out _).mono ?_
    rintro e w1 ⟨rfl, hg⟩
    have HG : Hid (Grow w w1) := ((Grow.refl w).alloc _).trans hg
    clear hg
    go_wp2_with fail
    go_ret
    exact ⟨ret_bool' (by have := HR.out; first | exact this.symm | (rw [this]; simp; omega)), HG.out⟩
  · by_cases h0 : d < 0
    · have HR : Hid (mayU a l d = false) := by show _ = _; rw [HU.out, decide_eq_false (by omega)]; rfl
      go_enter Try.func47, Try.ntmps47
      go_wp2_with fail
      refine (HM.out _).mono ?_
      rintro e w1 ⟨rfl, hg⟩
      have c2 := (hg.cell (block_lt HC2.out)).trans HC2.out
      have HG : Hid (Grow w w1) := ((Grow.refl w).alloc _).trans hg
      clear hg
      go_wp2_with fail
      go_ret
      exact ⟨ret_bool' (by have := HR.out; first | exact this.symm | (rw [this]; simp; omega)), HG.out⟩
    · have h0' : 0 ≤ d := by omega
      by_cases h1 : 255 < d
      · have HR : Hid (mayU a l d = false) := by show _ = _; rw [HU.out, decide_eq_false (by omega)]; rfl
        clear h0
        go_enter Try.func47, Try.ntmps47
        go_wp2_with fail
        refine (HM.out _).mono ?_
        rintro e w1 ⟨rfl, hg⟩
        have c2 := (hg.cell (block_lt HC2.out)).trans HC2.out
        have HG : Hid (Grow w w1) := ((Grow.refl w).alloc _).trans hg
        clear hg
        go_wp2_with fail
        go_ret
        exact ⟨ret_bool' (by have := HR.out; first | exact this.symm | (rw [this]; simp; omega)), HG.out⟩
      · have h1' : d ≤ 255 := by omega
        have HR : Hid (mayU a l d = true) := by show _ = _; rw [HU.out, decide_eq_true ⟨h0', h1'⟩]; rfl
        clear h0 h1
        go_enter Try.func47, Try.ntmps47
        go_wp2_with fail
        refine (HM.out _).mono ?_
        rintro e w1 ⟨rfl, hg⟩
        have c2 := (hg.cell (block_lt HC2.out)).trans HC2.out
        have HG : Hid (Grow w w1) := ((Grow.refl w).alloc _).trans hg
        clear hg
        go_wp2_with fail
        go_ret
        exact ⟨ret_bool' (by have := HR.out; first | exact this.symm | (rw [this]; simp; omega)), HG.out⟩

set_option maxHeartbeats 1000000 in
theorem rumay_any (a l d : Int) (w : World) (ha : 0 ≤ a ∧ a < 4294967296) (hl : -9223372036854775808 ≤ l ∧ l ≤ 9223372036854775807) :
    Calls Try.prog 19 #[.agg #[.int .u32 a, .int .i64 l, .int .i64 d]] w fun e w' => e = .returned (.bool (mayU a l d)) ∧ Grow w w' := by
  have HM : Hid (∀ x, Calls Try.prog 39 #[.agg #[.int .u32 a, .int .i64 l]] x fun e w' => e = .returned (.bool (mayP a l)) ∧ Grow x w') := fun x => rmayp_any a l x ha hl
  have HU : Hid (mayU a l d = (mayP a l && decide (0 ≤ d ∧ d ≤ 255))) := rfl
  have c2 := cell_new w [.int .u32 a, .int .i64 l, .int .i64 d] 52 2 _ rfl
  have HC2 := Lib.hid c2
  clear c2
  generalize mayP a l = mp at *
  cases mp
  · have HR : Hid (mayU a l d = false) := by show _ = _; rw [HU.out]; rfl
    go_enter Try.func19, Try.ntmps19
    go_wp2_with fail
    refine (HM.out _).mono ?_
    rintro e w1 ⟨rfl, hg⟩
    have HG : Hid (Grow w w1) := ((Grow.refl w).alloc _).trans hg
    clear hg
    go_wp2_with fail
    go_ret
    exact ⟨ret_bool' (by have := HR.out; first | exact this.symm | (rw [this]; simp; omega)), HG.out⟩
  · by_cases h0 : d < 0
    · have HR : Hid (mayU a l d = false) := by show _ = _; rw [HU.out, decide_eq_false (by omega)]; rfl
      go_enter Try.func19, Try.ntmps19
      go_wp2_with fail
      refine (HM.out _).mono ?_
      rintro e w1 ⟨rfl, hg⟩
      have c2 := (hg.cell (block_lt HC2.out)).trans HC2.out
      have HG : Hid (Grow w w1) := ((Grow.refl w).alloc _).trans hg
      clear hg
      go_wp2_with fail
      go_ret
      exact ⟨ret_bool' (by have := HR.out; first | exact this.symm | (rw [this]; simp; omega)), HG.out⟩
    · have h0' : 0 ≤ d := by omega
      by_cases h1 : 255 < d
      · have HR : Hid (mayU a l d = false) := by show _ = _; rw [HU.out, decide_eq_false (by omega)]; rfl
        clear h0
        go_enter Try.func19, Try.ntmps19
        go_wp2_with fail
        refine (HM.out _).mono ?_
        rintro e w1 ⟨rfl, hg⟩
        have c2 := (hg.cell (block_lt HC2.out)).trans HC2.out
        have HG : Hid (Grow w w1) := ((Grow.refl w).alloc _).trans hg
        clear hg
        go_wp2_with fail
        go_ret
        exact ⟨ret_bool' (by have := HR.out; first | exact this.symm | (rw [this]; simp; omega)), HG.out⟩
      · have h1' : d ≤ 255 := by omega
        have HR : Hid (mayU a l d = true) := by show _ = _; rw [HU.out, decide_eq_true ⟨h0', h1'⟩]; rfl
        clear h0 h1
        go_enter Try.func19, Try.ntmps19
        go_wp2_with fail
        refine (HM.out _).mono ?_
        rintro e w1 ⟨rfl, hg⟩
        have c2 := (hg.cell (block_lt HC2.out)).trans HC2.out
        have HG : Hid (Grow w w1) := ((Grow.refl w).alloc _).trans hg
        clear hg
        go_wp2_with fail
        go_ret
        exact ⟨ret_bool' (by have := HR.out; first | exact this.symm | (rw [this]; simp; omega)), HG.out⟩

/-- Three cells of a block. -/
theorem blk3 {w : World} {B : Nat} {T : TypeId} {a b c : Value} (h : w.heap[B]? = some (.cells #[a, b, c] T (0, 0))) :
    (w.cell? ⟨B, 0, none⟩ = some a ∧ w.cell? ⟨B, 1, none⟩ = some b ∧ w.cell? ⟨B, 2, none⟩ = some c) ∧ w.frozen? ⟨B, 0, none⟩ = false ∧ w.frozen? ⟨B, 1, none⟩ = false ∧ w.frozen? ⟨B, 2, none⟩ = false := by
  refine ⟨⟨?_, ?_, ?_⟩, ?_, ?_, ?_⟩ <;> simp [World.cell?, World.frozen?, h]

theorem put3 {w : World} {B : Nat} {T : TypeId} {x y z : Value} (h : w.heap[B]? = some (.cells #[x, y, z] T (0, 0))) (a b c : Value) :
    (((w.setCell ⟨B, 0, none⟩ a).setCell ⟨B, 1, none⟩ b).setCell ⟨B, 2, none⟩ c).heap[B]? = some (.cells #[a, b, c] T (0, 0)) :=
  heap_setCell_same _ B 2 _ _ c (heap_setCell_same _ B 1 _ _ b (heap_setCell_same w B 0 _ _ a h))
theorem far3 {w : World} {B k : Nat} (h : k ≠ B) (a b c : Value) : (((w.setCell ⟨B, 0, none⟩ a).setCell ⟨B, 1, none⟩ b).setCell ⟨B, 2, none⟩ c).heap[k]? = w.heap[k]? :=
  (Below.heap_setCell _ _ _ _ h).trans ((Below.heap_setCell _ _ _ _ h).trans (Below.heap_setCell _ _ _ _ h))
theorem grow3 {w w' : World} {B : Nat} (h : Grow w w') (hB : w.heap.size ≤ B) (a b c : Value) : Grow w (((w'.setCell ⟨B, 0, none⟩ a).setCell ⟨B, 1, none⟩ b).setCell ⟨B, 2, none⟩ c) :=
  Below.setCell (Below.setCell (Below.setCell h hB _) hB _) hB _

/-- A pointer to a new update of noughts. -/
def NewUpd (b0 : Nat) (u : Value) (x : World) : Prop := ∃ B, u = .pointer (some ⟨B, 0, none⟩) ∧ x.heap[B]? = some (.cells #[.int .u32 0, .int .i64 0, .int .i64 0] 52 (0, 0)) ∧ b0 < B

/-- Are bytes an update's? -/
def isU (zs : List Int) : Bool := decide (zs.length = 6) && mayP (beN (zs.take 4)) (zs.getD 4 0)
def updCells (zs : List Int) : Array Value := if isU zs then #[.int .u32 (beN (zs.take 4)), .int .i64 (zs.getD 4 0), .int .i64 (zs.getD 5 0)] else #[.int .u32 0, .int .i64 0, .int .i64 0]
def updV (zs : List Int) : Value := .agg (updCells zs)

def SomeUpd (zs : List Int) (w : World) (e : Ending) (w' : World) : Prop := e = .returned (.tuple #[updV zs, .int .i64 (if isU zs then 0 else 4)]) ∧ Grow w w'
def SomeUpdB (zs : List Int) (w : World) (e : Ending) (w' : World) : Prop := e = .returned (.tuple #[updV zs, .bool (isU zs)]) ∧ Grow w w'

theorem bytes_head {w : World} {b off cap : Nat} {zs : List Int} {n : Nat} (hc : ∀ i, i < zs.length → w.cell? ⟨b, off + i, none⟩ = some (.int .u8 (zs.getD i 0))) : ∀ i, i < (zs.take n).length → w.cell? ⟨b, off + i, none⟩ = some (.int .u8 ((zs.take n).getD i 0)) := fun i hi => by
  rw [List.length_take] at hi
  rw [hc i (by omega)]
  simp only [List.getD_eq_getElem?_getD]; rw [List.getElem?_take_of_lt (by omega)]

theorem beN4 {zs : List Int} (hb : Bytes zs) : 0 ≤ beN (zs.take 4) ∧ beN (zs.take 4) < 4294967296 := by
  have h := beN_lt hb 4
  have e : (256 : Int) ^ 4 = 4294967296 := by decide
  omega

set_option maxHeartbeats 1000000 in
theorem cof_short (v : Value) (zs : List Int) (w : World) (hv : BytesV w v zs) (hl : zs.length ≠ 6) :
    Calls Try.prog 43 #[v] w (SomeUpd zs w) := by
  obtain ⟨ao, cap, rfl, h1, h2⟩ := hv.shape
  have HR : Hid (isU zs = false) := by show _ = _; unfold isU; rw [decide_eq_false hl]; rfl
  have h3 : ((zs.length : Int) == 6) = false := by simp; omega
  clear hv hl
  unfold maxLen at h2
  have HG : Hid (∀ v2, Grow w ((w.alloc (.cells #[.int .u32 0, .int .i64 0, .int .i64 0] 52)).drewN v2)) := fun v2 => grow_dn ((Grow.refl w).alloc _) _
  generalize hm : zs.length = m at *
  clear hm
  go_enter Try.func43, Try.ntmps43
  go_wp2_with fail
  refine bodyPost_ret (v := .tuple #[updV zs, .int .i64 4]) (by rw [updV, updCells, HR.out]; simp [results, Try.results43, go_sem]) rfl ⟨by rw [HR.out]; rfl, ?_⟩
  exact (Grow.refl w).alloc _

set_option maxHeartbeats 2000000 in
theorem cof_six (b off cap : Nat) (zs : List Int) (w : World) (hb : Bytes zs) (hc : ∀ i, i < zs.length → w.cell? ⟨b, off + i, none⟩ = some (.int .u8 (zs.getD i 0))) (hl : zs.length = 6) (h1 : 6 ≤ cap) (h2 : cap ≤ maxLen) :
    Calls Try.prog 43 #[.slice (some ⟨b, off, none⟩) 6 cap] w (SomeUpd zs w) := by
  have HG4 : Hid (∀ x, Grow w x → Calls Try.prog 35 #[.slice (some ⟨b, off, none⟩) 4 cap] x fun e w' => e = .returned (.tuple #[.int .u64 (beN (zs.take 4)), .int .i64 0]) ∧ x = w') := fun x hx =>
    getL b off cap 4 (zs.take 4) x (hb.take 4) (bytes_head (cap := cap) fun i hi => (hx.cell (block_lt (hc i hi))).trans (hc i hi)) (by rw [List.length_take, hl]; rfl) (by omega) (by omega) h2
  unfold maxLen at h2
  have hx4 := hc 4 (by omega)
  have hx5 := hc 5 (by omega)
  have hb4 := hb.getD 4
  have hb5 := hb.getD 5
  obtain ⟨ha1, ha2⟩ := beN4 hb
  have HU : Hid (isU zs = mayP (beN (zs.take 4)) (zs.getD 4 0)) := by show _ = _; unfold isU; rw [decide_eq_true hl]; rfl
  have HUV : Hid (updCells zs = if isU zs then #[.int .u32 (beN (zs.take 4)), .int .i64 (zs.getD 4 0), .int .i64 (zs.getD 5 0)] else #[.int .u32 0, .int .i64 0, .int .i64 0]) := rfl
  have HV : Hid (updV zs = .agg (updCells zs)) := rfl
  clear hc hl hb
  generalize beN (zs.take 4) = a at *
  generalize zs.getD 4 0 = l at *
  generalize zs.getD 5 0 = d at *
  have HX4 := Lib.hid hx4
  have HX5 := Lib.hid hx5
  have HM : Hid (∀ x, Calls Try.prog 47 #[.agg #[.int .u32 a, .int .i64 l, .int .i64 d]] x fun e w' => e = .returned (.bool (isU zs)) ∧ Grow x w') := fun x => by
    have := umay_any a l d x ⟨ha1, ha2⟩ (by omega)
    rw [HU.out]
    unfold mayU at this
    rwa [decide_eq_true (by omega : 0 ≤ d ∧ d ≤ 255), Bool.and_true] at this
  have HZ : Hid ((w.alloc (.cells #[.int .u32 0, .int .i64 0, .int .i64 0] 52)).heap[w.heap.size]? = some (.cells #[.int .u32 0, .int .i64 0, .int .i64 0] 52 (0, 0))) := heap_alloc_new w _
  have HW0 : Hid (Grow w (w.alloc (.cells #[.int .u32 0, .int .i64 0, .int .i64 0] 52))) := (Grow.refl w).alloc _
  clear hx4 hx5
  go_enter Try.func43, Try.ntmps43
  go_wp2_with fail
  refine (HG4.out _ HW0.out).mono ?_
  rintro e w1 ⟨rfl, rfl⟩
  go_wp2_with fail
  refine wp_region_grow 13 [] NoBlock (fun _ => True) (by kernel_rfl) (by kernel_rfl) (by rfl) (fun _ _ _ _ => trivial) trivial ?_
  simp only [List.take_succ_cons, List.take_zero, List.drop_succ_cons, List.drop_zero]
  repeat (refine wpH_pure (by intro _ _ h; cases h) (by rfl) (by rfl) (fun K hK => ?_); go_simp; refine hK _ ?_; clear hK K)
  refine wpH_det (.int .u8 l) (by rfl) (fun xs => by rfl) (fun xs w' hg hf => ?_) ?_
  · clear hf
    have hx := ((HW0.out.trans hg.below).cell (block_lt HX4.out)).trans HX4.out
    go_simp
    exact Below.refl _ _
  repeat (refine wpH_pure (by intro _ _ h; cases h) (by rfl) (by rfl) (fun K hK => ?_); go_simp; refine hK _ ?_; clear hK K)
  refine wpH_det (.int .u8 d) (by rfl) (fun xs => by rfl) (fun xs w' hg hf => ?_) ?_
  · clear hf
    have hx := ((HW0.out.trans hg.below).cell (block_lt HX5.out)).trans HX5.out
    go_simp
    exact Below.refl _ _
  repeat (refine wpH_pure (by intro _ _ h; cases h) (by rfl) (by rfl) (fun K hK => ?_); go_simp; refine hK _ ?_; clear hK K)
  refine wpH_hid (NewUpd w.heap.size) rfl (by rfl) (fun u x x' hg ⟨B, h1, h2, h3⟩ => ⟨B, h1, (hg.block B (lt_of_block h2) (fun h => h)).trans h2, h3⟩) (fun xs => by rfl) (fun xs w' hg hf => ?_) ?_
  · clear hf
    have hs := hg.size
    rw [World.size_alloc] at hs
    have hn := heap_alloc_new w' (.cells #[.int .u32 0, .int .i64 0, .int .i64 0] 52)
    have HN := Lib.hid hn
    have HS := Lib.hid hs
    clear hn hs hg
    go_simp
    exact ⟨⟨_, rfl, HN.out, by have := HS.out; omega⟩, (Below.refl _ _).alloc (Nat.le_refl _) _⟩
  refine wpH_nil ?_
  intro xs w2 hg hx1 hx2
  obtain ⟨B, hB, hB2, hB3⟩ := hx2 _ (List.Mem.head _)
  dsimp only at hB
  clear hx1 hx2
  have hz2 := (hg.below.block _ (lt_of_block HZ.out)).trans HZ.out
  have HW2 := Lib.hid (HW0.out.trans hg.below)
  obtain ⟨⟨b0, b1, b2⟩, e0, e1, e2⟩ := blk3 hB2
  have HB2 := Lib.hid hB2
  have HZ2 := Lib.hid hz2
  have HB3 := Lib.hid hB3
  have hne : w.heap.size ≠ B := by omega
  clear hg hB2 hz2
  simp only [fill]
  rw [hB]
  clear hB
  go_simp
  go_wp2_with fail
  refine (HM.out _).mono ?_
  rintro e w3 ⟨rfl, hg3⟩
  have hz3 := (hg3.block _ (lt_of_block ((far3 hne _ _ _).trans HZ2.out))).trans ((far3 hne _ _ _).trans HZ2.out)
  have hn3 := (hg3.block _ (lt_of_block (put3 HB2.out _ _ _))).trans (put3 HB2.out _ _ _)
  have HW3 := Lib.hid ((grow3 HW2.out (Nat.le_of_lt HB3.out) _ _ _).trans hg3)
  obtain ⟨⟨c0, c1, c2⟩, f0, f1, f2⟩ := blk3 hz3
  obtain ⟨⟨d0, d1, d2⟩, _, _, _⟩ := blk3 hn3
  clear hz3 hn3 hg3 HU b0 b1 b2 e0 e1 e2
  cases hu : isU zs
  · have HUx := Lib.hid hu
    clear hu
    go_wp2_with fail
    refine bodyPost_ret (v := .tuple #[updV zs, .int .i64 4]) (by rw [HV.out, HUV.out, HUx.out]; simp [results, Try.results43, go_sem, c0, c1, c2]) rfl ⟨by rw [HUx.out]; rfl, ?_⟩
    exact grow3 HW3.out (Nat.le_refl _) _ _ _
  · have HUx := Lib.hid hu
    clear hu
    go_wp2_with fail
    refine bodyPost_ret (v := .tuple #[updV zs, .int .i64 0]) (by rw [HV.out, HUV.out, HUx.out]; simp [results, Try.results43, go_sem, c0, c1, c2]) rfl ⟨by rw [HUx.out]; rfl, ?_⟩
    exact grow3 HW3.out (Nat.le_refl _) _ _ _

theorem cof_any (v : Value) (zs : List Int) (w : World) (hv : BytesV w v zs) : Calls Try.prog 43 #[v] w (SomeUpd zs w) := by
  by_cases hl : zs.length = 6
  · obtain ⟨b, off, cap, rfl, h1, h2⟩ := hv.2.solid (fun e => by rw [e] at hl; simp at hl)
    have hc := hv.2.cells
    have h := cof_six b off cap zs w hv.1 hc hl (by omega) h2
    rwa [← hl] at h
  · exact cof_short v zs w hv hl
end Go.Proofs.Ytiphhjipgjpepaa
