/- An update's bytes, as the document has it. -/
import Derived.Test.YtiphhjipgjpepaaFrRPut
import Derived.Test.YtiphhjipgjpepaaFrTag
import Derived.Test.YtiphhjipgjpepaaFrBytes
set_option linter.unusedVariables false
set_option linter.unusedSimpArgs false
namespace Go.Proofs.Ytiphhjipgjpepaa
open Go.RowKit

/-- An update's bytes. -/
def updB (a l d : Int) : List Int := bel 4 a ++ [l, d]
theorem bel4 (n : Int) : bel 4 n = [n / 16777216 % 256, n / 65536 % 256, n / 256 % 256, n % 256] := by
  simp [bel, putSt, List.range, List.range.loop]
theorem beN_bel4 {a : Int} (h : 0 ≤ a ∧ a < 4294967296) : beN (bel 4 a) = a := by
  rw [bel4]
  simp only [beN, List.foldl_cons, List.foldl_nil]
  omega
theorem updB_length (a l d : Int) : (updB a l d).length = 6 := by simp [updB, bel_length]
theorem mayU_bd {a l d : Int} (h : mayU a l d = true) : mayP a l = true ∧ (0 ≤ l ∧ l ≤ 32) ∧ (0 ≤ d ∧ d ≤ 255) := by
  unfold mayU at h
  simp only [Bool.and_eq_true, decide_eq_true_eq] at h
  refine ⟨h.1, ?_, h.2⟩
  have := h.1
  unfold mayP at this
  have := of_decide_eq_true this
  exact ⟨this.1, this.2.1⟩
theorem updB_bytes {a l d : Int} (h : mayU a l d = true) : Bytes (updB a l d) := by
  obtain ⟨_, h1, h2⟩ := mayU_bd h
  intro x hx
  unfold updB at hx
  rcases List.mem_append.1 hx with hx | hx
  · exact bel_bytes 4 a x hx
  · simp at hx
    rcases hx with rfl | rfl <;> omega
theorem updB_is {a l d : Int} (ha : 0 ≤ a ∧ a < 4294967296) (h : mayU a l d = true) : isU (updB a l d) = true ∧ updV (updB a l d) = .agg #[.int .u32 a, .int .i64 l, .int .i64 d] := by
  obtain ⟨hp, _, _⟩ := mayU_bd h
  have e1 : (updB a l d).take 4 = bel 4 a := by
    unfold updB; rw [List.take_append_of_le_length (by rw [bel_length]; omega), List.take_of_length_le (by rw [bel_length]; omega)]
  have e2 : (updB a l d).getD 4 0 = l := by unfold updB; rw [bel4]; rfl
  have e3 : (updB a l d).getD 5 0 = d := by unfold updB; rw [bel4]; rfl
  have hu : isU (updB a l d) = true := by
    unfold isU
    rw [e1, e2, beN_bel4 ha, hp, decide_eq_true (updB_length a l d)]; rfl
  refine ⟨hu, ?_⟩
  unfold updV updCells
  rw [if_pos hu, e1, e2, e3, beN_bel4 ha]

theorem lit2 (w : World) (x y : Int) (T : TypeId) (h : Bytes [x, y]) : BytesV (w.alloc (.cells #[.int .u8 x, .int .u8 y] T)) (.slice (some ⟨w.heap.size, 0, none⟩) 2 2) [x, y] := by
  refine ⟨h, Or.inr ⟨w.heap.size, 0, 2, rfl, Nat.le_refl _, by unfold maxLen; omega, fun i hi => ?_⟩⟩
  obtain ⟨c0, c1⟩ := blk2 (heap_alloc_new w (.cells #[.int .u8 x, .int .u8 y] T))
  match i, hi with
  | 0, _ => exact c0
  | 1, _ => exact c1

def OwnB' (base : Nat) (zs : List Int) (u : Value) (x : World) : Prop := x.ownsRow base 5 1 u zs.length (zs.map (Value.int .u8))
theorem own_stay (base : Nat) (zs : List Int) : ∀ (u : Value) (w w' : World), GrowBut NoBlock w w' → OwnB' base zs u w → OwnB' base zs u w' := fun u w w' h ho => own_grow ho h.below

set_option maxHeartbeats 1000000 in
theorem rubytes_any (a l d : Int) (w : World) (ha : 0 ≤ a ∧ a < 4294967296) (h : mayU a l d = true) :
    Calls Try.prog 21 #[.agg #[.int .u32 a, .int .i64 l, .int .i64 d]] w fun e w' => ∃ v, e = .returned v ∧ NewBytes w (updB a l d) v w' := by
  obtain ⟨i0, hi, hz0, hz1, hz2⟩ := info_parts infoByte
  have HP : Hid (∀ x, Calls Try.prog 32 #[.int .u64 a, .int .i64 4] x fun e w' => ∃ v, e = .returned v ∧ NewBytes x (bel 4 a) v w') := fun x => rput_any a 4 x (by omega) (by omega) (by omega)
  obtain ⟨_, hl, hd⟩ := mayU_bd h
  have HB : Hid (Bytes [l, d]) := by
    intro x hx
    simp at hx
    rcases hx with rfl | rfl <;> omega
  have hwu : IntKind.u64.wrap a = a := by simp [IntKind.wrap, IntKind.signed, IntKind.bits]; omega
  have hwl : IntKind.u8.wrap l = l := by rw [wrap8]; omega
  have hwd : IntKind.u8.wrap d = d := by rw [wrap8]; omega
  have HU : Hid (updB a l d = bel 4 a ++ [l, d]) := rfl
  have HUL : Hid ((updB a l d).length = 4 + 2) := updB_length a l d
  have HL4 : Hid ((bel 4 a).length = 4) := bel_length 4 a
  have hF := heap_alloc_new w (.cells #[.int .u32 a, .int .i64 l, .int .i64 d] 52)
  have HF := Lib.hid hF
  have HW : Hid (Grow w (w.alloc (.cells #[.int .u32 a, .int .i64 l, .int .i64 d] 52))) := (Grow.refl w).alloc _
  clear hF h
  generalize updB a l d = ub at *
  generalize bel 4 a = b4 at *
  go_enter Try.func21, Try.ntmps21
  go_wp2_with fail
  refine wp_region_grow 13 [] NoBlock (fun _ => True) (by kernel_rfl) (by kernel_rfl) (by rfl) (fun _ _ _ _ => trivial) trivial ?_
  simp only [List.take_succ_cons, List.take_zero, List.drop_succ_cons, List.drop_zero]
  repeat (refine wpH_pure (by intro _ _ h; cases h) (by rfl) (by rfl) (fun K hK => ?_); go_simp; refine hK _ ?_; clear hK K)
  refine wpH_det (.int .u32 a) (by rfl) (fun xs => by rfl) (fun xs w' hg hf => ?_) ?_
  · clear hf
    obtain ⟨⟨y0, y1, y2⟩, _, _, _⟩ := blk3 ((hg.below.block _ (lt_of_block HF.out)).trans HF.out)
    clear hg
    go_simp
    exact Below.refl _ _
  repeat (refine wpH_pure (by intro _ _ h; cases h) (by rfl) (by rfl) (fun K hK => ?_); go_simp; refine hK _ ?_; clear hK K)
  refine wpH_hid (OwnB' w.heap.size b4) rfl (by rfl) (own_stay _ _) (fun xs => by rfl) (fun xs w' hg hf => ?_) ?_
  · clear hf
    have h := HP.out w'
    have hs := (HW.out.trans hg.below).size
    go_simp
    with_reducible refine h.mono ?_
    rintro e w1 ⟨v, rfl, h⟩
    exact ⟨_, rfl, own_base h.1 hs, h.2⟩
  repeat (refine wpH_pure (by intro _ _ h; cases h) (by rfl) (by rfl) (fun K hK => ?_); go_simp; refine hK _ ?_; clear hK K)
  refine wpH_det (.int .i64 l) (by rfl) (fun xs => by rfl) (fun xs w' hg hf => ?_) ?_
  · clear hf
    obtain ⟨⟨y0, y1, y2⟩, _, _, _⟩ := blk3 ((hg.below.block _ (lt_of_block HF.out)).trans HF.out)
    clear hg
    go_simp
    exact Below.refl _ _
  repeat (refine wpH_pure (by intro _ _ h; cases h) (by rfl) (by rfl) (fun K hK => ?_); go_simp; refine hK _ ?_; clear hK K)
  refine wpH_det (.int .i64 d) (by rfl) (fun xs => by rfl) (fun xs w' hg hf => ?_) ?_
  · clear hf
    obtain ⟨⟨y0, y1, y2⟩, _, _, _⟩ := blk3 ((hg.below.block _ (lt_of_block HF.out)).trans HF.out)
    clear hg
    go_simp
    exact Below.refl _ _
  repeat (refine wpH_pure (by intro _ _ h; cases h) (by rfl) (by rfl) (fun K hK => ?_); go_simp; refine hK _ ?_; clear hK K)
  refine wpH_hid (fun u x => BytesV x u [l, d]) rfl (by rfl) (bytes_stay _) (fun xs => by rfl) (fun xs w' hg hf => ?_) ?_
  · clear hf hg
    have h := Lib.hid (lit2 w' l d 5 HB.out)
    go_simp
    exact ⟨h.out, (Below.refl _ _).alloc (Nat.le_refl _) _⟩
  refine wpH_nil ?_
  intro xs w2 hg hx1 hx2
  have hy := hx2 _ (List.Mem.tail _ (List.Mem.head _))
  have hz := hx2 _ (List.Mem.head _)
  dsimp only at hy hz
  clear hx1 hx2
  have HG2 := Lib.hid (HW.out.trans hg.below)
  clear hg
  simp only [fill]
  generalize xs 7 = y at *
  generalize xs 15 = z at *
  have HY := Lib.hid hy
  have HZ := Lib.hid hz
  clear hy hz
  go_simp
  refine wpList_append_ints (k := .u8) rfl _ _ 26 rfl w.heap.size 5 i0 1 Try.underlying26 hi hz0 hz1 hz2 y b4.length (b4.map (Value.int .u8)) rfl HY.out z [l, d] rfl HZ.out.2 (by rw [HL4.out]; unfold maxLen; simp) (by rw [HL4.out]; simp) HG2.out.size ?_
  intro v3 w3 ho hgr
  have hg3 : Grow w w3 := grow_own HG2.out HY.out hgr
  have HR : Hid (NewBytes w ub v3 w3) := by
    refine ⟨?_, hg3⟩
    rw [HU.out, List.length_append, List.map_append]
    exact ho
  clear ho hgr hg3
  go_wp2_with fail
  go_ret
  exact ⟨_, rfl, HR.out⟩
end Go.Proofs.Ytiphhjipgjpepaa
