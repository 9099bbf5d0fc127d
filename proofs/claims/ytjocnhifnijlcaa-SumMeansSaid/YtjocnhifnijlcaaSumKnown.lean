/- The chapter's rows. -/
import Derived.Test.YtjocnhifnijlcaaSumTotal
import Derived.Test.YtjocnhifnijlcaaDrawnUse
set_option linter.unusedVariables false
namespace Go.Proofs.Ytjocnhifnijlcaa
open Go.RowKit

theorem check_any (v : Value) (rows : List (List Int)) (w : World) (hv : RowsV w v rows) :
    Calls Try.prog 14 #[v] w fun e w' => e = .returned (.int .u16 (65535 - nrm (bsum rows.flatten))) ∧ Grow w w' := by
  have hb := nrm_bd (bsum rows.flatten)
  have e1 := not16 hb.1 hb.2
  go_enter Try.func14, Try.ntmps14
  go_wp2_with fail
  refine (total_any v rows _ hv).mono ?_; rintro e w' ⟨rfl, hg⟩
  have HG := Lib.hid hg
  clear hg
  go_wp2
  go_ret
  exact ⟨rfl, HG.out⟩

theorem cell_new (w : World) (l : List Value) (T : TypeId) (i : Nat) (v : Value) (h : l[i]? = some v) : (w.alloc (.cells l.toArray T)).cell? ⟨w.heap.size, i, none⟩ = some v := by
  have e := heap_alloc_new w (.cells l.toArray T)
  unfold World.cell?
  rw [e]
  simpa using h

/-- A new slice of slices of bytes. -/
theorem rows_new {w : World} (l : List Value) (rows : List (List Int)) (T : TypeId) (hlen : l.length = rows.length) (hm : l.length ≤ maxLen) (h : ∀ i (v : Value), l[i]? = some v → BytesV w v (rows.getD i [])) :
    RowsV (w.alloc (.cells l.toArray T)) (.slice (some ⟨w.heap.size, 0, none⟩) l.length l.length) rows := by
  refine Or.inr ⟨w.heap.size, 0, l.length, by rw [hlen], by omega, hm, fun i hi => ?_⟩
  have hi' : i < l.length := by omega
  refine ⟨l[i], ?_, (h i l[i] (by simp [hi'])).mono ((Below.refl _ _).alloc (Nat.le_refl _) _)⟩
  rw [Nat.zero_add]
  exact cell_new w l T i _ (by simp [hi'])

theorem beq_16 (x : Int) : (65535 - x == 0) = (x == 65535) := by
  rw [Bool.eq_iff_iff]; simp; omega

theorem ret_bool {a b : Bool} (h : a = b) : Ending.returned (.bool a) = .returned (.bool b) := by rw [h]

theorem good_any (v : Value) (zs : List Int) (w : World) (hv : BytesV w v zs) :
    Calls Try.prog 16 #[v] w fun e w' => e = .returned (.bool (nrm (bsum zs) == 65535)) ∧ Grow w w' := by
  have hr := rows_new (w := w) [v] [zs] 23 rfl (by simp [maxLen]) (fun i x hx => by
    match i, hx with
    | 0, hx => simp at hx; subst hx; exact hv)
  obtain ⟨ao, cap, rfl, _, _⟩ := hv.shape
  have HR := Lib.hid hr
  clear hr hv
  go_enter Try.func16, Try.ntmps16
  go_wp2_with fail
  refine (check_any _ _ _ HR.out).mono ?_; rintro e w' ⟨rfl, hg⟩
  have HG := Lib.hid hg
  clear hg
  go_wp2
  go_ret
  exact ⟨ret_bool (beq_16 _), Grow.trans ((Grow.refl _).alloc _) HG.out⟩

/-- A slice of slices stays. -/
theorem rows_stay (rows : List (List Int)) : ∀ (u : Value) (w w' : World), GrowBut NoBlock w w' → RowsV w u rows → RowsV w' u rows := fun _ _ _ h hr => hr.mono h.below
theorem bytes_stay (zs : List Int) : ∀ (u : Value) (w w' : World), GrowBut NoBlock w w' → BytesV w u zs → BytesV w' u zs := fun _ _ _ h hr => hr.mono h.below

/-- A new slice of bytes. -/
theorem bytes_new {w : World} (l : List Value) (zs : List Int) (T : TypeId) (hl : l = zs.map (Value.int .u8)) (hb : Bytes zs) (hm : zs.length ≤ maxLen) :
    BytesV (w.alloc (.cells l.toArray T)) (.slice (some ⟨w.heap.size, 0, none⟩) zs.length zs.length) zs := by
  refine ⟨hb, Or.inr ⟨w.heap.size, 0, zs.length, rfl, Nat.le_refl _, hm, fun i hi => ?_⟩⟩
  rw [Nat.zero_add]
  refine cell_new w l T i _ ?_
  subst hl
  simp [hi]

/-- A part of a slice of bytes. -/
theorem bytes_sub {w : World} {b off cap : Nat} {n : Nat} {zs : List Int} (h : BytesV w (.slice (some ⟨b, off, none⟩) n cap) zs) (lo hi : Nat) (h1 : lo ≤ hi) (h2 : hi ≤ zs.length) :
    BytesV w (.slice (some ⟨b, off + lo, none⟩) (hi - lo) (cap - lo)) ((zs.drop lo).take (hi - lo)) := by
  obtain ⟨hb, h⟩ := h
  have hl : ((zs.drop lo).take (hi - lo)).length = hi - lo := by simp; omega
  refine ⟨(hb.drop lo).take _, ?_⟩
  rcases h with ⟨rfl, ao, c, e, hc, _⟩ | ⟨b', off', c, e, hlc, hc, hcell⟩
  · simp at h2
    subst h2
    injection e with e1 e2 e3
    subst e3
    refine Or.inl ⟨by simp, some ⟨b, off + lo, none⟩, cap - lo, by simp, by omega, fun hh => by cases hh⟩
  · injection e with e1 e2 e3
    injection e1 with e1
    injection e1 with e4 e5
    subst e3; subst e4; subst e5
    refine Or.inr ⟨b, off + lo, cap - lo, by rw [hl], by omega, by omega, fun i hi' => ?_⟩
    rw [hl] at hi'
    have := hcell (lo + i) (by omega)
    rw [Nat.add_assoc, this]
    congr 2
    simp [List.getD_eq_getElem?_getD, List.getElem?_take, List.getElem?_drop]
    rw [if_pos (by omega)]

def known8 : List Int := [0, 1, 242, 3, 244, 245, 246, 247]

set_option maxHeartbeats 1000000 in
theorem known_any (w : World) :
    Calls Try.prog 10 #[] w fun e w' => e = .returned (.bool true) ∧ Grow w w' := by
  have hb := bytes_new (w := w) [.int .u8 0, .int .u8 1, .int .u8 242, .int .u8 3, .int .u8 244, .int .u8 245, .int .u8 246, .int .u8 247] known8 5 rfl (by unfold Bytes; decide) (by simp [known8, maxLen])
  have hw0 : Grow w (w.alloc (Obj.cells #[Value.int IntKind.u8 0, Value.int IntKind.u8 1, Value.int IntKind.u8 242, Value.int IntKind.u8 3, Value.int IntKind.u8 244, Value.int IntKind.u8 245, Value.int IntKind.u8 246, Value.int IntKind.u8 247] 5)) := (Grow.refl w).alloc _
  have HB := Lib.hid hb
  have HW := Lib.hid hw0
  clear hb hw0
  go_enter Try.func10, Try.ntmps10
  go_wp2_with fail
  refine wp_region_grow 31 [] NoBlock (fun _ => True) (by kernel_rfl) (by kernel_rfl) (by rfl) (fun _ _ _ _ => trivial) trivial ?_
  simp only [List.take_succ_cons, List.take_zero, List.drop_succ_cons, List.drop_zero]
  refine wpH_det (.int .u16 1) (by rfl) (fun xs => by rfl) (fun xs w' hg hf => ?_) ?_
  · clear hf
    go_simp
    refine (add_any _ _ _ (by omega) (by omega) (by omega) (by omega)).mono ?_
    rintro e w' ⟨rfl, rfl⟩
    exact ⟨_, rfl, rfl, Below.refl _ _⟩
  repeat (refine wpH_pure (by intro _ _ h; cases h) (by rfl) (by rfl) (fun K hK => ?_); go_simp; refine hK _ ?_; clear hK K)
  refine wpH_hid (fun u w => RowsV w u [known8]) rfl (by rfl) (rows_stay _) (fun xs => by rfl) (fun xs w' hg hf => ?_) ?_
  · clear hf
    have hr := rows_new (w := w') [.slice (some ⟨w.heap.size, 0, none⟩) 8 8] [known8] 23 rfl (by simp [maxLen]) (fun i x hx => by
      match i, hx with
      | 0, hx => simp at hx; subst hx; exact HB.out.mono hg.below)
    have HR := Lib.hid hr
    clear hr hg
    go_simp
    exact ⟨HR.out, (Below.refl _ _).alloc (Nat.le_refl _) _⟩
  refine wpH_det (.int .u16 56818) (by rfl) (fun xs => by rfl) (fun xs w' hg hf => ?_) ?_
  · have h1 := hf _ (List.Mem.head _) (by rfl); dsimp only at h1
    clear hf
    go_simp
    refine (total_any _ _ _ h1).mono ?_
    rintro e w1 ⟨rfl, hg1⟩
    exact ⟨_, ret_int (by decide), rfl, hg1⟩
  repeat (refine wpH_pure (by intro _ _ h; cases h) (by rfl) (by rfl) (fun K hK => ?_); go_simp; refine hK _ ?_; clear hK K)
  refine wpH_hid (fun u w => RowsV w u [known8.take 3, known8.drop 3]) rfl (by rfl) (rows_stay _) (fun xs => by rfl) (fun xs w' hg hf => ?_) ?_
  · clear hf
    have hr := rows_new (w := w') [.slice (some ⟨w.heap.size, 0, none⟩) 3 8, .slice (some ⟨w.heap.size, 3, none⟩) 5 5] [known8.take 3, known8.drop 3] 23 rfl (by simp [maxLen]) (fun i x hx => by
      match i, hx with
      | 0, hx => simp at hx; subst hx; exact bytes_sub (HB.out.mono hg.below) 0 3 (by decide) (by decide)
      | 1, hx => simp at hx; subst hx; exact bytes_sub (HB.out.mono hg.below) 3 8 (by decide) (by decide))
    have HR := Lib.hid hr
    clear hr hg
    go_simp
    exact ⟨HR.out, (Below.refl _ _).alloc (Nat.le_refl _) _⟩
  refine wpH_det (.int .u16 8717) (by rfl) (fun xs => by rfl) (fun xs w' hg hf => ?_) ?_
  · have h1 := hf _ (List.Mem.head _) (by rfl); dsimp only at h1
    clear hf
    go_simp
    refine (check_any _ _ _ h1).mono ?_
    rintro e w1 ⟨rfl, hg1⟩
    exact ⟨_, ret_int (by decide), rfl, hg1⟩
  repeat (refine wpH_pure (by intro _ _ h; cases h) (by rfl) (by rfl) (fun K hK => ?_); go_simp; refine hK _ ?_; clear hK K)
  refine wpH_hid (fun u w => BytesV w u [0, 1, 255, 254]) rfl (by rfl) (bytes_stay _) (fun xs => by rfl) (fun xs w' hg hf => ?_) ?_
  · clear hf hg
    have hr := bytes_new (w := w') [.int .u8 0, .int .u8 1, .int .u8 255, .int .u8 254] [0, 1, 255, 254] 5 rfl (by unfold Bytes; decide) (by simp [maxLen])
    have HR := Lib.hid hr
    clear hr
    go_simp
    exact ⟨HR.out, (Below.refl _ _).alloc (Nat.le_refl _) _⟩
  refine wpH_det (.bool true) (by rfl) (fun xs => by rfl) (fun xs w' hg hf => ?_) ?_
  · have h1 := hf _ (List.Mem.head _) (by rfl); dsimp only at h1
    clear hf
    go_simp
    refine (good_any _ _ _ h1).mono ?_
    rintro e w1 ⟨rfl, hg1⟩
    exact ⟨_, ret_bool (by decide), rfl, hg1⟩
  repeat (refine wpH_pure (by intro _ _ h; cases h) (by rfl) (by rfl) (fun K hK => ?_); go_simp; refine hK _ ?_; clear hK K)
  refine wpH_hid (fun u w => BytesV w u [1]) rfl (by rfl) (bytes_stay _) (fun xs => by rfl) (fun xs w' hg hf => ?_) ?_
  · clear hf hg
    have hr := bytes_new (w := w') [.int .u8 1] [1] 5 rfl (by unfold Bytes; decide) (by simp [maxLen])
    have HR := Lib.hid hr
    clear hr
    go_simp
    exact ⟨HR.out, (Below.refl _ _).alloc (Nat.le_refl _) _⟩
  refine wpH_hid (fun u w => RowsV w u [[1]]) rfl (by rfl) (rows_stay _) (fun xs => by rfl) (fun xs w' hg hf => ?_) ?_
  · have h1 := hf _ (List.Mem.head _) (by rfl); dsimp only at h1
    clear hf hg
    simp only [fill]
    generalize xs 25 = x at *
    obtain ⟨ao, cap, rfl, _, _⟩ := h1.shape
    have hr := rows_new (w := w') [.slice ao 1 cap] [[1]] 23 rfl (by simp [maxLen]) (fun i x hx => by
      match i, hx with
      | 0, hx => simp at hx; subst hx; exact h1)
    have HR := Lib.hid hr
    clear hr h1
    go_simp
    exact ⟨HR.out, (Below.refl _ _).alloc (Nat.le_refl _) _⟩
  refine wpH_det (.int .u16 256) (by rfl) (fun xs => by rfl) (fun xs w' hg hf => ?_) ?_
  · have h1 := hf _ (List.Mem.head _) (by rfl); dsimp only at h1
    clear hf
    go_simp
    refine (total_any _ _ _ h1).mono ?_
    rintro e w1 ⟨rfl, hg1⟩
    exact ⟨_, ret_int (by decide), rfl, hg1⟩
  repeat (refine wpH_pure (by intro _ _ h; cases h) (by rfl) (by rfl) (fun K hK => ?_); go_simp; refine hK _ ?_; clear hK K)
  refine wpH_det (.int .u16 1) (by rfl) (fun xs => by rfl) (fun xs w' hg hf => ?_) ?_
  · clear hf
    go_simp
    refine (fold_any _ _ (by omega) (by omega)).mono ?_
    rintro e w' ⟨rfl, rfl⟩
    exact ⟨_, ret_int (by decide), rfl, Below.refl _ _⟩
  repeat (refine wpH_pure (by intro _ _ h; cases h) (by rfl) (by rfl) (fun K hK => ?_); go_simp; refine hK _ ?_; clear hK K)
  refine wpH_nil ?_
  intro xs w2 hg _ _
  have hG : Grow w w2 := Grow.trans HW.out hg.below
  have HG := Lib.hid hG
  clear hG hg
  generalize xs 7 = x1
  generalize xs 16 = x2
  generalize xs 21 = x3
  generalize xs 25 = x4
  generalize xs 26 = x5
  simp only [fill]
  go_simp
  go_wp2
  go_ret
  exact ⟨rfl, HG.out⟩
end Go.Proofs.Ytjocnhifnijlcaa
