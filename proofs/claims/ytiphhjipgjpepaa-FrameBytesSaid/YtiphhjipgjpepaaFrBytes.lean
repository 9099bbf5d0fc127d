/- The bytes of a frame. -/
import Derived.Test.YtiphhjipgjpepaaFrPutC
import Derived.Outline
set_option linter.unusedVariables false
set_option linter.unusedSimpArgs false
namespace Go.Proofs.Ytiphhjipgjpepaa
open Go.RowKit

/-- The head's bytes, behind so many of its numbers. -/
def hdTo (kd nd : Int) (ns : List Int) : List Int := [kd % 256, nd % 256] ++ (ns.map be8).flatten
def Fr.nums (f : Fr) : List Int := [f.mb, f.mt, f.tb, f.tt, f.sq, f.ak]
def hdB (f : Fr) : List Int := hdTo f.kind f.node f.nums ++ be2 f.zs.length
def chkF (f : Fr) : Int := 65535 - nrm (bsum (hdB f ++ ([0, 0] ++ f.zs)))
def frB (f : Fr) : List Int := hdB f ++ be2 (chkF f) ++ f.zs

theorem hdTo_length (kd nd : Int) (ns : List Int) : (hdTo kd nd ns).length = 2 + 8 * ns.length := by
  unfold hdTo
  rw [List.length_append, List.length_flatten]
  have : ((ns.map be8).map List.length).sum = 8 * ns.length := by
    induction ns with
    | nil => rfl
    | cons a r ih => simp only [List.map_cons, List.sum_cons, be8_length, ih, List.length_cons]; omega
  rw [this]; rfl
theorem hdTo_bytes (kd nd : Int) (ns : List Int) : Bytes (hdTo kd nd ns) := by
  intro x hx
  rcases List.mem_append.1 hx with h | h
  · simp at h; rcases h with rfl | rfl <;> omega
  · obtain ⟨l, hl, hx⟩ := List.mem_flatten.1 h
    obtain ⟨n, _, rfl⟩ := List.mem_map.1 hl
    exact be8_bytes n x hx
theorem hdTo_snoc (kd nd : Int) (ns : List Int) (n : Int) : hdTo kd nd (ns ++ [n]) = hdTo kd nd ns ++ be8 n := by
  unfold hdTo; simp
theorem hdB_length (f : Fr) : (hdB f).length = 52 := by
  unfold hdB; rw [List.length_append, hdTo_length, be2_length]; rfl
theorem hdB_bytes (f : Fr) : Bytes (hdB f) := (hdTo_bytes _ _ _).append (be2_bytes _)
theorem chkF_bd (f : Fr) : 0 ≤ chkF f ∧ chkF f < 65536 := by
  unfold chkF; have := nrm_bd (bsum (hdB f ++ ([0, 0] ++ f.zs))); omega
theorem frB_length (f : Fr) : (frB f).length = 54 + f.zs.length := by
  unfold frB; rw [List.length_append, List.length_append, hdB_length, be2_length]
theorem frB_bytes (f : Fr) (h : Bytes f.zs) : Bytes (frB f) := ((hdB_bytes f).append (be2_bytes _)).append h
theorem own_base {w : World} {b b' : Nat} {e : TypeId} {size : Nat} {v : Value} {n : Nat} {xs : List Value} (h : w.ownsRow b e size v n xs) (hb : b' ≤ b) : w.ownsRow b' e size v n xs := by
  obtain ⟨h1, h2⟩ := h
  refine ⟨h1, h2.imp id ?_⟩
  rintro ⟨g, cap, cur, e1, e2, e3⟩
  exact ⟨g, cap, cur, e1, by omega, e3⟩
theorem mv_below {w w1 w2 : World} {base A : Nat} (h1 : Grow w w1) (h2 : GrowBut (Mv base A) w1 w2) (hb : w.heap.size ≤ base) : Grow w w2 :=
  ⟨h2.os.trans h1.os, h2.tape.trans h1.tape, h2.output.trans h1.output, Nat.le_trans h1.size h2.size, fun k hk => (h2.block k (Nat.lt_of_lt_of_le hk h1.size) (fun hm => by have := hm.1; omega)).trans (h1.block k hk)⟩

set_option maxRecDepth 100000 in
set_option maxHeartbeats 4000000 in
theorem fbytes_any (f : Fr) (w : World) (hok : FrOk w f) (hlen : f.zs.length ≤ 5000) :
    Calls Try.prog 28 #[f.val] w fun e w' => ∃ u, e = .returned u ∧ NewBytes w (frB f) u w' := by
  obtain ⟨i0, hi, hz0, hz1, hz2⟩ := info_parts infoByte
  have HFB : Hid (frB f = hdB f ++ be2 (chkF f) ++ f.zs) := rfl
  have HHD : Hid (hdB f = hdTo f.kind f.node f.nums ++ be2 f.zs.length) := rfl
  have HCK : Hid (chkF f = 65535 - nrm (bsum (hdB f ++ ([0, 0] ++ f.zs)))) := rfl
  have HCB := Lib.hid (chkF_bd f)
  have HDL := Lib.hid (hdB_length f)
  have HDBy := Lib.hid (hdB_bytes f)
  generalize frB f = fb at *
  generalize hdB f = hd at *
  generalize chkF f = ck at *
  obtain ⟨kd, nd, mb, mt, tb, tt, sq, ak, v, zs⟩ := f
  obtain ⟨ok1, ok2, ok3, ok4, ok5, ok6, ok7, ok8, okb⟩ := hok
  dsimp only at *
  obtain ⟨ao, cap, rfl, hlc, hcm⟩ := okb.shape
  simp only [Fr.val, Fr.cells, frCells, Fr.nums] at *
  have HBody := Lib.hid okb
  unfold maxLen at hcm
  obtain ⟨nums, hnums⟩ : ∃ l, [mb, mt, tb, tt, sq, ak] = l := ⟨_, rfl⟩
  have HNB : Hid (∀ k, k < 6 → 0 ≤ nums.getD k 0 ∧ nums.getD k 0 < 18446744073709551616) := by
    rw [← hnums]
    intro k hk
    have : k = 0 ∨ k = 1 ∨ k = 2 ∨ k = 3 ∨ k = 4 ∨ k = 5 := by omega
    rcases this with rfl | rfl | rfl | rfl | rfl | rfl
    · exact ok3
    · exact ok4
    · exact ok5
    · exact ok6
    · exact ok7
    · exact ok8
  have HNL : Hid (nums.length = 6) := by rw [← hnums]; rfl
  obtain ⟨wX, hwX⟩ : ∃ x, (((w.alloc (.cells #[.int .i64 kd, .int .i64 nd, .int .u64 mb, .int .u64 mt, .int .u64 tb, .int .u64 tt, .int .u64 sq, .int .u64 ak, .slice ao zs.length cap] 28)).alloc (.cells #[.int .u8 (kd % 256), .int .u8 (nd % 256)] 5)).alloc (.cells #[.slice (some ⟨w.heap.size + 1, 0, none⟩) 2 2] 26)).alloc (.cells #[.int .u64 mb, .int .u64 mt, .int .u64 tb, .int .u64 tt, .int .u64 sq, .int .u64 ak] 23) = x := ⟨_, rfl⟩
  have HX := Lib.hid hwX
  have HGX : Hid (Grow w wX) := by rw [← hwX]; exact ((((Grow.refl w).alloc _).alloc _).alloc _).alloc _
  have HSX : Hid (wX.heap.size = w.heap.size + 1 + 1 + 1 + 1) := by show _ = _; rw [← hwX]; simp
  have hF : Hid (wX.heap[w.heap.size]? = some (.cells #[.int .i64 kd, .int .i64 nd, .int .u64 mb, .int .u64 mt, .int .u64 tb, .int .u64 tt, .int .u64 sq, .int .u64 ak, .slice ao zs.length cap] 28 (0, 0))) := by
    rw [← hwX, Below.heap_alloc _ _ _ (by first | (simp; done) | (simp; omega)), Below.heap_alloc _ _ _ (by first | (simp; done) | (simp; omega)), Below.heap_alloc _ _ _ (by simp)]
    exact heap_alloc_new w _
  have hNm : Hid (∀ k, k < 6 → wX.cell? ⟨w.heap.size + 1 + 1 + 1, k, none⟩ = some (.int .u64 (nums.getD k 0))) := by
    rw [← hwX, ← hnums]
    intro k hk
    have e := heap_alloc_new (((w.alloc (.cells #[.int .i64 kd, .int .i64 nd, .int .u64 mb, .int .u64 mt, .int .u64 tb, .int .u64 tt, .int .u64 sq, .int .u64 ak, .slice ao zs.length cap] 28)).alloc (.cells #[.int .u8 (kd % 256), .int .u8 (nd % 256)] 5)).alloc (.cells #[.slice (some ⟨w.heap.size + 1, 0, none⟩) 2 2] 26)) (.cells #[.int .u64 mb, .int .u64 mt, .int .u64 tb, .int .u64 tt, .int .u64 sq, .int .u64 ak] 23)
    rw [World.size_alloc, World.size_alloc, World.size_alloc] at e
    unfold World.cell?
    rw [e]
    have : k = 0 ∨ k = 1 ∨ k = 2 ∨ k = 3 ∨ k = 4 ∨ k = 5 := by omega
    rcases this with rfl | rfl | rfl | rfl | rfl | rfl <;> rfl
  have hP0 : Hid (PutAt wX (w.heap.size + 1 + 1) (w.heap.size + 1) (w.heap.size + 1 + 1 + 1) (hdTo kd nd (nums.take 0))) := by
    rw [← hwX]
    refine ⟨.slice (some ⟨w.heap.size + 1, 0, none⟩) 2 2, ?_, ⟨rfl, Or.inr ⟨w.heap.size + 1, 2, #[.int .u8 (kd % 256), .int .u8 (nd % 256)], rfl, Nat.le_refl _, ?_, Nat.le_refl _, by unfold maxLen; omega, rfl, rfl⟩⟩, ?_, ?_⟩
    · rw [Below.heap_alloc _ _ _ (by simp)]
      have e := heap_alloc_new ((w.alloc (.cells #[.int .i64 kd, .int .i64 nd, .int .u64 mb, .int .u64 mt, .int .u64 tb, .int .u64 tt, .int .u64 sq, .int .u64 ak, .slice ao zs.length cap] 28)).alloc (.cells #[.int .u8 (kd % 256), .int .u8 (nd % 256)] 5)) (.cells #[.slice (some ⟨w.heap.size + 1, 0, none⟩) 2 2] 26)
      rwa [World.size_alloc, World.size_alloc] at e
    · rw [Below.heap_alloc _ _ _ (by first | (simp; done) | (simp; omega)), Below.heap_alloc _ _ _ (by simp)]
      have e := heap_alloc_new (w.alloc (.cells #[.int .i64 kd, .int .i64 nd, .int .u64 mb, .int .u64 mt, .int .u64 tb, .int .u64 tt, .int .u64 sq, .int .u64 ak, .slice ao zs.length cap] 28)) (.cells #[.int .u8 (kd % 256), .int .u8 (nd % 256)] 5)
      rwa [World.size_alloc] at e
    · intro hh; injection hh with hh; simp at hh
    · intro hh; injection hh with hh; simp at hh
  rw [hnums] at HHD
  clear hwX ok1 ok2 ok3 ok4 ok5 ok6 ok7 ok8 okb hnums
  go_enter Try.func28, Try.ntmps28
  go_wp2_with fail
  rw [HX.out]
  clear HX
  go_loopw [33] (fun i wr => ∃ k : Nat, k ≤ 6 ∧ i = .int .i64 k ∧ Hid (PutAt wr (w.heap.size + 1 + 1) (w.heap.size + 1) (w.heap.size + 1 + 1 + 1) (hdTo kd nd (nums.take k))) ∧ Hid (GrowBut (Mv (w.heap.size + 1) (w.heap.size + 1 + 1 + 1)) wX wr)) (fun i _ => 6 - (intOf i).toNat)
  case atStart => exact ⟨0, Nat.zero_le _, rfl, hP0.out, GrowBut.refl _ _⟩
  case round =>
    clear hP0
    obtain ⟨k, hk, rfl, HP, HG⟩ := hrel
    by_cases hlt : k < 6
    · have hk1 : (k : Int) < 6 := by omega
      have hcell := HG.out.cell (hNm.out k hlt) (fun hm => hm.2 rfl)
      have hsz := HG.out.size
      rw [HSX.out] at hsz
      obtain ⟨x, hx⟩ : ∃ x, nums.getD k 0 = x := ⟨_, rfl⟩
      have hxb := HNB.out k hlt
      have HT : Hid (hdTo kd nd (nums.take (k + 1)) = hdTo kd nd (nums.take k) ++ be8 x) := by
        show _ = _
        rw [← hx, ← hdTo_snoc]
        congr 1
        exact take_succ' nums k 0 (by rw [HNL.out]; exact hlt)
      rw [hx] at hcell hxb
      have hpc := put_closure (s := 8) (n := x) (ys := be8 x) (fun y => put8 x y hxb) HP.out (by omega) (by omega) (by omega) (by rw [hdTo_length, List.length_take]; omega) (by rw [be8_length]; omega)
      have HPC := Lib.hid hpc
      clear hx hxb hpc hsz
      go_wp2_with fail
      refine HPC.out.mono ?_
      rintro e w1 ⟨rfl, hp, hg⟩
      have HP1 := Lib.hid hp
      have HG1 := Lib.hid (HG.out.trans hg)
      clear hp hg
      go_wp2_with fail
      exact ⟨⟨k + 1, by omega, by go_num, by rw [HT.out]; exact HP1.out, HG1.out⟩, by simp [intOf]; omega⟩
    · obtain rfl : k = 6 := by omega
      have hpt : PutAt wr (w.heap.size + 1 + 1) (w.heap.size + 1) (w.heap.size + 1 + 1 + 1) (hdTo kd nd nums) := by
        have := HP.out
        rwa [List.take_of_length_le (by rw [HNL.out]; omega)] at this
      have hsz := HG.out.size
      rw [HSX.out] at hsz
      have HLn : Hid (hd.length = (hdTo kd nd nums).length + 2) := by show _ = _; rw [HHD.out, List.length_append, be2_length]
      have hF1 := (HG.out.block _ (lt_of_block hF.out) (fun hm => by have := hm.1; omega)).trans hF.out
      obtain ⟨_, _, _, _, f8⟩ := blkF hF1
      have hl2 : (zs.length : Int) < 65536 := by omega
      have hpc := put_closure (s := 2) (n := (zs.length : Int)) (ys := be2 zs.length) (fun y => put2 _ y (by omega)) hpt (by omega) (by omega) (by omega) (by rw [hdTo_length, HNL.out]; omega) (by rw [be2_length]; omega)
      rw [← HHD.out] at hpc
      have HPC := Lib.hid hpc
      clear hpt hsz hF1 hpc
      go_wp2_with fail
      refine HPC.out.mono ?_
      rintro e w1 ⟨rfl, hp, hg⟩
      have HP1 := Lib.hid hp
      have HG1 := Lib.hid (HG.out.trans hg)
      have hF2 := (HG1.out.block _ (lt_of_block hF.out) (fun hm => by have := hm.1; omega)).trans hF.out
      clear f8
      obtain ⟨_, _, _, _, f8⟩ := blkF hF2
      obtain ⟨vv, hv1, hv2, hv3, hv4⟩ := hp
      have c0 := cell_of_one hv1
      have HI := Lib.hid (ints_of_owns hv2)
      obtain ⟨ao1, cp1, rfl, hq1, hq2⟩ := HI.out.shape
      have HBody1 := Lib.hid (HBody.out.mono (mv_below HGX.out HG1.out (by omega)))
      rw [HDL.out] at c0
      have f8' := (((Grow.refl w1).alloc (.cells #[.int .u8 0, .int .u8 0] 5)).cell (block_lt f8)).trans f8
      have hlt1 : w.heap.size < w1.heap.size := lt_of_block hF2
      have hne1 : w.heap.size ≠ w1.heap.size := by omega
      clear hv1 hv2 hv3 hv4 hg hF2 hq1 hq2 hk hlt f8
      have hr := rows_new (w := w1.alloc (.cells #[.int .u8 0, .int .u8 0] 5)) [.slice ao1 52 cp1, .slice (some ⟨w1.heap.size, 0, none⟩) 2 2, .slice ao zs.length cap] [hd, [0, 0], zs] 26 rfl (by simp [maxLen]) (fun i x hx => by
        match i, hx with
        | 0, hx =>
          simp at hx; subst hx
          have := HI.out
          rw [HDL.out] at this
          exact BytesV.mono ⟨HDBy.out, this⟩ ((Grow.refl w1).alloc _)
        | 1, hx => simp at hx; subst hx; exact bytes_new (w := w1) [.int .u8 0, .int .u8 0] [0, 0] 5 rfl (by unfold Bytes; decide) (by simp [maxLen])
        | 2, hx => simp at hx; subst hx; exact HBody1.out.mono ((Grow.refl w1).alloc _))
      simp only [World.size_alloc, List.length_cons, List.length_nil, Nat.zero_add, Nat.reduceAdd] at hr
      have hck := check_any _ _ _ hr
      have hfl : 65535 - nrm (bsum [hd, [0, 0], zs].flatten) = ck := by
        rw [HCK.out]; simp
      rw [hfl] at hck
      have HCHK := Lib.hid hck
      have hcb := HCB.out
      clear hr hck hfl
      go_wp2_with fail
      refine HCHK.out.mono ?_
      rintro e w2 ⟨rfl, hg2⟩
      have hg2' : Grow w1 w2 := Grow.trans (((Grow.refl w1).alloc _).alloc _) hg2
      have hsz2 := hg2'.size
      have hpc := put_closure (s := 2) (n := ck) (ys := be2 ck) (fun y => put2 _ y hcb) (HP1.out.grow hg2') (by omega) (by omega) (by have := HG1.out.size; have := HSX.out; omega) (by rw [HDL.out]; omega) (by rw [be2_length]; omega)
      have HPC2 := Lib.hid hpc
      have HG2 := Lib.hid (HG1.out.trans (grow_but hg2'))
      clear hpc hg2 hg2' hsz2 c0 f8' hlt1 hne1
      go_wp2_with fail
      refine HPC2.out.mono ?_
      rintro e w3 ⟨rfl, hp3, hg3⟩
      have HG3 := Lib.hid (HG2.out.trans hg3)
      have hF3 := (HG3.out.block _ (lt_of_block hF.out) (fun hm => by have := hm.1; omega)).trans hF.out
      obtain ⟨_, _, _, _, f8⟩ := blkF hF3
      obtain ⟨vv, hv1, hv2, hv3, hv4⟩ := hp3
      have c0 := cell_of_one hv1
      obtain ⟨ao3, cp3, rfl, hq1, hq2⟩ := (ints_of_owns hv2).shape
      have HO3 := Lib.hid hv2
      have HL3 : Hid ((hd ++ be2 ck).length = 54) := by show _ = _; rw [List.length_append, HDL.out, be2_length]
      have HBody3 := Lib.hid (HBody.out.mono (mv_below HGX.out HG3.out (by omega)))
      have hle : w.heap.size + 1 ≤ w3.heap.size := by have := HG3.out.size; have := HSX.out; omega
      rw [HL3.out] at c0 HO3
      clear hv1 hv2 hv3 hv4 hg3 hF3 hq1 hq2 hcb
      go_wp2_with (at_builtin; refine wpList_append_ints (k := .u8) rfl _ _ 26 rfl (w.heap.size + 1) 5 i0 1 Try.underlying26 hi hz0 hz1 hz2 _ 54 _ rfl HO3.out _ zs rfl HBody3.out.2 ?c3 ?c4 hle ?_)
      case c3 => unfold maxLen; omega
      case c4 => omega
      · intro v' w4 hown hgrow
        have HR : Hid (NewBytes w fb v' w4) := by
          have hg4 : GrowBut (Mv (w.heap.size + 1) (w.heap.size + 1 + 1 + 1)) w3 w4 ∨ True := Or.inr trivial
          refine ⟨?_, ?_⟩
          · rw [HFB.out]
            have h5 := own_base hown (Nat.le_succ w.heap.size)
            have e : 54 + zs.length = (hd ++ be2 ck ++ zs).length := by rw [List.length_append, HL3.out]
            rw [← e]
            simpa [List.map_append, List.append_assoc] using h5
          · have h1 := mv_below HGX.out HG3.out (by omega)
            exact Below.grown h1 hgrow h1.size (fun j hj => by have := (HO3.out.lt j hj).1; omega)
        clear hown hgrow
        go_wp2_with fail
        go_ret
        exact ⟨_, rfl, HR.out⟩
end Go.Proofs.Ytiphhjipgjpepaa
