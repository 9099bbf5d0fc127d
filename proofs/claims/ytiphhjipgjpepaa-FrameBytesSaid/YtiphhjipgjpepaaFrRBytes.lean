/- A frame's bytes, as the document has it. -/
import Derived.Test.YtiphhjipgjpepaaFrRPut
import Derived.Test.YtiphhjipgjpepaaFrBytes
import Derived.Test.YtiphhjipgjpepaaFrSumJoin
import Derived.Test.YtiphhjipgjpepaaFrSumRef
import Derived.Test.YtiphhjipgjpepaaDrawnMore
set_option linter.unusedVariables false
set_option linter.unusedSimpArgs false
namespace Go.Proofs.Ytiphhjipgjpepaa
open Go.RowKit

theorem rows_stay (rows : List (List Int)) : ∀ (u : Value) (w w' : World), GrowBut NoBlock w w' → RowsV w u rows → RowsV w' u rows := fun _ _ _ h hr => hr.mono h.below

theorem own_row {w : World} {base : Nat} {e : TypeId} {v : Value} {n : Nat} {xs : List Value} (h : w.ownsRow base e 1 v n xs) (hn : 0 < n) :
    ∃ g cap cur, v = .slice (some ⟨g, 0, none⟩) n cap ∧ base ≤ g ∧ w.heap[g]? = some (.cells cur e (0, 0)) ∧ n ≤ cap ∧ cap ≤ maxLen ∧ cur.size = cap ∧ cur.toList.take n = xs := by
  obtain ⟨h1, h2⟩ := h
  rcases h2 with ⟨_, h2⟩ | ⟨g, cap, cur, e1, e2, e3, e4, e5, e6, e7⟩
  · omega
  · exact ⟨g, cap, cur, e1, e2, e3, e4, e5, by simpa using e6, by simpa using e7⟩
theorem own_of_row {w : World} {base g cap n : Nat} {e : TypeId} {cur : Array Value} {xs : List Value} (e2 : base ≤ g) (e3 : w.heap[g]? = some (.cells cur e (0, 0))) (e4 : n ≤ cap) (e5 : cap ≤ maxLen) (e6 : cur.size = cap) (e7 : cur.toList.take n = xs) :
    w.ownsRow base e 1 (.slice (some ⟨g, 0, none⟩) n cap) n xs := by
  refine ⟨?_, Or.inr ⟨g, cap, cur, rfl, e2, e3, e4, e5, by simpa using e6, by simpa using e7⟩⟩
  rw [← e7, List.length_take]
  simp only [Array.length_toList]
  omega

def OwnR (base : Nat) (zs : List Int) (u : Value) (x : World) : Prop := x.ownsRow base 5 1 u zs.length (zs.map (Value.int .u8))

/-- Two bytes of a row are turned. -/
theorem splice_take {α : Type} (l cs : List α) (off n : Nat) (h : off + cs.length ≤ n) (h2 : n ≤ l.length) : (splice l off cs).take n = (l.take n).take off ++ cs ++ (l.take n).drop (off + cs.length) := by
  unfold splice
  rw [List.take_append, List.take_append, List.take_take, List.take_take, List.length_take, show min n off = off by omega, show min off l.length = off by omega, show min off n = off by omega, List.take_of_length_le (show cs.length ≤ n - off by omega), List.append_assoc]
  congr 2
  rw [List.drop_take]
  congr 1
  omega

theorem fb_splice {hd zs : List Int} {c : List Int} (h : hd.length = 52) (h2 : c.length = 2) : (hd ++ ([0, 0] ++ zs)).take 52 ++ c ++ (hd ++ ([0, 0] ++ zs)).drop (52 + c.length) = hd ++ c ++ zs := by
  rw [List.take_append_of_le_length (by omega), List.take_of_length_le (by omega), h2]
  congr 1
  rw [List.drop_append, h, List.drop_eq_nil_of_le (by omega)]
  rfl

set_option maxRecDepth 100000 in
set_option maxHeartbeats 4000000 in
theorem rfbytes_any (f : Fr) (w : World) (hok : FrOk w f) (hlen : f.zs.length ≤ 5000) :
    Calls Try.prog 12 #[f.val] w fun e w' => ∃ u, e = .returned u ∧ NewBytes w (frB f) u w' := by
  obtain ⟨rows, hrows⟩ : ∃ rows, [[f.kind % 256, f.node % 256], be8 f.mb, be8 f.mt, be8 f.tb, be8 f.tt, be8 f.sq, be8 f.ak, be2 f.zs.length, [0, 0], f.zs] = rows := ⟨_, rfl⟩
  obtain ⟨fb0, hfb0⟩ : ∃ l, hdB f ++ ([0, 0] ++ f.zs) = l := ⟨_, rfl⟩
  have hfl : rows.flatten = fb0 := by
    rw [← hrows, ← hfb0]
    simp [hdB, hdTo, Fr.nums]
  have HFB : Hid (frB f = fb0.take 52 ++ be2 (chkF f) ++ fb0.drop (52 + (be2 (chkF f)).length)) := by
    show _ = _
    rw [← hfb0, fb_splice (hdB_length f) (be2_length _)]
    rfl
  have HL0 : Hid (fb0.length = 54 + f.zs.length) := by show _ = _; rw [← hfb0, List.length_append, List.length_append, hdB_length]; simp; omega
  have HBy0 : Hid (Bytes fb0) := by
    rw [← hfb0]
    exact (hdB_bytes f).append (Bytes.append (by unfold Bytes; decide) hok.body.1)
  have HCK : Hid (65535 - nrm (bsum fb0) = chkF f) := by show _ = _; rw [← hfb0]; rfl
  have HCB := Lib.hid (chkF_bd f)
  have HROW := Lib.hid hrows
  have HFLAT : Hid (rows.flatten = fb0) := hfl
  obtain ⟨c2, hc2⟩ : ∃ l, be2 (chkF f) = l := ⟨_, rfl⟩
  have HC2 := Lib.hid hc2
  rw [hc2] at HFB
  have HC2L : Hid (c2.length = 2) := by show _ = _; rw [← hc2]; exact be2_length _
  clear hfl hfb0 hrows hc2
  generalize frB f = fb at *
  generalize chkF f = ck at *
  obtain ⟨kd, nd, mb, mt, tb, tt, sq, ak, v, zs⟩ := f
  obtain ⟨ok1, ok2, ok3, ok4, ok5, ok6, ok7, ok8, okb⟩ := hok
  dsimp only at *
  obtain ⟨ao, cap, rfl, hlc, hcm⟩ := okb.shape
  simp only [Fr.val, Fr.cells, frCells] at *
  have HBody := Lib.hid okb
  unfold maxLen at hcm
  obtain ⟨m, hm⟩ : ∃ m, zs.length = m := ⟨_, rfl⟩
  rw [hm] at HROW HL0 hlen hlc okb HBody
  rw [hm]
  have HM := Lib.hid hm
  have HM5 := Lib.hid hlen
  have hwm : IntKind.u64.wrap (m : Int) = (m : Int) := by simp [IntKind.wrap, IntKind.signed, IntKind.bits]; omega
  have P8 : Hid (∀ (n : Int) x, U64 n → Calls Try.prog 32 #[.int .u64 n, .int .i64 8] x fun e w' => ∃ v, e = .returned v ∧ NewBytes x (be8 n) v w') := fun n x h => by rw [← bel8]; exact rput_any n 8 x h (by omega) (by omega)
  have P2 : Hid (∀ (n : Int) x, (0 ≤ n ∧ n < 65536) → Calls Try.prog 32 #[.int .u64 n, .int .i64 2] x fun e w' => ∃ v, e = .returned v ∧ NewBytes x (be2 n) v w') := fun n x h => by rw [← bel2]; exact rput_any n 2 x (by omega) (by omega) (by omega)
  have HOKS : Hid (U64 mb ∧ U64 mt ∧ U64 tb ∧ U64 tt ∧ U64 sq ∧ U64 ak ∧ (0 ≤ (m : Int) ∧ (m : Int) < 65536)) := ⟨ok3, ok4, ok5, ok6, ok7, ok8, by omega, by omega⟩
  have hFm := heap_alloc_new w (.cells #[.int .i64 kd, .int .i64 nd, .int .u64 mb, .int .u64 mt, .int .u64 tb, .int .u64 tt, .int .u64 sq, .int .u64 ak, .slice ao m cap] 28)
  have HF := Lib.hid hFm
  have HW : Hid (Grow w (w.alloc (.cells #[.int .i64 kd, .int .i64 nd, .int .u64 mb, .int .u64 mt, .int .u64 tb, .int .u64 tt, .int .u64 sq, .int .u64 ak, .slice ao m cap] 28))) := (Grow.refl w).alloc _
  clear ok1 ok2 ok3 ok4 ok5 ok6 ok7 ok8 okb hFm hm
  generalize hwX : w.alloc (.cells #[.int .i64 kd, .int .i64 nd, .int .u64 mb, .int .u64 mt, .int .u64 tb, .int .u64 tt, .int .u64 sq, .int .u64 ak, .slice ao m cap] 28) = wX at *
  have HXX := Lib.hid hwX
  clear hwX
  go_enter Try.func12, Try.ntmps12
  go_wp2_with fail
  rw [HXX.out]
  clear HXX
  refine wp_region_grow 39 [] NoBlock (fun _ => True) (by kernel_rfl) (by kernel_rfl) (by rfl) (fun _ _ _ _ => trivial) trivial ?_
  simp only [List.take_succ_cons, List.take_zero, List.drop_succ_cons, List.drop_zero]
  repeat (refine wpH_pure (by intro _ _ h; cases h) (by rfl) (by rfl) (fun K hK => ?_); go_simp; refine hK _ ?_; clear hK K)
  refine wpH_det' (.int .i64 kd) (by intro _ _ h; cases h) (by rfl) (by rfl) (by rfl) (fun w' hg => ?_) ?_
  · obtain ⟨⟨y0, y1, y2, y3, y4⟩, y5, y6, y7, y8⟩ := blkF ((hg.below.block _ (lt_of_block HF.out)).trans HF.out)
    clear hg
    go_simp
    exact Below.refl _ _
  try go_simp
  repeat (refine wpH_pure (by intro _ _ h; cases h) (by rfl) (by rfl) (fun K hK => ?_); go_simp; refine hK _ ?_; clear hK K)
  refine wpH_det' (.int .i64 nd) (by intro _ _ h; cases h) (by rfl) (by rfl) (by rfl) (fun w' hg => ?_) ?_
  · obtain ⟨⟨y0, y1, y2, y3, y4⟩, y5, y6, y7, y8⟩ := blkF ((hg.below.block _ (lt_of_block HF.out)).trans HF.out)
    clear hg
    go_simp
    exact Below.refl _ _
  try go_simp
  repeat (refine wpH_pure (by intro _ _ h; cases h) (by rfl) (by rfl) (fun K hK => ?_); go_simp; refine hK _ ?_; clear hK K)
  refine wpH_hid' (fun u x => BytesV x u [kd % 256, nd % 256]) (by intro _ _ h; cases h) rfl (by rfl) (bytes_stay _) (by rfl) (by rfl) (fun w' hg => ?_) ?_
  · clear hg
    have h := Lib.hid (bytes_new (w := w') [.int .u8 (kd % 256), .int .u8 (nd % 256)] [kd % 256, nd % 256] 5 rfl (by intro z hz; simp at hz; rcases hz with rfl | rfl <;> omega) (by simp [maxLen]))
    go_simp
    exact ⟨h.out, (Below.refl _ _).alloc (Nat.le_refl _) _⟩
  try go_simp
  repeat (refine wpH_pure (by intro _ _ h; cases h) (by rfl) (by rfl) (fun K hK => ?_); go_simp; refine hK _ ?_; clear hK K)
  refine wpH_det' (.int .u64 mb) (by intro _ _ h; cases h) (by rfl) (by rfl) (by rfl) (fun w' hg => ?_) ?_
  · obtain ⟨⟨y0, y1, y2, y3, y4⟩, y5, y6, y7, y8⟩ := blkF ((hg.below.block _ (lt_of_block HF.out)).trans HF.out)
    clear hg
    go_simp
    exact Below.refl _ _
  try go_simp
  repeat (refine wpH_pure (by intro _ _ h; cases h) (by rfl) (by rfl) (fun K hK => ?_); go_simp; refine hK _ ?_; clear hK K)
  refine wpH_hid' (fun u x => BytesV x u (be8 mb)) (by intro _ _ h; cases h) rfl (by rfl) (bytes_stay _) (by rfl) (by rfl) (fun w' hg => ?_) ?_
  · have h := P8.out _ w' HOKS.out.1
    clear hg
    go_simp
    with_reducible refine h.mono ?_
    rintro e w1 ⟨v, rfl, h⟩
    exact ⟨_, rfl, newb_bytes h (be8_bytes _), h.2⟩
  try go_simp
  repeat (refine wpH_pure (by intro _ _ h; cases h) (by rfl) (by rfl) (fun K hK => ?_); go_simp; refine hK _ ?_; clear hK K)
  refine wpH_det' (.int .u64 mt) (by intro _ _ h; cases h) (by rfl) (by rfl) (by rfl) (fun w' hg => ?_) ?_
  · obtain ⟨⟨y0, y1, y2, y3, y4⟩, y5, y6, y7, y8⟩ := blkF ((hg.below.block _ (lt_of_block HF.out)).trans HF.out)
    clear hg
    go_simp
    exact Below.refl _ _
  try go_simp
  repeat (refine wpH_pure (by intro _ _ h; cases h) (by rfl) (by rfl) (fun K hK => ?_); go_simp; refine hK _ ?_; clear hK K)
  refine wpH_hid' (fun u x => BytesV x u (be8 mt)) (by intro _ _ h; cases h) rfl (by rfl) (bytes_stay _) (by rfl) (by rfl) (fun w' hg => ?_) ?_
  · have h := P8.out _ w' HOKS.out.2.1
    clear hg
    go_simp
    with_reducible refine h.mono ?_
    rintro e w1 ⟨v, rfl, h⟩
    exact ⟨_, rfl, newb_bytes h (be8_bytes _), h.2⟩
  try go_simp
  repeat (refine wpH_pure (by intro _ _ h; cases h) (by rfl) (by rfl) (fun K hK => ?_); go_simp; refine hK _ ?_; clear hK K)
  refine wpH_det' (.int .u64 tb) (by intro _ _ h; cases h) (by rfl) (by rfl) (by rfl) (fun w' hg => ?_) ?_
  · obtain ⟨⟨y0, y1, y2, y3, y4⟩, y5, y6, y7, y8⟩ := blkF ((hg.below.block _ (lt_of_block HF.out)).trans HF.out)
    clear hg
    go_simp
    exact Below.refl _ _
  try go_simp
  repeat (refine wpH_pure (by intro _ _ h; cases h) (by rfl) (by rfl) (fun K hK => ?_); go_simp; refine hK _ ?_; clear hK K)
  refine wpH_hid' (fun u x => BytesV x u (be8 tb)) (by intro _ _ h; cases h) rfl (by rfl) (bytes_stay _) (by rfl) (by rfl) (fun w' hg => ?_) ?_
  · have h := P8.out _ w' HOKS.out.2.2.1
    clear hg
    go_simp
    with_reducible refine h.mono ?_
    rintro e w1 ⟨v, rfl, h⟩
    exact ⟨_, rfl, newb_bytes h (be8_bytes _), h.2⟩
  try go_simp
  repeat (refine wpH_pure (by intro _ _ h; cases h) (by rfl) (by rfl) (fun K hK => ?_); go_simp; refine hK _ ?_; clear hK K)
  refine wpH_det' (.int .u64 tt) (by intro _ _ h; cases h) (by rfl) (by rfl) (by rfl) (fun w' hg => ?_) ?_
  · obtain ⟨⟨y0, y1, y2, y3, y4⟩, y5, y6, y7, y8⟩ := blkF ((hg.below.block _ (lt_of_block HF.out)).trans HF.out)
    clear hg
    go_simp
    exact Below.refl _ _
  try go_simp
  repeat (refine wpH_pure (by intro _ _ h; cases h) (by rfl) (by rfl) (fun K hK => ?_); go_simp; refine hK _ ?_; clear hK K)
  refine wpH_hid' (fun u x => BytesV x u (be8 tt)) (by intro _ _ h; cases h) rfl (by rfl) (bytes_stay _) (by rfl) (by rfl) (fun w' hg => ?_) ?_
  · have h := P8.out _ w' HOKS.out.2.2.2.1
    clear hg
    go_simp
    with_reducible refine h.mono ?_
    rintro e w1 ⟨v, rfl, h⟩
    exact ⟨_, rfl, newb_bytes h (be8_bytes _), h.2⟩
  try go_simp
  repeat (refine wpH_pure (by intro _ _ h; cases h) (by rfl) (by rfl) (fun K hK => ?_); go_simp; refine hK _ ?_; clear hK K)
  refine wpH_det' (.int .u64 sq) (by intro _ _ h; cases h) (by rfl) (by rfl) (by rfl) (fun w' hg => ?_) ?_
  · obtain ⟨⟨y0, y1, y2, y3, y4⟩, y5, y6, y7, y8⟩ := blkF ((hg.below.block _ (lt_of_block HF.out)).trans HF.out)
    clear hg
    go_simp
    exact Below.refl _ _
  try go_simp
  repeat (refine wpH_pure (by intro _ _ h; cases h) (by rfl) (by rfl) (fun K hK => ?_); go_simp; refine hK _ ?_; clear hK K)
  refine wpH_hid' (fun u x => BytesV x u (be8 sq)) (by intro _ _ h; cases h) rfl (by rfl) (bytes_stay _) (by rfl) (by rfl) (fun w' hg => ?_) ?_
  · have h := P8.out _ w' HOKS.out.2.2.2.2.1
    clear hg
    go_simp
    with_reducible refine h.mono ?_
    rintro e w1 ⟨v, rfl, h⟩
    exact ⟨_, rfl, newb_bytes h (be8_bytes _), h.2⟩
  try go_simp
  repeat (refine wpH_pure (by intro _ _ h; cases h) (by rfl) (by rfl) (fun K hK => ?_); go_simp; refine hK _ ?_; clear hK K)
  refine wpH_det' (.int .u64 ak) (by intro _ _ h; cases h) (by rfl) (by rfl) (by rfl) (fun w' hg => ?_) ?_
  · obtain ⟨⟨y0, y1, y2, y3, y4⟩, y5, y6, y7, y8⟩ := blkF ((hg.below.block _ (lt_of_block HF.out)).trans HF.out)
    clear hg
    go_simp
    exact Below.refl _ _
  try go_simp
  repeat (refine wpH_pure (by intro _ _ h; cases h) (by rfl) (by rfl) (fun K hK => ?_); go_simp; refine hK _ ?_; clear hK K)
  refine wpH_hid' (fun u x => BytesV x u (be8 ak)) (by intro _ _ h; cases h) rfl (by rfl) (bytes_stay _) (by rfl) (by rfl) (fun w' hg => ?_) ?_
  · have h := P8.out _ w' HOKS.out.2.2.2.2.2.1
    clear hg
    go_simp
    with_reducible refine h.mono ?_
    rintro e w1 ⟨v, rfl, h⟩
    exact ⟨_, rfl, newb_bytes h (be8_bytes _), h.2⟩
  try go_simp
  repeat (refine wpH_pure (by intro _ _ h; cases h) (by rfl) (by rfl) (fun K hK => ?_); go_simp; refine hK _ ?_; clear hK K)
  refine wpH_det' (.slice ao m cap) (by intro _ _ h; cases h) (by rfl) (by rfl) (by rfl) (fun w' hg => ?_) ?_
  · obtain ⟨⟨y0, y1, y2, y3, y4⟩, y5, y6, y7, y8⟩ := blkF ((hg.below.block _ (lt_of_block HF.out)).trans HF.out)
    clear hg
    go_simp
    exact Below.refl _ _
  try go_simp
  repeat (refine wpH_pure (by intro _ _ h; cases h) (by rfl) (by rfl) (fun K hK => ?_); go_simp; refine hK _ ?_; clear hK K)
  refine wpH_hid' (fun u x => BytesV x u (be2 m)) (by intro _ _ h; cases h) rfl (by rfl) (bytes_stay _) (by rfl) (by rfl) (fun w' hg => ?_) ?_
  · have h := P2.out _ w' HOKS.out.2.2.2.2.2.2
    clear hg
    go_simp
    with_reducible refine h.mono ?_
    rintro e w1 ⟨v, rfl, h⟩
    exact ⟨_, rfl, newb_bytes h (be2_bytes _), h.2⟩
  try go_simp
  repeat (refine wpH_pure (by intro _ _ h; cases h) (by rfl) (by rfl) (fun K hK => ?_); go_simp; refine hK _ ?_; clear hK K)
  refine wpH_hid' (fun u x => BytesV x u [0, 0]) (by intro _ _ h; cases h) rfl (by rfl) (bytes_stay _) (by rfl) (by rfl) (fun w' hg => ?_) ?_
  · clear hg
    have h := Lib.hid (bytes_new (w := w') [.int .u8 (0), .int .u8 (0)] [0, 0] 5 rfl (by intro z hz; simp at hz; rcases hz with rfl | rfl <;> omega) (by simp [maxLen]))
    go_simp
    exact ⟨h.out, (Below.refl _ _).alloc (Nat.le_refl _) _⟩
  try go_simp
  repeat (refine wpH_pure (by intro _ _ h; cases h) (by rfl) (by rfl) (fun K hK => ?_); go_simp; refine hK _ ?_; clear hK K)
  refine wpH_det' (.slice ao m cap) (by intro _ _ h; cases h) (by rfl) (by rfl) (by rfl) (fun w' hg => ?_) ?_
  · obtain ⟨⟨y0, y1, y2, y3, y4⟩, y5, y6, y7, y8⟩ := blkF ((hg.below.block _ (lt_of_block HF.out)).trans HF.out)
    clear hg
    go_simp
    exact Below.refl _ _
  try go_simp
  repeat (refine wpH_pure (by intro _ _ h; cases h) (by rfl) (by rfl) (fun K hK => ?_); go_simp; refine hK _ ?_; clear hK K)
  refine wpH_hid (fun u x => RowsV x u rows) rfl (by rfl) (rows_stay _) (fun xs => by rfl) (fun xs w' hg hf => ?_) ?_
  · have h38 := hf _ (List.Mem.head _) (by rfl)
    try dsimp only at h38
    have h37 := hf _ (List.Mem.tail _ (List.Mem.head _)) (by rfl)
    try dsimp only at h37
    have h32 := hf _ (List.Mem.tail _ (List.Mem.tail _ (List.Mem.head _))) (by rfl)
    try dsimp only at h32
    have h29 := hf _ (List.Mem.tail _ (List.Mem.tail _ (List.Mem.tail _ (List.Mem.head _)))) (by rfl)
    try dsimp only at h29
    have h26 := hf _ (List.Mem.tail _ (List.Mem.tail _ (List.Mem.tail _ (List.Mem.tail _ (List.Mem.head _))))) (by rfl)
    try dsimp only at h26
    have h22 := hf _ (List.Mem.tail _ (List.Mem.tail _ (List.Mem.tail _ (List.Mem.tail _ (List.Mem.tail _ (List.Mem.head _)))))) (by rfl)
    try dsimp only at h22
    have h18 := hf _ (List.Mem.tail _ (List.Mem.tail _ (List.Mem.tail _ (List.Mem.tail _ (List.Mem.tail _ (List.Mem.tail _ (List.Mem.head _))))))) (by rfl)
    try dsimp only at h18
    have h14 := hf _ (List.Mem.tail _ (List.Mem.tail _ (List.Mem.tail _ (List.Mem.tail _ (List.Mem.tail _ (List.Mem.tail _ (List.Mem.tail _ (List.Mem.head _)))))))) (by rfl)
    try dsimp only at h14
    have h10 := hf _ (List.Mem.tail _ (List.Mem.tail _ (List.Mem.tail _ (List.Mem.tail _ (List.Mem.tail _ (List.Mem.tail _ (List.Mem.tail _ (List.Mem.tail _ (List.Mem.head _))))))))) (by rfl)
    try dsimp only at h10
    have hb := HBody.out.mono (HW.out.trans hg.below)
    clear hf hg
    simp only [fill]
    generalize xs 10 = y10 at *
    generalize xs 14 = y14 at *
    generalize xs 18 = y18 at *
    generalize xs 22 = y22 at *
    generalize xs 26 = y26 at *
    generalize xs 29 = y29 at *
    generalize xs 32 = y32 at *
    generalize xs 37 = y37 at *
    generalize xs 38 = y38 at *
    obtain ⟨a10, b10, rfl, _, _⟩ := h10.shape
    obtain ⟨a14, b14, rfl, _, _⟩ := h14.shape
    obtain ⟨a18, b18, rfl, _, _⟩ := h18.shape
    obtain ⟨a22, b22, rfl, _, _⟩ := h22.shape
    obtain ⟨a26, b26, rfl, _, _⟩ := h26.shape
    obtain ⟨a29, b29, rfl, _, _⟩ := h29.shape
    obtain ⟨a32, b32, rfl, _, _⟩ := h32.shape
    obtain ⟨a37, b37, rfl, _, _⟩ := h37.shape
    obtain ⟨a38, b38, rfl, _, _⟩ := h38.shape
    have hr := rows_new (w := w') [(.slice a10 2 b10), (.slice a14 (be8 mb).length b14), (.slice a18 (be8 mt).length b18), (.slice a22 (be8 tb).length b22), (.slice a26 (be8 tt).length b26), (.slice a29 (be8 sq).length b29), (.slice a32 (be8 ak).length b32), (.slice a37 (be2 m).length b37), (.slice a38 2 b38), (.slice ao m cap)] [[kd % 256, nd % 256], be8 mb, be8 mt, be8 tb, be8 tt, be8 sq, be8 ak, be2 m, [0, 0], zs] 26 rfl (by simp [maxLen]) (fun i x hx => by
      match i, hx with
      | 0, hx => simp at hx; subst hx; exact h10
      | 1, hx => simp at hx; subst hx; exact h14
      | 2, hx => simp at hx; subst hx; exact h18
      | 3, hx => simp at hx; subst hx; exact h22
      | 4, hx => simp at hx; subst hx; exact h26
      | 5, hx => simp at hx; subst hx; exact h29
      | 6, hx => simp at hx; subst hx; exact h32
      | 7, hx => simp at hx; subst hx; exact h37
      | 8, hx => simp at hx; subst hx; exact h38
      | 9, hx => simp at hx; subst hx; exact hb)
    rw [HROW.out] at hr
    have HR := Lib.hid hr
    clear hr hb h10 h14 h18 h22 h26 h29 h32 h37 h38
    go_simp
    exact ⟨HR.out, (Below.refl _ _).alloc (Nat.le_refl _) _⟩
  try go_simp
  refine wpH_hid (OwnR w.heap.size fb0) rfl (by rfl) (fun u x x' hg h => own_grow h hg.below) (fun xs => by rfl) (fun xs w' hg hf => ?_) ?_
  · have h1 := hf _ (List.Mem.head _) (by rfl)
    try dsimp only at h1
    have hs := (HW.out.trans hg.below).size
    have h := join_any _ rows w' h1 (by rw [HFLAT.out]; exact HBy0.out) (by rw [HFLAT.out, HL0.out]; omega)
    rw [HFLAT.out] at h
    clear hf hg h1
    simp only [fill]
    generalize xs 41 = y41 at *
    go_simp
    refine h.mono ?_
    rintro e w1 ⟨v, rfl, h⟩
    exact ⟨_, rfl, own_base h.1 hs, h.2⟩
  try go_simp
  refine wpH_nil ?_
  intro xs w2 hg hx1 hx2
  have hy := hx2 _ _ (List.Mem.head _)
  try dsimp only at hy
  clear hx1 hx2
  have HG2 := Lib.hid (HW.out.trans hg.below)
  clear hg
  simp only [fill]
  generalize xs 42 = y at *
  generalize xs 41 = y41
  generalize xs 10 = y10
  generalize xs 14 = y14
  generalize xs 18 = y18
  generalize xs 22 = y22
  generalize xs 26 = y26
  generalize xs 29 = y29
  generalize xs 32 = y32
  generalize xs 37 = y37
  generalize xs 38 = y38
  obtain ⟨g, cp, cur, rfl, hbg, hcur, hncp, hcpm, hcsz, hct⟩ := own_row hy (by rw [HL0.out]; omega)
  have hiv : BytesV w2 (.slice (some ⟨g, 0, none⟩) fb0.length cp) fb0 := ⟨HBy0.out, ints_of_owns hy⟩
  rw [HL0.out] at hncp hiv hct ⊢
  have HIV := Lib.hid hiv
  have HBG := Lib.hid hbg
  have HCUR := Lib.hid hcur
  have HCS := Lib.hid hcsz
  have HCT := Lib.hid hct
  have HCPM := Lib.hid hcpm
  unfold maxLen at hcpm
  obtain ⟨L, hL⟩ : ∃ L : Nat, 54 + m = L := ⟨_, rfl⟩
  have HLm := Lib.hid hL
  rw [hL] at HIV HCT hncp ⊢
  have i1 : (54 : Int) ≤ (cp : Int) := by omega
  have i2 : (L : Int) ≤ (cp : Int) := by omega
  have hck := refCheck_any _ fb0 w2 HIV.out (by rw [HL0.out]; omega)
  rw [HCK.out] at hck
  clear hy hiv hbg hcur hcsz hct hL hck
  go_simp
  go_wp2_with fail
  have hwk : IntKind.u64.wrap ck = ck := by have := HCB.out; simp [IntKind.wrap, IntKind.signed, IntKind.bits]; omega
  refine wp_region_grow 6 [] NoBlock (fun _ => True) (by kernel_rfl) (by kernel_rfl) (by rfl) (fun _ _ _ _ => trivial) trivial ?_
  simp only [List.take_succ_cons, List.take_zero, List.drop_succ_cons, List.drop_zero]
  repeat (refine wpH_pure (by intro _ _ h; cases h) (by rfl) (by rfl) (fun K hK => ?_); go_simp; refine hK _ ?_; clear hK K)
  refine wpH_det' (.int .u16 ck) (by intro _ _ h; cases h) (by rfl) (by rfl) (by rfl) (fun w' hg => ?_) ?_
  · have hck := refCheck_any _ fb0 w' (HIV.out.mono hg.below) (by rw [HL0.out]; have := HM5.out; omega)
    rw [HCK.out] at hck
    clear hg
    go_simp
    with_reducible refine hck.mono ?_
    rintro e w1 ⟨rfl, h⟩
    exact ⟨_, rfl, rfl, h⟩
  try go_simp
  repeat (refine wpH_pure (by intro _ _ h; cases h) (by rfl) (by rfl) (fun K hK => ?_); go_simp; refine hK _ ?_; clear hK K)
  refine wpH_hid' (fun u x => BytesV x u c2) (by intro _ _ h; cases h) rfl (by rfl) (bytes_stay _) (by rfl) (by rfl) (fun w' hg => ?_) ?_
  · have h := P2.out ck w' HCB.out
    rw [HC2.out] at h
    clear hg
    go_simp
    with_reducible refine h.mono ?_
    rintro e w1 ⟨v, rfl, h⟩
    exact ⟨_, rfl, newb_bytes h (by rw [← HC2.out]; exact be2_bytes _), h.2⟩
  try go_simp
  refine wpH_nil ?_
  intro xs w3 hg hx1 hx2
  have hy := hx2 _ _ (List.Mem.head _)
  try dsimp only at hy
  clear hx1 hx2
  have HG3 := Lib.hid (HG2.out.trans hg.below)
  have hcur3 := (hg.below.block _ (lt_of_block HCUR.out)).trans HCUR.out
  clear hg
  simp only [fill]
  generalize xs 48 = y48 at *
  obtain ⟨b48, o48, c48, rfl, _, _⟩ := hy.2.solid (fun e => by have := HC2L.out; rw [e] at this; cases this)
  have HY := Lib.hid hy
  have hcells := hy.2.cells
  rw [HC2L.out] at hcells ⊢
  have HCC := Lib.hid hcells
  obtain ⟨cs, hcs⟩ : ∃ cs : List Value, c2.map (Value.int .u8) = cs := ⟨_, rfl⟩
  have HCSE := Lib.hid hcs
  have HCSL : Hid (cs.length = 2) := by show _ = _; rw [← hcs, List.length_map]; exact HC2L.out
  obtain ⟨cl, hcl⟩ : ∃ cl : List Value, cur.toList = cl := ⟨_, rfl⟩
  have HCLL : Hid (cl.length = cp) := by show _ = _; rw [← hcl]; simpa using HCS.out
  have hcur4 : w3.heap[g]? = some (.cells cl.toArray 5 (0, 0)) := by rw [← hcl]; simpa using hcur3
  have HCUR4 := Lib.hid hcur4
  have HCLT : Hid (cl.take L = fb0.map (Value.int .u8)) := by have := HCT.out; rw [hcl] at this; exact this
  clear hy hcells hcur3 hcur4 hcs hcl HCUR HCT HCS
  go_simp
  refine wpList_copy_splice rfl _ _ 26 26 rfl 5 Try.underlying26 (by kernel_rfl) _ _ _ _ _ _ rfl rfl g 52 cl 5 HCUR4.out cs (by rw [HCSL.out]; rfl) (fun _ => ⟨if_neg (by omega), _, rfl, fun j v hj => ?_⟩) (by rw [HCSL.out, HCLL.out]; omega) (fun v hv => ?_) w.heap.size w HG3.out HBG.out ?_
  · have hj2 : j < 2 := by
      rcases Nat.lt_or_ge j 2 with h | h
      · exact h
      · rw [List.getElem?_eq_none (by rw [HCSL.out]; exact h)] at hj; cases hj
    rw [← HCSE.out, List.getElem?_map] at hj
    have hc := HCC.out j hj2
    have e : c2[j]? = some (c2.getD j 0) := by
      have : j < c2.length := by rw [HC2L.out]; exact hj2
      simp [this]
    rw [e] at hj
    simp only [Option.map_some, Option.some.injEq] at hj
    subst hj
    rw [Addr.add_lit]
    exact hc
  · rw [← HCSE.out] at hv
    obtain ⟨_, _, rfl⟩ := List.mem_map.1 hv
    rfl
  intro w4 HR4 hb4
  have hO4 : w4.ownsRow w.heap.size 5 1 (.slice (some ⟨g, 0, none⟩) L cp) L (fb.map (Value.int .u8)) := by
    refine own_of_row HBG.out HR4.out hncp HCPM.out ?_ ?_
    · simp only [List.size_toArray]
      rw [length_splice _ _ _ (by rw [HCSL.out, HCLL.out]; omega), HCLL.out]
    · simp only [List.toList_toArray]
      rw [splice_take _ _ _ _ (by rw [HCSL.out]; have := HLm.out; omega) (by rw [HCLL.out]; exact hncp), HCLT.out, ← HCSE.out, HFB.out, List.length_map, List.map_append, List.map_append, List.map_take, List.map_drop]
  have HLF : Hid (fb.length = L) := by show _ = _; rw [HFB.out, List.length_append, List.length_append, List.length_take, List.length_drop, HC2L.out, HL0.out]; have := HLm.out; omega
  have HRES : Hid (NewBytes w fb (.slice (some ⟨g, 0, none⟩) L cp) w4) := ⟨by rw [HLF.out]; exact hO4, hb4⟩
  clear hO4 hb4 HR4
  go_wp2_with fail
  go_ret
  exact ⟨_, rfl, HRES.out⟩
end Go.Proofs.Ytiphhjipgjpepaa
