/- A frame's update, whether it is of a session, which tags may be, and whether two frames are the same, is what the chapter says. For any two frames with at most 5000 bytes, any two tags. -/
import Derived.Test.YtiphhjipgjpepaaRows
import Derived.Test.YtiphhjipgjpepaaFrOpen
import Derived.Test.YtiphhjipgjpepaaFrSame2
import Derived.Test.YtiphhjipgjpepaaFrUpdate
import Derived.Test.YtiphhjipgjpepaaFrSesLaw
import Derived.WalkKit
import Derived.ProofKit
import Derived.OpenShut
import Derived.ShutString
import Derived.ChangeOld
import Derived.Below
set_option linter.unusedVariables false
namespace Go.Proofs.Ytiphhjipgjpepaa.frameLooks
open Go.ChangeShapes Go.WideShapes Go.ChangeAt Go.RowKit
open Go.ChangeMaps (open_string shut_string)
set_option linter.unusedSimpArgs false
theorem own : ownKnob Try.prog.godebug = none := by kernel_rfl
theorem laidOut : laidOutB Try.prog = true := by kernel_rfl


set_option maxRecDepth 100000 in
set_option maxHeartbeats 1000000 in
theorem long1 (f o : Fr) (a b c d : Int) (w : World) (hok1 : FrOk w f) (hok2 : FrOk w o) (hl : 5000 < f.zs.length) : Calls Try.prog 7 #[f.val, o.val, .agg #[.int .u64 a, .int .u64 b], .agg #[.int .u64 c, .int .u64 d]] w fun e w' => e = .returned (.bool true) ∧ Below w.heap.size w w' := by
  obtain ⟨kd, nd, mb, mt, tb, tt, sq, ak, v, zs⟩ := f
  obtain ⟨kd', nd', mb', mt', tb', tt', sq', ak', v', zs'⟩ := o
  obtain ⟨ao, cap, hv, h1, h2⟩ := hok1.body.shape
  obtain ⟨ao', cap', hv', h3, h4⟩ := hok2.body.shape
  dsimp only at *
  subst hv; subst hv'
  clear hok1 hok2
  simp only [Fr.val, Fr.cells, frCells] at *
  unfold maxLen at h2 h4
  generalize zs.length = m at *
  generalize zs'.length = m' at *
  have HW : Hid (Grow w ((((w.alloc (.cells #[.int .i64 kd, .int .i64 nd, .int .u64 mb, .int .u64 mt, .int .u64 tb, .int .u64 tt, .int .u64 sq, .int .u64 ak, .slice ao m cap] 28)).alloc (.cells #[.int .i64 kd', .int .i64 nd', .int .u64 mb', .int .u64 mt', .int .u64 tb', .int .u64 tt', .int .u64 sq', .int .u64 ak', .slice ao' m' cap'] 28)).alloc (.cells #[.int .u64 a, .int .u64 b] 25)).alloc (.cells #[.int .u64 c, .int .u64 d] 25))) := ((((Grow.refl w).alloc _).alloc _).alloc _).alloc _
  go_enter Try.func7, Try.ntmps7
  go_wp2_with fail
  refine (known_any _).mono ?_
  rintro e w1 ⟨rfl, hg⟩
  have HG := Lib.hid (HW.out.trans hg)
  clear hg
  go_wp2_with fail
  go_ret
  exact ⟨rfl, HG.out⟩

set_option maxRecDepth 100000 in
set_option maxHeartbeats 1000000 in
theorem long2 (f o : Fr) (a b c d : Int) (w : World) (hok1 : FrOk w f) (hok2 : FrOk w o) (hl : f.zs.length ≤ 5000) (hl2 : 5000 < o.zs.length) : Calls Try.prog 7 #[f.val, o.val, .agg #[.int .u64 a, .int .u64 b], .agg #[.int .u64 c, .int .u64 d]] w fun e w' => e = .returned (.bool true) ∧ Below w.heap.size w w' := by
  obtain ⟨kd, nd, mb, mt, tb, tt, sq, ak, v, zs⟩ := f
  obtain ⟨kd', nd', mb', mt', tb', tt', sq', ak', v', zs'⟩ := o
  obtain ⟨ao, cap, hv, h1, h2⟩ := hok1.body.shape
  obtain ⟨ao', cap', hv', h3, h4⟩ := hok2.body.shape
  dsimp only at *
  subst hv; subst hv'
  clear hok1 hok2
  simp only [Fr.val, Fr.cells, frCells] at *
  unfold maxLen at h2 h4
  generalize zs.length = m at *
  generalize zs'.length = m' at *
  have HW : Hid (Grow w ((((w.alloc (.cells #[.int .i64 kd, .int .i64 nd, .int .u64 mb, .int .u64 mt, .int .u64 tb, .int .u64 tt, .int .u64 sq, .int .u64 ak, .slice ao m cap] 28)).alloc (.cells #[.int .i64 kd', .int .i64 nd', .int .u64 mb', .int .u64 mt', .int .u64 tb', .int .u64 tt', .int .u64 sq', .int .u64 ak', .slice ao' m' cap'] 28)).alloc (.cells #[.int .u64 a, .int .u64 b] 25)).alloc (.cells #[.int .u64 c, .int .u64 d] 25))) := ((((Grow.refl w).alloc _).alloc _).alloc _).alloc _
  go_enter Try.func7, Try.ntmps7
  go_wp2_with fail
  refine (known_any _).mono ?_
  rintro e w1 ⟨rfl, hg⟩
  have HG := Lib.hid (HW.out.trans hg)
  clear hg
  go_wp2_with fail
  go_ret
  exact ⟨rfl, HG.out⟩

def Ask (fn : Nat) (args : Array Value) (v : Value) (w : World) : Prop := ∀ y, Grow w y → Calls Try.prog fn args y fun e w' => e = .returned v ∧ Grow y w'

set_option maxRecDepth 100000 in
set_option maxHeartbeats 2000000 in
theorem main (f o : Fr) (a b c d : Int) (w : World) (hok1 : FrOk w f) (hok2 : FrOk w o) (ha : 0 ≤ a) (hb : 0 ≤ b) (hl1 : f.zs.length ≤ 5000) (hl2 : o.zs.length ≤ 5000) : Calls Try.prog 7 #[f.val, o.val, .agg #[.int .u64 a, .int .u64 b], .agg #[.int .u64 c, .int .u64 d]] w fun e w' => e = .returned (.bool true) ∧ Below w.heap.size w w' := by
  obtain ⟨ua, ul, ud, hu⟩ : ∃ ua ul ud : Int, updR f = .agg #[.int .u32 ua, .int .i64 ul, .int .i64 ud] := by
    unfold updR
    split
    · obtain ⟨x, y, z, h⟩ := updCells3 f.zs
      exact ⟨x, y, z, by unfold updV; rw [h]⟩
    · exact ⟨0, 0, 0, rfl⟩
  have HU1 : Hid (Ask 22 #[f.val] (.tuple #[.agg #[.int .u32 ua, .int .i64 ul, .int .i64 ud], .bool (updOk f)]) w) := fun y hy => by have := fupd_any f y (hok1.mono hy); unfold SomeUpdF at this; rwa [hu] at this
  have HU2 : Hid (Ask 24 #[f.val] (.tuple #[.agg #[.int .u32 ua, .int .i64 ul, .int .i64 ud], .bool (updOk f)]) w) := fun y hy => by have := rupd_any f y (hok1.mono hy); unfold SomeUpdF at this; rwa [hu] at this
  have HS1 : Hid (Ask 17 #[f.val, .agg #[.int .u64 a, .int .u64 b], .agg #[.int .u64 c, .int .u64 d]] (.bool (sesF f a b c d)) w) := fun y hy => ses_any f a b c d y (hok1.mono hy)
  have HS2 : Hid (Ask 25 #[f.val, .agg #[.int .u64 a, .int .u64 b], .agg #[.int .u64 c, .int .u64 d]] (.bool (sesF f a b c d)) w) := fun y hy => rses_any f a b c d y (hok1.mono hy)
  have HT1 : Hid (Ask 18 #[.agg #[.int .u64 a, .int .u64 b]] (.bool (tagOk a b)) w) := fun y hy => by
    refine (maytag_any a b y).mono ?_
    rintro e w' ⟨rfl, rfl⟩
    exact ⟨rfl, (Grow.refl _).alloc _⟩
  have HT2 : Hid (Ask 26 #[.agg #[.int .u64 a, .int .u64 b]] (.bool (tagOk a b)) w) := fun y hy => by
    refine (rmaytag_any a b y ha hb).mono ?_
    rintro e w' ⟨rfl, rfl⟩
    exact ⟨rfl, ((Grow.refl _).alloc _).alloc _⟩
  have HE1 : Hid (Ask 27 #[f.val, o.val] (.bool (sameF f o)) w) := fun y hy => fsame_any f o y (hok1.mono hy) (hok2.mono hy) (by omega)
  have HE2 : Hid (Ask 16 #[f.val, o.val] (.bool (sameF f o)) w) := fun y hy => rsame_any f o y (hok1.mono hy) (hok2.mono hy)
  have HE3 : Hid (Ask 27 #[f.val, f.val] (.bool true) w) := fun y hy => by have := fsame_any f f y (hok1.mono hy) (hok1.mono hy) (by omega); rwa [sameF_refl] at this
  have HK : Hid (Ask 8 #[] (.bool true) w) := fun y hy => known_any y
  clear hu ha hb
  generalize updOk f = uo at *
  generalize sesF f a b c d = s at *
  generalize tagOk a b = t at *
  generalize sameF f o = q at *
  unfold Ask at HU1 HU2 HS1 HS2 HT1 HT2 HE1 HE2 HE3 HK
  obtain ⟨kd, nd, mb, mt, tb, tt, sq, ak, v, zs⟩ := f
  obtain ⟨kd', nd', mb', mt', tb', tt', sq', ak', v', zs'⟩ := o
  obtain ⟨ao, cap, hv, h1, h2⟩ := hok1.body.shape
  obtain ⟨ao', cap', hv', h3, h4⟩ := hok2.body.shape
  dsimp only at *
  subst hv; subst hv'
  clear hok1 hok2
  simp only [Fr.val, Fr.cells, frCells] at *
  unfold maxLen at h2 h4
  generalize zs.length = m at *
  generalize zs'.length = m' at *
  have HW : Hid (Grow w ((((w.alloc (.cells #[.int .i64 kd, .int .i64 nd, .int .u64 mb, .int .u64 mt, .int .u64 tb, .int .u64 tt, .int .u64 sq, .int .u64 ak, .slice ao m cap] 28)).alloc (.cells #[.int .i64 kd', .int .i64 nd', .int .u64 mb', .int .u64 mt', .int .u64 tb', .int .u64 tt', .int .u64 sq', .int .u64 ak', .slice ao' m' cap'] 28)).alloc (.cells #[.int .u64 a, .int .u64 b] 25)).alloc (.cells #[.int .u64 c, .int .u64 d] 25))) := ((((Grow.refl w).alloc _).alloc _).alloc _).alloc _
  have HF : Hid (∀ x, Grow ((((w.alloc (.cells #[.int .i64 kd, .int .i64 nd, .int .u64 mb, .int .u64 mt, .int .u64 tb, .int .u64 tt, .int .u64 sq, .int .u64 ak, .slice ao m cap] 28)).alloc (.cells #[.int .i64 kd', .int .i64 nd', .int .u64 mb', .int .u64 mt', .int .u64 tb', .int .u64 tt', .int .u64 sq', .int .u64 ak', .slice ao' m' cap'] 28)).alloc (.cells #[.int .u64 a, .int .u64 b] 25)).alloc (.cells #[.int .u64 c, .int .u64 d] 25)) x → _) := fun x hx => four _ _ _ _ hx
  go_enter Try.func7, Try.ntmps7
  go_wp2_with fail
  refine (HU1.out _ HW.out).mono ?_
  rintro e w1 ⟨rfl, hg⟩
  obtain ⟨x1, x2, x3, x4⟩ := HF.out _ hg
  have HG0 := Lib.hid hg
  have HG1 := Lib.hid (HW.out.trans hg)
  clear hg x2 x3 x4
  obtain ⟨⟨f0, f1, f2, f3, f4⟩, f5, f6, f7, f8⟩ := blkF (((Grow.refl w1).alloc (.cells #[.int .u32 ua, .int .i64 ul, .int .i64 ud] 52)).block _ (lt_of_block x1) |>.trans x1)
  clear x1
  go_wp2_with fail
  refine (HU2.out _ (HG1.out.alloc _)).mono ?_
  rintro e w2 ⟨rfl, hg⟩
  have HG2 := Lib.hid ((HG0.out.alloc _).trans hg)
  have HGW := Lib.hid ((HG1.out.alloc _).trans hg)
  have HX5a := Lib.hid ((hg.block _ (lt_of_block (heap_alloc_new w1 (.cells #[.int .u32 ua, .int .i64 ul, .int .i64 ud] 52)))).trans (heap_alloc_new w1 (.cells #[.int .u32 ua, .int .i64 ul, .int .i64 ud] 52)))
  clear hg f0 f1 f2 f3 f4 f5 f6 f7 f8
  go_wp2_with fail
  obtain ⟨x1, x2, x3, x4⟩ := HF.out _ (HG2.out.alloc (.cells #[.int .u32 ua, .int .i64 ul, .int .i64 ud] 52))
  have HX1 := Lib.hid x1
  have HX2 := Lib.hid x2
  have HX3 := Lib.hid x3
  have HX4 := Lib.hid x4
  have x5 := (((Grow.refl w2).alloc (.cells #[.int .u32 ua, .int .i64 ul, .int .i64 ud] 52)).block _ (lt_of_block HX5a.out)).trans HX5a.out
  have x6 := heap_alloc_new w2 (.cells #[.int .u32 ua, .int .i64 ul, .int .i64 ud] 52)
  have HX5 := Lib.hid x5
  have HX6 := Lib.hid x6
  have hg4 := HGW.out.alloc (.cells #[.int .u32 ua, .int .i64 ul, .int .i64 ud] 52)
  have HG4 := Lib.hid hg4
  clear x1 x2 x3 x4 x5 x6 hg4 HX5a
  generalize w2.alloc (.cells #[.int .u32 ua, .int .i64 ul, .int .i64 ud] 52) = w4 at *
  refine wp_region_grow 44 [] NoBlock (fun _ => True) (by kernel_rfl) (by kernel_rfl) (by rfl) (fun _ _ _ _ => trivial) trivial ?_
  simp only [List.take_succ_cons, List.take_zero, List.drop_succ_cons, List.drop_zero]
  refine wpH_det (.agg #[.int .u32 ua, .int .i64 ul, .int .i64 ud]) (by rfl) (fun xs => by rfl) (fun xs w' hg hf => ?_) ?_
  · clear hf
    have x := (hg.below.block _ (lt_of_block HX5.out)).trans HX5.out
    clear hg
    obtain ⟨⟨y0, y1, y2⟩, _, _, _⟩ := blk3 x
    clear x
    go_simp
    exact Below.refl _ _
  try go_simp
  refine wpH_det (.agg #[.int .u32 ua, .int .i64 ul, .int .i64 ud]) (by rfl) (fun xs => by rfl) (fun xs w' hg hf => ?_) ?_
  · clear hf
    have x := (hg.below.block _ (lt_of_block HX6.out)).trans HX6.out
    clear hg
    obtain ⟨⟨y0, y1, y2⟩, _, _, _⟩ := blk3 x
    clear x
    go_simp
    exact Below.refl _ _
  try go_simp
  repeat (refine wpH_pure (by intro _ _ h; cases h) (by rfl) (by rfl) (fun K hK => ?_); go_simp; refine hK _ ?_; clear hK K)
  refine wpH_det (.agg #[.int .i64 kd, .int .i64 nd, .int .u64 mb, .int .u64 mt, .int .u64 tb, .int .u64 tt, .int .u64 sq, .int .u64 ak, .slice ao m cap]) (by rfl) (fun xs => by rfl) (fun xs w' hg hf => ?_) ?_
  · clear hf
    have x := (hg.below.block _ (lt_of_block HX1.out)).trans HX1.out
    clear hg
    obtain ⟨⟨y0, y1, y2, y3, y4⟩, y5, y6, y7, y8⟩ := blkF x
    clear x
    go_simp
    exact Below.refl _ _
  try go_simp
  refine wpH_det (.agg #[.int .u64 a, .int .u64 b]) (by rfl) (fun xs => by rfl) (fun xs w' hg hf => ?_) ?_
  · clear hf
    have x := (hg.below.block _ (lt_of_block HX3.out)).trans HX3.out
    clear hg
    obtain ⟨y0, y1⟩ := blk2 x
    clear x
    go_simp
    exact Below.refl _ _
  try go_simp
  refine wpH_det (.agg #[.int .u64 c, .int .u64 d]) (by rfl) (fun xs => by rfl) (fun xs w' hg hf => ?_) ?_
  · clear hf
    have x := (hg.below.block _ (lt_of_block HX4.out)).trans HX4.out
    clear hg
    obtain ⟨y0, y1⟩ := blk2 x
    clear x
    go_simp
    exact Below.refl _ _
  try go_simp
  refine wpH_det (.bool s) (by rfl) (fun xs => by rfl) (fun xs w' hg hf => ?_) ?_
  · clear hf
    have h := HS1.out w' (HG4.out.trans hg.below)
    clear hg
    go_simp
    refine h.mono ?_
    rintro e w1 ⟨rfl, h⟩
    exact ⟨_, rfl, rfl, h⟩
  try go_simp
  refine wpH_det (.agg #[.int .i64 kd, .int .i64 nd, .int .u64 mb, .int .u64 mt, .int .u64 tb, .int .u64 tt, .int .u64 sq, .int .u64 ak, .slice ao m cap]) (by rfl) (fun xs => by rfl) (fun xs w' hg hf => ?_) ?_
  · clear hf
    have x := (hg.below.block _ (lt_of_block HX1.out)).trans HX1.out
    clear hg
    obtain ⟨⟨y0, y1, y2, y3, y4⟩, y5, y6, y7, y8⟩ := blkF x
    clear x
    go_simp
    exact Below.refl _ _
  try go_simp
  refine wpH_det (.agg #[.int .u64 a, .int .u64 b]) (by rfl) (fun xs => by rfl) (fun xs w' hg hf => ?_) ?_
  · clear hf
    have x := (hg.below.block _ (lt_of_block HX3.out)).trans HX3.out
    clear hg
    obtain ⟨y0, y1⟩ := blk2 x
    clear x
    go_simp
    exact Below.refl _ _
  try go_simp
  refine wpH_det (.agg #[.int .u64 c, .int .u64 d]) (by rfl) (fun xs => by rfl) (fun xs w' hg hf => ?_) ?_
  · clear hf
    have x := (hg.below.block _ (lt_of_block HX4.out)).trans HX4.out
    clear hg
    obtain ⟨y0, y1⟩ := blk2 x
    clear x
    go_simp
    exact Below.refl _ _
  try go_simp
  refine wpH_det (.bool s) (by rfl) (fun xs => by rfl) (fun xs w' hg hf => ?_) ?_
  · clear hf
    have h := HS2.out w' (HG4.out.trans hg.below)
    clear hg
    go_simp
    refine h.mono ?_
    rintro e w1 ⟨rfl, h⟩
    exact ⟨_, rfl, rfl, h⟩
  try go_simp
  repeat (refine wpH_pure (by intro _ _ h; cases h) (by rfl) (by rfl) (fun K hK => ?_); go_simp; refine hK _ ?_; clear hK K)
  refine wpH_det (.agg #[.int .u64 a, .int .u64 b]) (by rfl) (fun xs => by rfl) (fun xs w' hg hf => ?_) ?_
  · clear hf
    have x := (hg.below.block _ (lt_of_block HX3.out)).trans HX3.out
    clear hg
    obtain ⟨y0, y1⟩ := blk2 x
    clear x
    go_simp
    exact Below.refl _ _
  try go_simp
  refine wpH_det (.bool t) (by rfl) (fun xs => by rfl) (fun xs w' hg hf => ?_) ?_
  · clear hf
    have h := HT1.out w' (HG4.out.trans hg.below)
    clear hg
    go_simp
    refine h.mono ?_
    rintro e w1 ⟨rfl, h⟩
    exact ⟨_, rfl, rfl, h⟩
  try go_simp
  refine wpH_det (.agg #[.int .u64 a, .int .u64 b]) (by rfl) (fun xs => by rfl) (fun xs w' hg hf => ?_) ?_
  · clear hf
    have x := (hg.below.block _ (lt_of_block HX3.out)).trans HX3.out
    clear hg
    obtain ⟨y0, y1⟩ := blk2 x
    clear x
    go_simp
    exact Below.refl _ _
  try go_simp
  refine wpH_det (.bool t) (by rfl) (fun xs => by rfl) (fun xs w' hg hf => ?_) ?_
  · clear hf
    have h := HT2.out w' (HG4.out.trans hg.below)
    clear hg
    go_simp
    refine h.mono ?_
    rintro e w1 ⟨rfl, h⟩
    exact ⟨_, rfl, rfl, h⟩
  try go_simp
  repeat (refine wpH_pure (by intro _ _ h; cases h) (by rfl) (by rfl) (fun K hK => ?_); go_simp; refine hK _ ?_; clear hK K)
  refine wpH_det (.agg #[.int .i64 kd, .int .i64 nd, .int .u64 mb, .int .u64 mt, .int .u64 tb, .int .u64 tt, .int .u64 sq, .int .u64 ak, .slice ao m cap]) (by rfl) (fun xs => by rfl) (fun xs w' hg hf => ?_) ?_
  · clear hf
    have x := (hg.below.block _ (lt_of_block HX1.out)).trans HX1.out
    clear hg
    obtain ⟨⟨y0, y1, y2, y3, y4⟩, y5, y6, y7, y8⟩ := blkF x
    clear x
    go_simp
    exact Below.refl _ _
  try go_simp
  refine wpH_det (.agg #[.int .i64 kd', .int .i64 nd', .int .u64 mb', .int .u64 mt', .int .u64 tb', .int .u64 tt', .int .u64 sq', .int .u64 ak', .slice ao' m' cap']) (by rfl) (fun xs => by rfl) (fun xs w' hg hf => ?_) ?_
  · clear hf
    have x := (hg.below.block _ (lt_of_block HX2.out)).trans HX2.out
    clear hg
    obtain ⟨⟨y0, y1, y2, y3, y4⟩, y5, y6, y7, y8⟩ := blkF x
    clear x
    go_simp
    exact Below.refl _ _
  try go_simp
  refine wpH_det (.bool q) (by rfl) (fun xs => by rfl) (fun xs w' hg hf => ?_) ?_
  · clear hf
    have h := HE1.out w' (HG4.out.trans hg.below)
    clear hg
    go_simp
    refine h.mono ?_
    rintro e w1 ⟨rfl, h⟩
    exact ⟨_, rfl, rfl, h⟩
  try go_simp
  refine wpH_det (.agg #[.int .i64 kd, .int .i64 nd, .int .u64 mb, .int .u64 mt, .int .u64 tb, .int .u64 tt, .int .u64 sq, .int .u64 ak, .slice ao m cap]) (by rfl) (fun xs => by rfl) (fun xs w' hg hf => ?_) ?_
  · clear hf
    have x := (hg.below.block _ (lt_of_block HX1.out)).trans HX1.out
    clear hg
    obtain ⟨⟨y0, y1, y2, y3, y4⟩, y5, y6, y7, y8⟩ := blkF x
    clear x
    go_simp
    exact Below.refl _ _
  try go_simp
  refine wpH_det (.agg #[.int .i64 kd', .int .i64 nd', .int .u64 mb', .int .u64 mt', .int .u64 tb', .int .u64 tt', .int .u64 sq', .int .u64 ak', .slice ao' m' cap']) (by rfl) (fun xs => by rfl) (fun xs w' hg hf => ?_) ?_
  · clear hf
    have x := (hg.below.block _ (lt_of_block HX2.out)).trans HX2.out
    clear hg
    obtain ⟨⟨y0, y1, y2, y3, y4⟩, y5, y6, y7, y8⟩ := blkF x
    clear x
    go_simp
    exact Below.refl _ _
  try go_simp
  refine wpH_det (.bool q) (by rfl) (fun xs => by rfl) (fun xs w' hg hf => ?_) ?_
  · clear hf
    have h := HE2.out w' (HG4.out.trans hg.below)
    clear hg
    go_simp
    refine h.mono ?_
    rintro e w1 ⟨rfl, h⟩
    exact ⟨_, rfl, rfl, h⟩
  try go_simp
  repeat (refine wpH_pure (by intro _ _ h; cases h) (by rfl) (by rfl) (fun K hK => ?_); go_simp; refine hK _ ?_; clear hK K)
  refine wpH_det (.agg #[.int .i64 kd, .int .i64 nd, .int .u64 mb, .int .u64 mt, .int .u64 tb, .int .u64 tt, .int .u64 sq, .int .u64 ak, .slice ao m cap]) (by rfl) (fun xs => by rfl) (fun xs w' hg hf => ?_) ?_
  · clear hf
    have x := (hg.below.block _ (lt_of_block HX1.out)).trans HX1.out
    clear hg
    obtain ⟨⟨y0, y1, y2, y3, y4⟩, y5, y6, y7, y8⟩ := blkF x
    clear x
    go_simp
    exact Below.refl _ _
  try go_simp
  refine wpH_det (.agg #[.int .i64 kd, .int .i64 nd, .int .u64 mb, .int .u64 mt, .int .u64 tb, .int .u64 tt, .int .u64 sq, .int .u64 ak, .slice ao m cap]) (by rfl) (fun xs => by rfl) (fun xs w' hg hf => ?_) ?_
  · clear hf
    have x := (hg.below.block _ (lt_of_block HX1.out)).trans HX1.out
    clear hg
    obtain ⟨⟨y0, y1, y2, y3, y4⟩, y5, y6, y7, y8⟩ := blkF x
    clear x
    go_simp
    exact Below.refl _ _
  try go_simp
  refine wpH_det (.bool true) (by rfl) (fun xs => by rfl) (fun xs w' hg hf => ?_) ?_
  · clear hf
    have h := HE3.out w' (HG4.out.trans hg.below)
    clear hg
    go_simp
    refine h.mono ?_
    rintro e w1 ⟨rfl, h⟩
    exact ⟨_, rfl, rfl, h⟩
  try go_simp
  repeat (refine wpH_pure (by intro _ _ h; cases h) (by rfl) (by rfl) (fun K hK => ?_); go_simp; refine hK _ ?_; clear hK K)
  refine wpH_det (.bool true) (by rfl) (fun xs => by rfl) (fun xs w' hg hf => ?_) ?_
  · clear hf
    have h := HK.out w' (HG4.out.trans hg.below)
    clear hg
    go_simp
    refine h.mono ?_
    rintro e w1 ⟨rfl, h⟩
    exact ⟨_, rfl, rfl, h⟩
  try go_simp
  repeat (refine wpH_pure (by intro _ _ h; cases h) (by rfl) (by rfl) (fun K hK => ?_); go_simp; refine hK _ ?_; clear hK K)
  refine wpH_nil ?_
  intro xs w5 hg hx1 hx2
  clear hx1 hx2
  have HG5 := Lib.hid (HG4.out.trans hg.below)
  clear hg
  simp only [fill]
  go_simp
  go_wp2_with fail
  go_ret
  exact ⟨rfl, HG5.out⟩

theorem walk (f o : Fr) (a b c d : Int) (w : World) (hok1 : FrOk w f) (hok2 : FrOk w o) (ha : 0 ≤ a) (hb : 0 ≤ b) : Calls Try.prog 7 #[f.val, o.val, .agg #[.int .u64 a, .int .u64 b], .agg #[.int .u64 c, .int .u64 d]] w fun e w' => e = .returned (.bool true) ∧ Below w.heap.size w w' := by
  by_cases hl : f.zs.length ≤ 5000
  · by_cases hl2 : o.zs.length ≤ 5000
    · exact main f o a b c d w hok1 hok2 ha hb hl hl2
    · exact long2 f o a b c d w hok1 hok2 hl (by omega)
  · exact long1 f o a b c d w hok1 hok2 (by omega)


set_option maxRecDepth 100000 in
theorem lifted (os : Os) (started : os.Started) (H : Type) (enc : TypeId × Value → H) :
    ReturnsInHanded {} Try.checked os 7 .any (Rows.frameLooksSpec.pre6 enc Try.prog Try.f7 Rows.frameLooksRow.domain false) (Rows.frameLooksSpec.post enc Try.prog Try.f7 false true false false) := by
  refine returnsInHanded_of_change (C := Try.checked) own started (by kernel_rfl) Try.func7
    (ChangeSpec.witness6 (enc := enc) (C := Try.checked) false ⟨#[], #[.agg #[.int .i64 0, .int .i64 0, .int .u64 0, .int .u64 0, .int .u64 0, .int .u64 0, .int .u64 0, .int .u64 0, .slice none 0 0], .agg #[.int .i64 0, .int .i64 0, .int .u64 0, .int .u64 0, .int .u64 0, .int .u64 0, .int .u64 0, .int .u64 0, .slice none 0 0], .agg #[.int .u64 0, .int .u64 0], .agg #[.int .u64 0, .int .u64 0]], []⟩ 8 (by kernel_rfl) (by kernel_rfl) (by kernel_rfl) (by kernel_rfl)) ?_
  intro W base args ds gs before hval0 hW hcnd _
  have hval : ∀ (j : Nat) t v, Try.f7.params[j]? = some t → args[j]? = some v → Value.okWide Try.prog W .any base t v := hval0
  have hW' := hW
  obtain ⟨p, q, hA0, hV, rfl, hfz, hnd⟩ := hW
  have hA : DataW.TrodAll enc Try.prog W 0 (fun _ => true) true Try.f7.params.toList args.toList ds p := hA0
  rw [Try.params7] at hA hval
  obtain ⟨v0, vs0, d0, ds0, p0, q0, hargs, rfl, rfl, h0, r0⟩ := trodAll_cons hA
  obtain ⟨v1, vs1, d1, ds1, p1, q1, rfl, rfl, rfl, h1, r1⟩ := trodAll_cons r0
  obtain ⟨v2, vs2, d2, ds2, p2, q2, rfl, rfl, rfl, h2, r2⟩ := trodAll_cons r1
  obtain ⟨v3, vs3, d3, ds3, p3, q3, rfl, rfl, rfl, h3, r3⟩ := trodAll_cons r2
  obtain ⟨rfl, rfl, rfl⟩ := trodAll_nil r3
  obtain rfl : args = #[v0, v1, v2, v3] := by cases args; simp_all
  obtain ⟨rfl, rfl⟩ := trodVars_none hV
  have k0 := h0
  have lt0 : ∀ x ∈ p0, x.block < W.heap.size := by obtain ⟨m, hm⟩ := k0; exact DataW.trod_lt m _ _ _ hm
  have k1 := h1
  have lt1 : ∀ x ∈ p1, x.block < W.heap.size := by obtain ⟨m, hm⟩ := k1; exact DataW.trod_lt m _ _ _ hm
  have k2 := h2
  have lt2 : ∀ x ∈ p2, x.block < W.heap.size := by obtain ⟨m, hm⟩ := k2; exact DataW.trod_lt m _ _ _ hm
  have k3 := h3
  have lt3 : ∀ x ∈ p3, x.block < W.heap.size := by obtain ⟨m, hm⟩ := k3; exact DataW.trod_lt m _ _ _ hm
  obtain ⟨f0, rfl, w0⟩ := open_frame (hval 0 28 v0 rfl rfl) h0
  obtain ⟨f1, rfl, w1⟩ := open_frame (hval 1 28 v1 rfl rfl) h1
  obtain ⟨f2, x2, rfl, w2⟩ := open_tag (hval 2 25 v2 rfl rfl) h2
  obtain ⟨f3, x3, rfl, w3⟩ := open_tag (hval 3 25 v3 rfl rfl) h3
  clear hA0 hval0
  refine (walk f0 f1 f2 x2 f3 x3 W w0 w1 w2.1.1 w2.2.1).mono fun e W' ⟨he, bel⟩ => ?_
  subst he
  exact ⟨_, rfl, _, _, _, [], _, [], hW', trodAll_mk1 (shut_bool Try.underlying4 _), (trodAll_cons_mk (Below.trod laidOut (by kernel_rfl) (of_decide_eq_true (by kernel_rfl)) k0 bel lt0) (trodAll_cons_mk (Below.trod laidOut (by kernel_rfl) (of_decide_eq_true (by kernel_rfl)) k1 bel lt1) (trodAll_cons_mk (Below.trod laidOut (by kernel_rfl) (of_decide_eq_true (by kernel_rfl)) k2 bel lt2) (trodAll_cons_mk (Below.trod laidOut (by kernel_rfl) (of_decide_eq_true (by kernel_rfl)) k3 bel lt3) trodAll_mk0)))), rfl, bel.frame _, fun h => by cases h⟩

theorem over : Rows.frameLooksRow.holds Try.pinned (OpenSpec.ofChange Rows.frameLooksSpec) :=
  OpenClaim.holds_of_wide 7 Try.f7 rfl rfl rfl rfl rfl rfl rfl ⟨rfl, rfl, rfl, rfl, rfl⟩ rfl rfl rfl rfl rfl (by kernel_rfl) Try.func7 (by kernel_rfl)
    (of_decide_eq_true (by kernel_rfl)) (by unfold Func.isWrapper; first | (rw [if_pos (by decide +kernel)]; kernel_rfl) | (rw [if_neg (by decide +kernel)]; exact ⟨rfl, rfl⟩))
    (fun os started H enc _ => lifted os started H enc)

/-- The statement. -/
theorem proved : Rows.FrameLooksSaid := over
end Go.Proofs.Ytiphhjipgjpepaa.frameLooks
