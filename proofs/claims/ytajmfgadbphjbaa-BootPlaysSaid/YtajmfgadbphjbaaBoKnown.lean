/- The chapter's rows. -/
import Derived.Test.YtajmfgadbphjbaaBoMake
import Derived.Outline
set_option linter.unusedVariables false
set_option linter.unusedSimpArgs false
namespace Go.Proofs.Ytajmfgadbphjbaa
open Go.RowKit

def kb1 : St := wrote (St.fresh 32) 0 two0
def kb2 : St := beginSt kb1
def kb3 : St := beginSt kb2
def kb4 : St := beginSt kb3
theorem kb_1 : kb1.dead = false := by decide +kernel
theorem kb_2 : beginNum kb1 = 1 ∧ beginErr kb1 = 0 := by decide +kernel
theorem kb_3 : beginNum kb2 = 2 ∧ beginErr kb2 = 0 := by decide +kernel
theorem kb_4 : beginNum kb3 = 3 ∧ beginErr kb3 = 0 := by decide +kernel
theorem kb_5 : kb4.dead = false ∧ kb4.cells.length = 32 := by decide +kernel
theorem kb_6 : part kb4 0 32 = (slotB 3 ++ slotB 2).map fun z => (z, false) := by decide +kernel

set_option maxRecDepth 20000 in
set_option maxHeartbeats 2000000 in
theorem known_any (w : World) : Calls Try.prog 7 #[] w fun e w' => e = .returned (.bool true) ∧ Grow w w' := by
  have HN := Lib.hid (new_any 32 w (by omega) (by omega))
  have HR3 : Hid (∀ x, Calls Try.prog 10 #[.int .u64 3] x fun e w' => ∃ v, e = .returned v ∧ NewBytes x (slotB 3) v w') := fun x => refslot_any 3 x (by omega)
  have HR2 : Hid (∀ x, Calls Try.prog 10 #[.int .u64 2] x fun e w' => ∃ v, e = .returned v ∧ NewBytes x (slotB 2) v w') := fun x => refslot_any 2 x (by omega)
  have HB3 := Lib.hid (slotB_bytes 3)
  have HB2 := Lib.hid (slotB_bytes 2)
  have H6 := Lib.hid kb_6
  have HZ : Hid ((strOfNums (slotB 3)).size + (strOfNums (slotB 2)).size ≤ 9223372036854775807) := by
    show _ ≤ _
    rw [strOfNums_size, strOfNums_size, slotB_length, slotB_length]; omega
  generalize slotB 3 = z3 at *
  generalize slotB 2 = z2 at *
  go_enter Try.func7, Try.ntmps7
  go_wp2_with (go_at_call 12; refine HN.out.mono ?_; rintro e w1 ⟨P, g, rfl, hs, hgr, hP, hg⟩; have HM := Lib.hid (Mine.of_new hs hgr hP hg); clear hs hgr hP hg)
  refine (mine_make HM.out (by decide) rfl kb1 rfl kb_1).mono ?_
  rintro e w2 ⟨rfl, hm⟩
  have HM2 := Lib.hid hm
  clear hm HM
  go_wp2_with fail
  refine (mine_begin HM2.out 1 0 kb2 kb_2.1 kb_2.2 rfl).mono ?_
  rintro e w3 ⟨rfl, hm⟩
  have HM3 := Lib.hid hm
  clear hm HM2
  go_wp2_with fail
  refine (mine_begin HM3.out 2 0 kb3 kb_3.1 kb_3.2 rfl).mono ?_
  rintro e w4 ⟨rfl, hm⟩
  have HM4 := Lib.hid hm
  clear hm HM3
  go_wp2_with fail
  refine (mine_begin HM4.out 3 0 kb4 kb_4.1 kb_4.2 rfl).mono ?_
  rintro e w5 ⟨rfl, hm⟩
  have HM5 := Lib.hid hm
  clear hm HM4
  go_wp2_with fail
  refine (mine_read HM5.out 0 32 (by rw [kb_5.2]; decide) kb_5.1 (z3 ++ z2) H6.out).mono ?_
  rintro e w6 ⟨v, rfl, hb, hm, hgr⟩
  have HM6 := Lib.hid hm
  have HB := Lib.hid hb
  have HC : Hid (∀ x, GrowBut NoBlock w6 x → (convert 23 9 v).run Try.prog x = .ok (.string (strOfNums z3 ++ strOfNums z2)) x) := fun x hx => by
    have := str_of (hb.mono hx.below)
    rwa [str_append] at this
  clear hm HM5 hb hgr
  go_wp2_with fail
  refine wp_region_grow 40 [] NoBlock (fun _ => True) (by kernel_rfl) (by kernel_rfl) (by rfl) (fun _ _ _ _ => trivial) trivial ?_
  simp only [List.take_succ_cons, List.take_zero, List.drop_succ_cons, List.drop_zero]
  repeat (refine wpH_pure (by intro _ _ h; cases h) (by rfl) (by rfl) (fun K hK => ?_); go_simp; refine hK _ ?_; clear hK K)
  refine wpH_det (.string (strOfNums z3 ++ strOfNums z2)) (by rfl) (fun xs => by rfl) (fun xs w' hg hf => ?_) ?_
  · have hc := HC.out w' hg
    clear hf
    generalize strOfNums z3 ++ strOfNums z2 = sx at *
    go_simp
    exact Below.refl _ _
  refine wpH_hid (fun u w => BytesV w u z3) rfl (by rfl) (bytes_stay _) (fun xs => by rfl) (fun xs w' hg hf => ?_) ?_
  · clear hf
    go_simp
    refine (HR3.out _).mono ?_
    rintro e w1 ⟨v, rfl, h⟩
    exact ⟨v, rfl, newb_bytes h HB3.out, h.2⟩
  refine wpH_det (.string (strOfNums z3)) (by rfl) (fun xs => by rfl) (fun xs w' hg hf => ?_) ?_
  · have h1 := hf _ (List.Mem.head _) (by rfl); dsimp only at h1
    have hc := str_of h1
    clear hf h1
    generalize strOfNums z3 = sx at *
    go_simp
    exact Below.refl _ _
  try go_simp
  refine wpH_hid (fun u w => BytesV w u z2) rfl (by rfl) (bytes_stay _) (fun xs => by rfl) (fun xs w' hg hf => ?_) ?_
  · clear hf
    go_simp
    refine (HR2.out _).mono ?_
    rintro e w1 ⟨v, rfl, h⟩
    exact ⟨v, rfl, newb_bytes h HB2.out, h.2⟩
  refine wpH_det (.string (strOfNums z2)) (by rfl) (fun xs => by rfl) (fun xs w' hg hf => ?_) ?_
  · have h1 := hf _ (List.Mem.head _) (by rfl); dsimp only at h1
    have hc := str_of h1
    clear hf h1
    generalize strOfNums z2 = sx at *
    go_simp
    exact Below.refl _ _
  try go_simp
  have hz := HZ.out
  generalize strOfNums z3 = s3 at *
  generalize strOfNums z2 = s2 at *
  refine wpH_det (.string (s3 ++ s2)) (by rfl) (fun xs => by rfl) (fun xs w' hg hf => ?_) ?_
  · clear hf
    have hadd := run_string_add_sum (P := Try.prog) w' s3 s2 hz
    have hn : ¬ (9223372036854775807 < s3.size + s2.size) := by omega
    go_simp
    exact Below.refl _ _
  repeat (refine wpH_pure (by intro _ _ h; cases h) (by rfl) (by rfl) (fun K hK => ?_); go_simp; refine hK _ ?_; clear hK K)
  go_goals
  refine wpH_nil ?_
  intro xs w2 hg _ _
  have HG : Hid (Grow w w2) := Grow.trans HM6.out.below hg.below
  clear hg
  generalize xs 71 = x1
  generalize xs 73 = x2
  simp only [fill]
  go_simp
  go_wp2
  go_ret
  exact ⟨by simp, HG.out⟩
end Go.Proofs.Ytajmfgadbphjbaa
