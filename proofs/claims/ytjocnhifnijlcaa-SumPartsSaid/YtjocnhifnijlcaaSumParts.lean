/- The sum of bytes is that of a part of them of an even number, and of the rest, with carry; for any at most 9000 bytes, any place. -/
import Derived.Test.YtjocnhifnijlcaaRows
import Derived.Test.YtjocnhifnijlcaaSumOpen
import Derived.Test.YtjocnhifnijlcaaSumKnown
import Derived.WalkKit
import Derived.ProofKit
import Derived.OpenShut
import Derived.ShutString
import Derived.ChangeOld
import Derived.Below
set_option linter.unusedVariables false
namespace Go.Proofs.Ytjocnhifnijlcaa.sumParts
open Go.ChangeShapes Go.WideShapes Go.ChangeAt Go.RowKit
open Go.ChangeMaps (open_string shut_string)

theorem own : ownKnob Try.prog.godebug = none := by kernel_rfl
theorem laidOut : laidOutB Try.prog = true := by kernel_rfl

theorem other (v : Value) (zs : List Int) (a1 : Int) (w : World) (hv : BytesV w v zs) (w1 : (Lit.int .i64 a1).wf = true) (h : 9000 < zs.length ∨ a1 < 0 ∨ (zs.length : Int) / 2 < a1) :
    Calls Try.prog 6 #[v, .int .i64 a1] w fun e w' => e = .returned (.bool true) ∧ Below w.heap.size w w' := by
  obtain ⟨ao, cap, rfl, hl, hm⟩ := hv.shape
  clear hv
  by_cases h1 : 9000 < zs.length
  · go_enter Try.func6, Try.ntmps6
    go_wp2_with fail
    refine (known_any _).mono ?_; rintro e w' ⟨rfl, hg⟩
    have HG := Lib.hid hg
    clear hg
    go_wp2
    go_ret
    exact ⟨rfl, HG.out⟩
  · by_cases h2 : a1 < 0
    · go_enter Try.func6, Try.ntmps6
      go_wp2_with fail
      refine (known_any _).mono ?_; rintro e w' ⟨rfl, hg⟩
      have HG := Lib.hid hg
      clear hg
      go_wp2
      go_ret
      exact ⟨rfl, HG.out⟩
    · have h3 : (zs.length : Int) / 2 < a1 := by omega
      clear h
      go_enter Try.func6, Try.ntmps6
      go_wp2_with fail
      refine (known_any _).mono ?_; rintro e w' ⟨rfl, hg⟩
      have HG := Lib.hid hg
      clear hg
      go_wp2
      go_ret
      exact ⟨rfl, HG.out⟩

set_option maxHeartbeats 1000000 in
theorem main (b off cap : Nat) (zs : List Int) (k : Nat) (w : World) (hv : BytesV w (.slice (some ⟨b, off, none⟩) zs.length cap) zs) (hc : zs.length ≤ cap) (hm : cap ≤ maxLen) (hz : zs.length ≤ 9000) (hk : k ≤ zs.length / 2) :
    Calls Try.prog 6 #[.slice (some ⟨b, off, none⟩) zs.length cap, .int .i64 k] w fun e w' => e = .returned (.bool true) ∧ Below w.heap.size w w' := by
  unfold maxLen at hm
  have hA := hv
  have hP := bytes_sub hv 0 (2 * k) (by omega) (by omega)
  have hD := bytes_sub hv (2 * k) zs.length (by omega) (by omega)
  simp only [Nat.sub_zero, Nat.add_zero, List.drop_zero] at hP
  have e0 : (zs.drop (2 * k)).take (zs.length - 2 * k) = zs.drop (2 * k) := List.take_of_length_le (by simp)
  rw [e0] at hD
  clear e0
  replace hD := bytes_rest hv (n := 2 * k) hc hD
  clear hv
  generalize hn : 2 * k = n at *
  have HN := Lib.hid hn
  have hn2 : (2 : Int) * (k : Int) = (n : Int) := by omega
  clear hn
  have hsum : addc (nrm (bsum (zs.take n))) (nrm (bsum (zs.drop n))) = nrm (bsum zs) := by
    have h1 := hP.1; have h2 := hD.1
    rw [addc_nrm (bsum_nonneg h1) (bsum_nonneg h2), ← bsum_append _ _ (by have := HN.out; simp; omega), List.take_append_drop]
  have HS := Lib.hid hsum
  have HA := Lib.hid hA
  have HP := Lib.hid hP
  have HD := Lib.hid hD
  have hnl : n ≤ zs.length := by have := HN.out; omega
  have hnc : (n : Int) ≤ (cap : Int) := by omega
  have hn0 : (0 : Int) ≤ (n : Int) := by omega
  have hnl' : (n : Int) ≤ (zs.length : Int) := by omega
  have bt := nrm_bd (bsum zs)
  have bp := nrm_bd (bsum (zs.take n))
  have bd := nrm_bd (bsum (zs.drop n))
  clear hA hP hD hsum
  have hw : IntKind.u16.wrap (65535 - nrm (bsum zs)) = 65535 - nrm (bsum zs) := by rw [wrap16]; omega
  go_enter Try.func6, Try.ntmps6
  go_wp2_with fail
  refine wp_region_grow 28 [] NoBlock (fun _ => True) (by kernel_rfl) (by kernel_rfl) (by rfl) (fun _ _ _ _ => trivial) trivial ?_
  simp only [List.take_succ_cons, List.take_zero, List.drop_succ_cons, List.drop_zero]
  repeat (refine wpH_pure (by intro _ _ h; cases h) (by rfl) (by rfl) (fun K hK => ?_); go_simp; refine hK _ ?_; clear hK K)
  refine wpH_hid (fun u w => RowsV w u [zs]) rfl (by rfl) (rows_stay _) (fun xs => by rfl) (fun xs w' hg hf => ?_) ?_
  · clear hf
    have hr := rows_new (w := w') [.slice (some ⟨b, off, none⟩) zs.length cap] [zs] 23 rfl (by simp [maxLen]) (fun i x hx => by
      match i, hx with
      | 0, hx => simp at hx; subst hx; exact HA.out.mono hg.below)
    have HR := Lib.hid hr
    clear hr hg
    go_simp
    exact ⟨HR.out, (Below.refl _ _).alloc (Nat.le_refl _) _⟩
  refine wpH_det (.int .u16 (nrm (bsum zs))) (by rfl) (fun xs => by rfl) (fun xs w' hg hf => ?_) ?_
  · have h1 := hf _ (List.Mem.head _) (by rfl); dsimp only at h1
    clear hf
    go_simp
    refine (total_any _ _ _ h1).mono ?_
    rintro e w1 ⟨rfl, hg1⟩
    exact ⟨_, ret_int (by simp), rfl, hg1⟩
  repeat (refine wpH_pure (by intro _ _ h; cases h) (by rfl) (by rfl) (fun K hK => ?_); go_simp; refine hK _ ?_; clear hK K)
  refine wpH_hid (fun u w => RowsV w u [zs.take n]) rfl (by rfl) (rows_stay _) (fun xs => by rfl) (fun xs w' hg hf => ?_) ?_
  · clear hf
    have hr := rows_new (w := w') [.slice (some ⟨b, off, none⟩) n cap] [zs.take n] 23 rfl (by simp [maxLen]) (fun i x hx => by
      match i, hx with
      | 0, hx => simp at hx; subst hx; exact HP.out.mono hg.below)
    have HR := Lib.hid hr
    clear hr hg
    go_simp
    exact ⟨HR.out, (Below.refl _ _).alloc (Nat.le_refl _) _⟩
  refine wpH_det (.int .u16 (nrm (bsum (zs.take n)))) (by rfl) (fun xs => by rfl) (fun xs w' hg hf => ?_) ?_
  · have h1 := hf _ (List.Mem.head _) (by rfl); dsimp only at h1
    clear hf
    go_simp
    refine (total_any _ _ _ h1).mono ?_
    rintro e w1 ⟨rfl, hg1⟩
    exact ⟨_, ret_int (by simp), rfl, hg1⟩
  repeat (refine wpH_pure (by intro _ _ h; cases h) (by rfl) (by rfl) (fun K hK => ?_); go_simp; refine hK _ ?_; clear hK K)
  refine wpH_hid (fun u w => RowsV w u [zs.drop n]) rfl (by rfl) (rows_stay _) (fun xs => by rfl) (fun xs w' hg hf => ?_) ?_
  · clear hf
    have hr := rows_new (w := w') [.slice (if cap = n then some ⟨b, off, none⟩ else some ⟨b, off + n, none⟩) (zs.length - n) (cap - n)] [zs.drop n] 23 rfl (by simp [maxLen]) (fun i x hx => by
      match i, hx with
      | 0, hx => simp at hx; subst hx; exact HD.out.mono hg.below)
    have HR := Lib.hid hr
    clear hr hg
    go_simp
    exact ⟨HR.out, (Below.refl _ _).alloc (Nat.le_refl _) _⟩
  refine wpH_det (.int .u16 (nrm (bsum (zs.drop n)))) (by rfl) (fun xs => by rfl) (fun xs w' hg hf => ?_) ?_
  · have h1 := hf _ (List.Mem.head _) (by rfl); dsimp only at h1
    clear hf
    go_simp
    refine (total_any _ _ _ h1).mono ?_
    rintro e w1 ⟨rfl, hg1⟩
    exact ⟨_, ret_int (by simp), rfl, hg1⟩
  refine wpH_det (.int .u16 (nrm (bsum zs))) (by rfl) (fun xs => by rfl) (fun xs w' hg hf => ?_) ?_
  · clear hf
    go_simp
    refine (add_any _ _ _ bp.1 bp.2 bd.1 bd.2).mono ?_
    rintro e w' ⟨rfl, rfl⟩
    exact ⟨_, ret_int HS.out, rfl, Below.refl _ _⟩
  repeat (refine wpH_pure (by intro _ _ h; cases h) (by rfl) (by rfl) (fun K hK => ?_); go_simp; refine hK _ ?_; clear hK K)
  refine wpH_hid (fun u w => RowsV w u [zs]) rfl (by rfl) (rows_stay _) (fun xs => by rfl) (fun xs w' hg hf => ?_) ?_
  · clear hf
    have hr := rows_new (w := w') [.slice (some ⟨b, off, none⟩) zs.length cap] [zs] 23 rfl (by simp [maxLen]) (fun i x hx => by
      match i, hx with
      | 0, hx => simp at hx; subst hx; exact HA.out.mono hg.below)
    have HR := Lib.hid hr
    clear hr hg
    go_simp
    exact ⟨HR.out, (Below.refl _ _).alloc (Nat.le_refl _) _⟩
  refine wpH_det (.int .u16 (65535 - nrm (bsum zs))) (by rfl) (fun xs => by rfl) (fun xs w' hg hf => ?_) ?_
  · have h1 := hf _ (List.Mem.head _) (by rfl); dsimp only at h1
    clear hf
    go_simp
    refine (check_any _ _ _ h1).mono ?_
    rintro e w1 ⟨rfl, hg1⟩
    exact ⟨_, ret_int (by simp), rfl, hg1⟩
  repeat (refine wpH_pure (by intro _ _ h; cases h) (by rfl) (by rfl) (fun K hK => ?_); go_simp; refine hK _ ?_; clear hK K)
  refine wpH_hid (fun u w => RowsV w u [zs]) rfl (by rfl) (rows_stay _) (fun xs => by rfl) (fun xs w' hg hf => ?_) ?_
  · clear hf
    have hr := rows_new (w := w') [.slice (some ⟨b, off, none⟩) zs.length cap] [zs] 23 rfl (by simp [maxLen]) (fun i x hx => by
      match i, hx with
      | 0, hx => simp at hx; subst hx; exact HA.out.mono hg.below)
    have HR := Lib.hid hr
    clear hr hg
    go_simp
    exact ⟨HR.out, (Below.refl _ _).alloc (Nat.le_refl _) _⟩
  refine wpH_det (.int .u16 (nrm (bsum zs))) (by rfl) (fun xs => by rfl) (fun xs w' hg hf => ?_) ?_
  · have h1 := hf _ (List.Mem.head _) (by rfl); dsimp only at h1
    clear hf
    go_simp
    refine (total_any _ _ _ h1).mono ?_
    rintro e w1 ⟨rfl, hg1⟩
    exact ⟨_, ret_int (by simp), rfl, hg1⟩
  repeat (refine wpH_pure (by intro _ _ h; cases h) (by rfl) (by rfl) (fun K hK => ?_); go_simp; refine hK _ ?_; clear hK K)
  refine wpH_det (.bool true) (by rfl) (fun xs => by rfl) (fun xs w' hg hf => ?_) ?_
  · clear hf
    go_simp
    refine (known_any _).mono ?_
    rintro e w' ⟨rfl, hg1⟩
    exact ⟨_, rfl, rfl, hg1⟩
  repeat (refine wpH_pure (by intro _ _ h; cases h) (by rfl) (by rfl) (fun K hK => ?_); go_simp; refine hK _ ?_; clear hK K)
  refine wpH_nil ?_
  intro xs w2 hg _ _
  have HG := Lib.hid hg.below
  clear hg
  generalize xs 24 = x1
  generalize xs 29 = x2
  generalize xs 34 = x3
  generalize xs 40 = x4
  generalize xs 43 = x5
  simp only [fill]
  go_simp
  go_wp2
  all_goals
    go_ret
    exact ⟨rfl, HG.out⟩

set_option maxHeartbeats 1000000 in
theorem none0 (ao : Option Addr) (cap : Nat) (w : World) (hm : cap ≤ maxLen) (hao : ao = none → cap = 0) :
    Calls Try.prog 6 #[.slice ao 0 cap, .int .i64 0] w fun e w' => e = .returned (.bool true) ∧ Below w.heap.size w w' := by
  unfold maxLen at hm
  go_enter Try.func6, Try.ntmps6
  go_wp2_with fail
  refine wp_region_grow 28 [] NoBlock (fun _ => True) (by kernel_rfl) (by kernel_rfl) (by rfl) (fun _ _ _ _ => trivial) trivial ?_
  simp only [List.take_succ_cons, List.take_zero, List.drop_succ_cons, List.drop_zero]
  repeat (refine wpH_pure (by intro _ _ h; cases h) (by rfl) (by rfl) (fun K hK => ?_); go_simp; refine hK _ ?_; clear hK K)
  refine wpH_hid (fun u w => RowsV w u [[]]) rfl (by rfl) (rows_stay _) (fun xs => by rfl) (fun xs w' hg hf => ?_) ?_
  · clear hf
    have hr := rows_new (w := w') [.slice ao 0 cap] [[]] 23 rfl (by simp [maxLen]) (fun i x hx => by
      match i, hx with
      | 0, hx => simp at hx; subst hx; exact ⟨Bytes.nil, Or.inl ⟨rfl, _, _, rfl, hm, hao⟩⟩)
    have HR := Lib.hid hr
    clear hr hg
    go_simp
    exact ⟨HR.out, (Below.refl _ _).alloc (Nat.le_refl _) _⟩
  refine wpH_det (.int .u16 0) (by rfl) (fun xs => by rfl) (fun xs w' hg hf => ?_) ?_
  · have h1 := hf _ (List.Mem.head _) (by rfl); dsimp only at h1
    clear hf
    go_simp
    refine (total_any _ _ _ h1).mono ?_
    rintro e w1 ⟨rfl, hg1⟩
    exact ⟨_, rfl, rfl, hg1⟩
  repeat (refine wpH_pure (by intro _ _ h; cases h) (by rfl) (by rfl) (fun K hK => ?_); go_simp; refine hK _ ?_; clear hK K)
  refine wpH_hid (fun u w => RowsV w u [[]]) rfl (by rfl) (rows_stay _) (fun xs => by rfl) (fun xs w' hg hf => ?_) ?_
  · clear hf
    have hr := rows_new (w := w') [.slice ao 0 cap] [[]] 23 rfl (by simp [maxLen]) (fun i x hx => by
      match i, hx with
      | 0, hx => simp at hx; subst hx; exact ⟨Bytes.nil, Or.inl ⟨rfl, _, _, rfl, hm, hao⟩⟩)
    have HR := Lib.hid hr
    clear hr hg
    go_simp
    exact ⟨HR.out, (Below.refl _ _).alloc (Nat.le_refl _) _⟩
  refine wpH_det (.int .u16 0) (by rfl) (fun xs => by rfl) (fun xs w' hg hf => ?_) ?_
  · have h1 := hf _ (List.Mem.head _) (by rfl); dsimp only at h1
    clear hf
    go_simp
    refine (total_any _ _ _ h1).mono ?_
    rintro e w1 ⟨rfl, hg1⟩
    exact ⟨_, rfl, rfl, hg1⟩
  repeat (refine wpH_pure (by intro _ _ h; cases h) (by rfl) (by rfl) (fun K hK => ?_); go_simp; refine hK _ ?_; clear hK K)
  refine wpH_hid (fun u w => RowsV w u [[]]) rfl (by rfl) (rows_stay _) (fun xs => by rfl) (fun xs w' hg hf => ?_) ?_
  · clear hf
    have hr := rows_new (w := w') [.slice ao 0 cap] [[]] 23 rfl (by simp [maxLen]) (fun i x hx => by
      match i, hx with
      | 0, hx => simp at hx; subst hx; exact ⟨Bytes.nil, Or.inl ⟨rfl, _, _, rfl, hm, hao⟩⟩)
    have HR := Lib.hid hr
    clear hr hg
    go_simp
    exact ⟨HR.out, (Below.refl _ _).alloc (Nat.le_refl _) _⟩
  refine wpH_det (.int .u16 0) (by rfl) (fun xs => by rfl) (fun xs w' hg hf => ?_) ?_
  · have h1 := hf _ (List.Mem.head _) (by rfl); dsimp only at h1
    clear hf
    go_simp
    refine (total_any _ _ _ h1).mono ?_
    rintro e w1 ⟨rfl, hg1⟩
    exact ⟨_, rfl, rfl, hg1⟩
  refine wpH_det (.int .u16 0) (by rfl) (fun xs => by rfl) (fun xs w' hg hf => ?_) ?_
  · clear hf
    go_simp
    refine (add_any _ _ _ (by omega) (by omega) (by omega) (by omega)).mono ?_
    rintro e w' ⟨rfl, rfl⟩
    exact ⟨_, rfl, rfl, Below.refl _ _⟩
  repeat (refine wpH_pure (by intro _ _ h; cases h) (by rfl) (by rfl) (fun K hK => ?_); go_simp; refine hK _ ?_; clear hK K)
  refine wpH_hid (fun u w => RowsV w u [[]]) rfl (by rfl) (rows_stay _) (fun xs => by rfl) (fun xs w' hg hf => ?_) ?_
  · clear hf
    have hr := rows_new (w := w') [.slice ao 0 cap] [[]] 23 rfl (by simp [maxLen]) (fun i x hx => by
      match i, hx with
      | 0, hx => simp at hx; subst hx; exact ⟨Bytes.nil, Or.inl ⟨rfl, _, _, rfl, hm, hao⟩⟩)
    have HR := Lib.hid hr
    clear hr hg
    go_simp
    exact ⟨HR.out, (Below.refl _ _).alloc (Nat.le_refl _) _⟩
  refine wpH_det (.int .u16 65535) (by rfl) (fun xs => by rfl) (fun xs w' hg hf => ?_) ?_
  · have h1 := hf _ (List.Mem.head _) (by rfl); dsimp only at h1
    clear hf
    go_simp
    refine (check_any _ _ _ h1).mono ?_
    rintro e w1 ⟨rfl, hg1⟩
    exact ⟨_, rfl, rfl, hg1⟩
  repeat (refine wpH_pure (by intro _ _ h; cases h) (by rfl) (by rfl) (fun K hK => ?_); go_simp; refine hK _ ?_; clear hK K)
  refine wpH_hid (fun u w => RowsV w u [[]]) rfl (by rfl) (rows_stay _) (fun xs => by rfl) (fun xs w' hg hf => ?_) ?_
  · clear hf
    have hr := rows_new (w := w') [.slice ao 0 cap] [[]] 23 rfl (by simp [maxLen]) (fun i x hx => by
      match i, hx with
      | 0, hx => simp at hx; subst hx; exact ⟨Bytes.nil, Or.inl ⟨rfl, _, _, rfl, hm, hao⟩⟩)
    have HR := Lib.hid hr
    clear hr hg
    go_simp
    exact ⟨HR.out, (Below.refl _ _).alloc (Nat.le_refl _) _⟩
  refine wpH_det (.int .u16 0) (by rfl) (fun xs => by rfl) (fun xs w' hg hf => ?_) ?_
  · have h1 := hf _ (List.Mem.head _) (by rfl); dsimp only at h1
    clear hf
    go_simp
    refine (total_any _ _ _ h1).mono ?_
    rintro e w1 ⟨rfl, hg1⟩
    exact ⟨_, rfl, rfl, hg1⟩
  repeat (refine wpH_pure (by intro _ _ h; cases h) (by rfl) (by rfl) (fun K hK => ?_); go_simp; refine hK _ ?_; clear hK K)
  refine wpH_det (.bool true) (by rfl) (fun xs => by rfl) (fun xs w' hg hf => ?_) ?_
  · clear hf
    go_simp
    refine (known_any _).mono ?_
    rintro e w' ⟨rfl, hg1⟩
    exact ⟨_, rfl, rfl, hg1⟩
  repeat (refine wpH_pure (by intro _ _ h; cases h) (by rfl) (by rfl) (fun K hK => ?_); go_simp; refine hK _ ?_; clear hK K)
  refine wpH_nil ?_
  intro xs w2 hg _ _
  have HG := Lib.hid hg.below
  clear hg
  generalize xs 24 = x1
  generalize xs 29 = x2
  generalize xs 34 = x3
  generalize xs 40 = x4
  generalize xs 43 = x5
  simp only [fill]
  go_simp
  go_wp2
  all_goals
    go_ret
    exact ⟨rfl, HG.out⟩

theorem walk (v : Value) (zs : List Int) (a1 : Int) (w : World) (hv : BytesV w v zs) (w1 : (Lit.int .i64 a1).wf = true) :
    Calls Try.prog 6 #[v, .int .i64 a1] w fun e w' => e = .returned (.bool true) ∧ Below w.heap.size w w' := by
  by_cases h : 9000 < zs.length ∨ a1 < 0 ∨ (zs.length : Int) / 2 < a1
  · exact other v zs a1 w hv w1 h
  · obtain ⟨k, rfl⟩ : ∃ k : Nat, a1 = (k : Int) := ⟨a1.toNat, by omega⟩
    rcases hv.2 with ⟨rfl, ao, cap, rfl, hm, hao⟩ | ⟨b, off, cap, rfl, hl, hm, _⟩
    · have hk : k = 0 := by simp at h; omega
      subst hk
      exact none0 ao cap w hm hao
    · exact main b off cap zs k w hv hl hm (by omega) (by omega)


set_option maxRecDepth 100000 in
theorem lifted (os : Os) (started : os.Started) (H : Type) (enc : TypeId × Value → H) :
    ReturnsInHanded {} Try.checked os 6 .any (Rows.sumPartsSpec.pre6 enc Try.prog Try.f6 Rows.sumPartsRow.domain false) (Rows.sumPartsSpec.post enc Try.prog Try.f6 false true false false) := by
  refine returnsInHanded_of_change (C := Try.checked) own started (by kernel_rfl) Try.func6
    (ChangeSpec.witness6 (enc := enc) (C := Try.checked) false ⟨#[], #[.slice none 0 0, .int .i64 0], []⟩ 8 (by kernel_rfl) (by kernel_rfl) (by kernel_rfl) (by kernel_rfl)) ?_
  intro W base args ds gs before hval0 hW hcnd _
  have hval : ∀ (j : Nat) t v, Try.f6.params[j]? = some t → args[j]? = some v → Value.okWide Try.prog W .any base t v := hval0
  have hW' := hW
  obtain ⟨p, q, hA0, hV, rfl, hfz, hnd⟩ := hW
  have hA : DataW.TrodAll enc Try.prog W 0 (fun _ => true) true Try.f6.params.toList args.toList ds p := hA0
  rw [Try.params6] at hA hval
  obtain ⟨v0, vs0, d0, ds0, p0, q0, hargs, rfl, rfl, h0, r0⟩ := trodAll_cons hA
  obtain ⟨v1, vs1, d1, ds1, p1, q1, rfl, rfl, rfl, h1, r1⟩ := trodAll_cons r0
  obtain ⟨rfl, rfl, rfl⟩ := trodAll_nil r1
  obtain rfl : args = #[v0, v1] := by cases args; simp_all
  obtain ⟨rfl, rfl⟩ := trodVars_none hV
  have k0 := h0
  have lt0 : ∀ x ∈ p0, x.block < W.heap.size := by obtain ⟨m, hm⟩ := k0; exact DataW.trod_lt m _ _ _ hm
  have k1 := h1
  have lt1 : ∀ x ∈ p1, x.block < W.heap.size := by obtain ⟨m, hm⟩ := k1; exact DataW.trod_lt m _ _ _ hm
  obtain ⟨z0, w0⟩ : ∃ zs, BytesV W v0 zs := open_bytes Try.underlying23 Try.underlying5 (by kernel_rfl) (hval 0 23 v0 rfl rfl) h0
  obtain ⟨a1, rfl, e1, f1, w1⟩ := open_int Try.underlying3 (hval 1 3 v1 rfl rfl) h1
  clear hA0 hval0
  refine (walk v0 z0 a1 W w0 w1).mono fun e W' ⟨he, bel⟩ => ?_
  subst he
  exact ⟨_, rfl, _, _, _, [], _, [], hW', trodAll_mk1 (shut_bool Try.underlying4 _), (trodAll_cons_mk (Below.trod laidOut (by kernel_rfl) (of_decide_eq_true (by kernel_rfl)) k0 bel lt0) (trodAll_cons_mk (Below.trod laidOut (by kernel_rfl) (of_decide_eq_true (by kernel_rfl)) k1 bel lt1) trodAll_mk0)), rfl, bel.frame _, fun h => by cases h⟩

theorem over : Rows.sumPartsRow.holds Try.pinned (OpenSpec.ofChange Rows.sumPartsSpec) :=
  OpenClaim.holds_of_wide 6 Try.f6 rfl rfl rfl rfl rfl rfl rfl ⟨rfl, rfl, rfl, rfl, rfl⟩ rfl rfl rfl rfl rfl (by kernel_rfl) Try.func6 (by kernel_rfl)
    (of_decide_eq_true (by kernel_rfl)) (by unfold Func.isWrapper; first | (rw [if_pos (by decide +kernel)]; kernel_rfl) | (rw [if_neg (by decide +kernel)]; exact ⟨rfl, rfl⟩))
    (fun os started H enc _ => lifted os started H enc)

/-- The statement. -/
theorem proved : Rows.SumPartsSaid := over
end Go.Proofs.Ytjocnhifnijlcaa.sumParts
