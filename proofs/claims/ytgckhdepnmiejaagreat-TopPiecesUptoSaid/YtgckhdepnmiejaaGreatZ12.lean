/- Lists of bytes, one behind the other; whether there are too many (and what stands on it). -/
import Derived.IntWalk
import Derived.Deep.AppendLies
import Derived.Test.YtgckhdepnmiejaaGreatZ02
import Derived.Test.YtgckhdepnmiejaaGreatZ04
import Derived.Test.YtgckhdepnmiejaaGreatZ07
import Derived.Test.YtgckhdepnmiejaaGreatZ08
import Derived.Test.YtgckhdepnmiejaaGreatZ10
import Derived.Test.YtgckhdepnmiejaaGreatZ11
set_option linter.unusedVariables false
set_option linter.unusedSimpArgs false
namespace Go.Proofs.YtgckhdepnmiejaaGreat
section
set_option maxRecDepth 100000
open Go.RowKit
theorem infoU8 : (Tryz.prog.info? 5).map (fun i => (i.zero, i.size, i.bytes)) = some (some (.int .u8 0), 1, 1) := by kernel_rfl
theorem flat_le (rows : List (List Int)) (k : Nat) : (rows.take k).flatten.length ≤ rows.flatten.length := by
 conv => rhs; rw [← List.take_append_drop k rows, List.flatten_append, List.length_append]
 omega
theorem flat_succ' (rows : List (List Int)) (k : Nat) (h : k < rows.length) : (rows.take (k + 1)).flatten = (rows.take k).flatten ++ rows.getD k [] := by
 have : rows.take (k + 1) = rows.take k ++ [rows.getD k []] := by rw [List.take_succ_eq_append_getElem h]; simp [h]
 rw [this]; simp
set_option maxHeartbeats 400000 in
theorem join_any (v : Value) (rows : List (List Int)) (w : World) (hv : RowsV w v rows) (hb : Bytes rows.flatten) (hz : rows.flatten.length ≤ 9000) :
  Calls Tryz.prog 21 #[v] w fun e w' => ∃ u, e = .returned u ∧ NewBytes w rows.flatten u w' := by
 obtain ⟨i0, hi, hz0, hz1, hz2⟩ := info_parts infoU8
 rcases hv with ⟨rfl, ao, cap, rfl, hcap⟩ | ⟨b, off, cap, rfl, hl, hcap, hc⟩
 ·go_enter Tryz.func21, Tryz.ntmps21
  go_wp2
  refine wp_loop_rounds 1 ?_
  rw [rounds_succ]
  go_wp2
  go_ret
  exact ⟨_, rfl, World.ownsRow_nil _ _ _ _, Grow.refl _⟩
 ·unfold maxLen at hcap
  have HC := Lib.hid hc
  clear hc
  go_enter Tryz.func21, Tryz.ntmps21
  go_wp2
  go_loopw [3, 4] (fun v i wr => ∃ k : Nat, k ≤ rows.length ∧ i = .int .i64 k ∧ wr.ownsRow w.heap.size 5 1 v (rows.take k).flatten.length ((rows.take k).flatten.map (Value.int .u8)) ∧ Grow w wr)
   (fun _ i _ => rows.length - (intOf i).toNat)
  case atStart => exact ⟨0, Nat.zero_le _, rfl, World.ownsRow_nil _ _ _ _, Grow.refl _⟩
  case round =>
   obtain ⟨k, hk, rfl, hown, hg⟩ := hrel
   by_cases hlt : k < rows.length
   ·obtain ⟨x, hx, hr⟩ := HC.out k hlt
    have hx' : wr.cell? ⟨b, off + k, none⟩ = some x := (hg.cell (block_lt hx)).trans hx
    have hri := (hr.mono hg).2
    have hfl := flat_succ' rows k hlt
    have hle := flat_le rows (k + 1)
    rw [hfl, List.length_append] at hle
    obtain ⟨ao, c, rfl, _, _⟩ := hr.shape
    clear hr hx
    have HRI := Lib.hid hri
    have HFL := Lib.hid hfl
    clear hri hfl
    generalize rows.getD k [] = row at *
    generalize (rows.take k).flatten = pre at *
    go_wp2_with (at_builtin; refine wpList_append_ints (k := .u8) rfl _ _ 25 rfl w.heap.size 5 i0 1 Tryz.underlying25 hi hz0 hz1 hz2 _ _ _ rfl hown _ row rfl HRI.out ?c3 ?c4 ?c5 ?_)
    case c3 => unfold maxLen; omega
    case c4 => omega
    case c5 => exact hg.size
    ·intro v' w1 hown' hgrow
     have hg1 := grow_by hg hown hgrow
     have HO : Hid (w1.ownsRow w.heap.size 5 1 v' (rows.take (k + 1)).flatten.length ((rows.take (k + 1)).flatten.map (Value.int .u8)) ∧ Grow w w1) := by
      refine ⟨?_, hg1⟩
      rw [HFL.out, List.length_append, List.map_append]
      exact hown'
     clear hown' hgrow hown hg hg1
     go_wp2
     go_roundw
     case rel => exact ⟨k + 1, by omega, by go_num, HO.out.1, HO.out.2⟩
     case measure => simp [intOf]; omega
   ·have hkl : rows.take k = rows := List.take_of_length_le (by omega)
    rw [hkl] at hown
    have HO := Lib.hid hown
    clear hown hkl
    go_wp2
    go_ret
    exact ⟨_, rfl, HO.out, hg⟩
end
end Go.Proofs.YtgckhdepnmiejaaGreat
namespace Go.Proofs.YtgckhdepnmiejaaGreat
section
set_option maxRecDepth 100000
open Go.RowKit
theorem wpList_append_zeros {P : Program} (w : World) {ops : Array Oper} {rest : List Oper} {o : Oper} {a : Act} {Q : Exit → Act → World → Prop}
  (hg : o.guard = none) (s x : Operand) (t tn : TypeId) (hop : o.op = Op.call { callee := Callee.builtin Builtin.append, args := #[s, x], argTypes := #[t, tn] })
  (base : Nat) (e : TypeId) (i : TypeInfo) (k0 kn kq : IntKind) (ht : P.underlying t = some (.slice e)) (htn : P.underlying tn = some (.int kn)) (hi : P.info? e = some i) (hz : i.zero = some (.int k0 0)) (hsize : i.size = 1) (hby : i.bytes = 1)
  (v : Value) (n : Nat) (xs : List Value) (hs : a.eval s = v) (hown : w.ownsRow base e 1 v n xs) (k : Nat) (hx : a.eval x = .int kq k) (hl : n + k ≤ 100000) (hbase : base ≤ w.heap.size)
  (hK : ∀ v' w', w'.ownsRow base e 1 v' (n + k) (xs ++ List.replicate k (.int k0 0)) → w.grownBy w' v.ownBlock → wpList P ops Q rest (a.put o.dst v') w') :
  wpList P ops Q (o :: rest) a w :=
 wpList_plain hg fun K hK' => by
  obtain ⟨v', w', hr, r1, r2⟩ := run_append_zeros (P := P) base t tn o.type e i k0 kn kq ht htn hi hz hsize hby v n xs hown k hl hbase
  unfold Oper.wp execOp
  simp only [hop, resolve, invoke, builtin, Sem.run_bind, Sem.run_pure, Result.andThen_ok, List.map_toArray, List.map_cons, List.map_nil, hs, hx, hr]
  exact hK' _ _ (hK v' w' r1 r2)
theorem none_grow {w w1 : World} {o : Option Nat} (h : w.grownBy w1 o) (ho : o = none) : Grow w w1 := by
 subst ho
 exact (Below.refl _ w).grown h (Nat.le_refl _) (fun k hk => by cases hk)
set_option maxHeartbeats 1000000 in
theorem grow_nil (n : Nat) (w : World) (hn : 0 < n ∧ n ≤ 9000) :
  Calls Tryz.prog 139 #[.slice none 0 0, .int .i64 n] w fun e w' => ∃ g c, e = .returned (.slice (some ⟨g, 0, none⟩) 0 c) ∧ w'.ownsRow w.heap.size 5 1 (.slice (some ⟨g, 0, none⟩) 0 c) 0 [] ∧ Grow w w' := by
 obtain ⟨i0, hi, hz0, hz1, hz2⟩ := info_parts infoU8
 have HO : Hid (w.ownsRow w.heap.size 5 1 (.slice none 0 0) 0 []) := World.ownsRow_nil _ _ _ _
 have h1 : ¬ ((n : Int) < 0) := by omega
 have h2 : (0 : Int) < (n : Int) := by omega
 have h3 : IntKind.i64.wrap (n : Int) = n := IntWalk.i64_in _ (by omega)
 go_enter Tryz.func139, Tryz.ntmps139
 go_wp2_with (at_builtin; refine wpList_append_zeros _ rfl _ _ 25 3 rfl w.heap.size 5 i0 .u8 .i64 .i64 Tryz.underlying25 Tryz.underlying3 hi hz0 hz1 hz2 (.slice none 0 0) 0 [] rfl HO.out n rfl ?c6 ?c7 ?_)
 case c6 => omega
 intro v' w1 hown hgrow
 have hg := none_grow hgrow rfl
 obtain ⟨g, cap, cur, rfl, hb, hc, hnc, hcm, hcs, _⟩ := own_row hown (by omega)
 have HR := Lib.hid (And.intro (own_of_row (n := 0) (xs := []) hb hc (Nat.zero_le _) hcm hcs (by simp)) hg)
 clear hown hgrow hb hc hcs hg
 unfold maxLen at hcm
 go_wp2_with fail
 go_ret
 exact ⟨_, _, rfl, HR.out.1, HR.out.2⟩
set_option maxHeartbeats 1000000 in
theorem concat_any (v : Value) (rows : List (List Int)) (w : World) (hv : RowsV w v rows) (hb : Bytes rows.flatten) (hz : rows.flatten.length ≤ 9000) (h0 : 0 < rows.flatten.length) :
  Calls Tryz.prog 135 #[v] w fun e w' => ∃ u, e = .returned u ∧ NewBytes w rows.flatten u w' := by
 obtain ⟨i0, hi, hz0, hz1, hz2⟩ := info_parts infoU8
 rcases hv with ⟨rfl, ao, cap, rfl, hcap⟩ | ⟨b, off, cap, rfl, hl, hcap, hc⟩
 ·simp at h0
 ·unfold maxLen at hcap
  have HC := Lib.hid hc
  have HB := Lib.hid hb
  obtain ⟨F, hF⟩ : ∃ F : Nat → Nat, ∀ k, F k = (rows.take k).flatten.length := ⟨_, fun _ => rfl⟩
  have HF := Lib.hid hF
  have hF0 : F 0 = 0 := by rw [hF]; rfl
  obtain ⟨NN, hNN⟩ : ∃ x, rows.flatten.length = x := ⟨_, rfl⟩
  have HNN := Lib.hid hNN
  rw [hNN] at hz h0
  clear hc hb hF hNN
  go_enter Tryz.func135, Tryz.ntmps135
  go_wp2_with fail
  go_loopw [3, 11] (fun n i wr => ∃ k : Nat, k ≤ rows.length ∧ i = .int .i64 k ∧ n = .int .i64 (F k : Int) ∧ wr = w)
   (fun _ i _ => rows.length - (intOf i).toNat)
  case atStart => exact ⟨0, Nat.zero_le _, rfl, by rw [hF0]; rfl, rfl⟩
  case round =>
   obtain ⟨k, hk, rfl, rfl, rfl⟩ := hrel
   by_cases hlt : k < rows.length
   ·obtain ⟨x, hx, hr⟩ := HC.out k hlt
    have hle : F k + (rows.getD k []).length ≤ NN := by
     have hfl := flat_succ' rows k hlt
     have hle := flat_le rows (k + 1)
     rw [hfl, List.length_append, HNN.out, ← HF.out] at hle
     exact hle
    have HFL : Hid (F (k + 1) = F k + (rows.getD k []).length) := by
     refine Lib.hid ?_
     rw [HF.out, HF.out, flat_succ' rows k hlt, List.length_append]
    obtain ⟨ao, c, rfl, h1, h2⟩ := hr.shape
    clear hr
    unfold maxLen at h2
    generalize (rows.getD k []).length = m at *
    obtain ⟨p, hp⟩ : ∃ p, F k = p := ⟨_, rfl⟩
    have HP := Lib.hid hp
    rw [hp] at hle ⊢
    clear hp
    have hw : IntKind.i64.wrap ((p : Int) + (m : Int)) = (p : Int) + (m : Int) := IntWalk.i64_in _ (by omega)
    have hw2 : IntKind.i64.wrap ((k : Int) + 1) = (k : Int) + 1 := IntWalk.i64_in _ (by omega)
    have hn : ¬ ((p : Int) + (m : Int) < 0) := by omega
    go_wp2_with fail
    go_roundw
    case rel => exact ⟨k + 1, by omega, by first | rfl | simp, by rw [HFL.out, HP.out]; push_cast; rfl, trivial⟩
    case measure => simp [intOf]; omega
   ·have hkl : rows.take k = rows := List.take_of_length_le (by omega)
    have hFk : F k = NN := by rw [HF.out, hkl, HNN.out]
    rw [hFk]
    clear hkl hFk
    have HG := Lib.hid (grow_nil NN wr ⟨h0, hz⟩)
    have HZ := Lib.hid hz
    clear h0 hz
    go_wp2_with fail
    with_reducible refine HG.out.mono ?_
    rintro e w1 ⟨g, c, rfl, hown, hg⟩
    have HO := Lib.hid (And.intro hown hg)
    clear hown hg HG
    go_wp2_with fail
    go_loopw [6, 27] (fun v i wq => ∃ k : Nat, k ≤ rows.length ∧ i = .int .i64 k ∧ wq.ownsRow wr.heap.size 5 1 v (rows.take k).flatten.length ((rows.take k).flatten.map (Value.int .u8)) ∧ Grow wr wq)
     (fun _ i _ => rows.length - (intOf i).toNat)
    case atStart => exact ⟨0, Nat.zero_le _, rfl, HO.out.1, HO.out.2⟩
    case round =>
     obtain ⟨k, hk, rfl, hown, hg⟩ := hrel
     rename World => wq
     by_cases hlt : k < rows.length
     ·obtain ⟨x, hx, hr⟩ := HC.out k hlt
      have hx' : wq.cell? ⟨b, off + k, none⟩ = some x := (hg.cell (block_lt hx)).trans hx
      have hri := (hr.mono hg).2
      have hfl := flat_succ' rows k hlt
      have hle := flat_le rows (k + 1)
      rw [hfl, List.length_append] at hle
      obtain ⟨ao, c, rfl, _, _⟩ := hr.shape
      clear hr hx
      have HRI := Lib.hid hri
      have HFL := Lib.hid hfl
      clear hri hfl
      have hz := HZ.out
      rw [HNN.out] at hle
      generalize rows.getD k [] = row at *
      generalize (rows.take k).flatten = pre at *
      go_wp2_with (at_builtin; refine wpList_append_ints (k := .u8) rfl _ _ 25 rfl wr.heap.size 5 i0 1 Tryz.underlying25 hi hz0 hz1 hz2 _ _ _ rfl hown _ row rfl HRI.out ?c3 ?c4 ?c5 ?_)
      case c3 => unfold maxLen; omega
      case c4 => omega
      case c5 => exact hg.size
      ·intro v' w1 hown' hgrow
       have hg1 := grow_by hg hown hgrow
       have HO : Hid (w1.ownsRow wr.heap.size 5 1 v' (rows.take (k + 1)).flatten.length ((rows.take (k + 1)).flatten.map (Value.int .u8)) ∧ Grow wr w1) := by
        refine ⟨?_, hg1⟩
        rw [HFL.out, List.length_append, List.map_append]
        exact hown'
       clear hown' hgrow hown hg hg1
       go_wp2
       go_roundw
       case rel => exact ⟨k + 1, by omega, by go_num, HO.out.1, HO.out.2⟩
       case measure => simp [intOf]; omega
     ·have hkl : rows.take k = rows := List.take_of_length_le (by omega)
      rw [hkl] at hown
      have HO := Lib.hid (And.intro hown hg)
      clear hown hkl hg
      go_wp2_with fail
      go_ret
      exact ⟨_, rfl, HO.out.1, HO.out.2⟩
set_option maxHeartbeats 1000000 in
theorem wjoin_any (v : Value) (rows : List (List Int)) (w : World) (hv : RowsV w v rows) (hb : Bytes rows.flatten) (hz : rows.flatten.length ≤ 9000) (h0 : 0 < rows.flatten.length) :
  Calls Tryz.prog 125 #[v] w fun e w' => ∃ u, e = .returned u ∧ NewBytes w rows.flatten u w' := by
 have HJ := Lib.hid (concat_any v rows w hv hb hz h0)
 obtain ⟨ao, cap, rfl, _, _⟩ : ∃ ao cap, v = .slice ao rows.length cap ∧ True ∧ True := by
  rcases hv with ⟨rfl, ao, cap, rfl, hcap⟩ | ⟨b, off, cap, rfl, hl, hcap, hc⟩
  ·exact ⟨_, _, rfl, trivial, trivial⟩
  ·exact ⟨_, _, rfl, trivial, trivial⟩
 clear hv hb hz h0
 go_enter Tryz.func125, Tryz.ntmps125
 go_wp2_with fail
 with_reducible refine HJ.out.mono ?_
 rintro e w1 ⟨u, rfl, hu⟩
 have HU := Lib.hid hu
 clear hu HJ
 go_wp2_with fail
 go_ret
 exact ⟨_, rfl, HU.out⟩
end
end Go.Proofs.YtgckhdepnmiejaaGreat
namespace Go.Proofs.YtgckhdepnmiejaaGreat
section
set_option maxRecDepth 100000
open Go.RowKit
theorem blk7 {w : World} {B : Nat} {T : TypeId} {a b c d e f g : Value} (hh : w.heap[B]? = some (.cells #[a, b, c, d, e, f, g] T (0, 0))) :
  w.cell? ⟨B, 0, none⟩ = some a ∧ w.cell? ⟨B, 1, none⟩ = some b ∧ w.cell? ⟨B, 2, none⟩ = some c ∧ w.cell? ⟨B, 3, none⟩ = some d ∧ w.cell? ⟨B, 4, none⟩ = some e ∧ w.cell? ⟨B, 5, none⟩ = some f ∧ w.cell? ⟨B, 6, none⟩ = some g := by
 refine ⟨?_, ?_, ?_, ?_, ?_, ?_, ?_⟩ <;> simp [World.cell?, hh]
/-- The field Rest, as a slice. -/
theorem rest_bytes {w : World} {B : Nat} {T : TypeId} {a b g : Value} (hh : w.heap[B]? = some (.cells #[a, b, .int .u8 0, .int .u8 0, .int .u8 0, .int .u8 0, g] T (0, 0))) : BytesV w (.slice (some ⟨B, 2, none⟩) 4 4) [0, 0, 0, 0] := by
 obtain ⟨_, _, h2, h3, h4, h5, _⟩ := blk7 hh
 refine ⟨by intro x hx; simp at hx; omega, Or.inr ⟨B, 2, 4, rfl, Nat.le_refl _, by unfold maxLen; omega, fun i hi => ?_⟩⟩
 match i, hi with
 | 0, _ => exact h2
 | 1, _ => exact h3
 | 2, _ => exact h4
 | 3, _ => exact h5
def rowsI (zs : List Int) : List (List Int) := [[11, 0, 0, 0], [0, 0, 0, 0], zs]
def joinI (zs : List Int) : List Int := [11, 0, 0, 0, 0, 0, 0, 0] ++ zs
theorem rowsI_flat (zs : List Int) : (rowsI zs).flatten = joinI zs := by simp [rowsI, joinI]
theorem joinI_length (zs : List Int) : (joinI zs).length = 8 + zs.length := by simp [joinI]; omega
theorem joinI_bytes {zs : List Int} (h : Bytes zs) : Bytes (joinI zs) := by
 intro x hx
 unfold joinI at hx
 rcases List.mem_append.1 hx with hx | hx
 ·simp at hx; omega
 ·exact h x hx
def Icmped (w : World) (n : Nat) (e : Ending) (w' : World) : Prop := ∃ u ys, e = .returned u ∧ ys.length = n ∧ Bytes ys ∧ NewBytes w ys u w'
def icmpV (v : Value) : Value := .agg #[.int .u8 11, .int .u8 0, .int .u8 0, .int .u8 0, .int .u8 0, .int .u8 0, v]
set_option maxHeartbeats 2000000 in
theorem icmpbytes {w : World} {v : Value} {zs : List Int} (hv : BytesV w v zs) (hl : zs.length ≤ 100) :
  Calls Tryz.prog 108 #[icmpV v] w (Icmped w (8 + zs.length)) := by
 obtain ⟨ao, cap, rfl, hl1, hl2⟩ := hv.shape
 have hM := heap_alloc_new w (.cells #[.int .u8 11, .int .u8 0, .int .u8 0, .int .u8 0, .int .u8 0, .int .u8 0, .slice ao zs.length cap] 177)
 have hg : Grow w (w.alloc (.cells #[.int .u8 11, .int .u8 0, .int .u8 0, .int .u8 0, .int .u8 0, .int .u8 0, .slice ao zs.length cap] 177)) := (Grow.refl w).alloc _
 have HV : Hid (BytesV (w.alloc (.cells #[.int .u8 11, .int .u8 0, .int .u8 0, .int .u8 0, .int .u8 0, .int .u8 0, .slice ao zs.length cap] 177)) (.slice ao zs.length cap) zs) := hv.mono hg
 have HM := Lib.hid hM
 have HG := Lib.hid hg
 have HFl := Lib.hid (rowsI_flat zs)
 have HJl := Lib.hid (joinI_length zs)
 have HJb := Lib.hid (joinI_bytes hv.1)
 have HRw : Hid (rowsI zs = [[11, 0, 0, 0], [0, 0, 0, 0], zs]) := rfl
 clear hM hg hv
 obtain ⟨L, hL⟩ : ∃ L, zs.length = L := ⟨_, rfl⟩
 rw [hL] at HV HM HG HJl hl hl1 ⊢
 obtain ⟨J, hJ⟩ : ∃ J, joinI zs = J := ⟨_, rfl⟩
 obtain ⟨rows, hrows⟩ : ∃ r, rowsI zs = r := ⟨_, rfl⟩
 rw [hJ] at HFl HJl HJb
 rw [hrows] at HFl HRw
 unfold maxLen at hl2
 obtain ⟨N, hN⟩ : ∃ N, 8 + L = N := ⟨_, rfl⟩
 have HN := Lib.hid hN
 rw [hN] at HJl ⊢
 clear hL hJ hrows hN
 unfold icmpV
 go_enter Tryz.func108, Tryz.ntmps108
 go_wp2_with fail
 obtain ⟨w0, hw0⟩ : ∃ x, w.alloc (.cells #[.int .u8 11, .int .u8 0, .int .u8 0, .int .u8 0, .int .u8 0, .int .u8 0, .slice ao L cap] 177) = x := ⟨_, rfl⟩
 rw [hw0] at HV HM HG ⊢
 obtain ⟨M, hM⟩ : ∃ x, w.heap.size = x := ⟨_, rfl⟩
 have HMs := Lib.hid hM
 have HS0 := Lib.hid HG.out.size
 rw [hM] at HM ⊢
 clear hw0 hM
 refine wpRg 11 ?_
 simp only [List.take_succ_cons, List.take_zero, List.drop_succ_cons, List.drop_zero]
 repeat (refine wpHp fun K hK => ?_; go_simp; refine hK _ ?_; clear hK K)
 refine wpHd (.int .u8 11) (fun w' hg => ?_) ?_
 ·obtain ⟨y0, y1, y2, y3, y4, y5, y6⟩ := blk7 ((hg.below.block _ (lt_of_block HM.out)).trans HM.out)
  clear hg
  go_simp
  exact Below.refl _ _
 try go_simp
 repeat (refine wpHp fun K hK => ?_; go_simp; refine hK _ ?_; clear hK K)
 refine wpHd (.int .u8 0) (fun w' hg => ?_) ?_
 ·obtain ⟨y0, y1, y2, y3, y4, y5, y6⟩ := blk7 ((hg.below.block _ (lt_of_block HM.out)).trans HM.out)
  clear hg
  go_simp
  exact Below.refl _ _
 try go_simp
 refine wpH_hid' (fun u x => BytesV x u [11, 0, 0, 0]) (by intro _ _ h; cases h) rfl (by rfl) (bytes_stay _) (by rfl) (by rfl) (fun w' hg => ?_) ?_
 ·have hr := bytes_new (w := w') [.int .u8 11, .int .u8 0, .int .u8 0, .int .u8 0] [11, 0, 0, 0] 5 rfl (by intro x hx; simp at hx; omega) (by unfold maxLen; simp)
  simp only [List.length_cons, List.length_nil, Nat.zero_add] at hr
  have HR := Lib.hid hr
  clear hg hr
  go_simp
  exact ⟨HR.out, (Below.refl _ _).alloc (Nat.le_refl _) _⟩
 try go_simp
 repeat (refine wpHp fun K hK => ?_; go_simp; refine hK _ ?_; clear hK K)
 refine wpHd (.slice ao L cap) (fun w' hg => ?_) ?_
 ·obtain ⟨y0, y1, y2, y3, y4, y5, y6⟩ := blk7 ((hg.below.block _ (lt_of_block HM.out)).trans HM.out)
  clear hg
  go_simp
  exact Below.refl _ _
 try go_simp
 refine wpH_hid (fun u x => RowsV x u rows) rfl (by rfl) (rows_stay _) (fun xs => by rfl) (fun xs w' hg hf => ?_) ?_
 ·have h1 := hf _ (List.Mem.head _) (by rfl)
  try dsimp only at h1
  have hr2 := rest_bytes ((hg.below.block _ (lt_of_block HM.out)).trans HM.out)
  have hr3 := HV.out.mono hg.below
  simp only [fill]
  generalize xs 10 = y10 at *
  obtain ⟨ya, yc, rfl, _, _⟩ := h1.shape
  have hr := rows_new (w := w') [.slice ya 4 yc, .slice (some ⟨M, 2, none⟩) 4 4, .slice ao L cap] rows 25 (by rw [HRw.out]; rfl) (by unfold maxLen; simp) (fun i x hx => by
   rw [HRw.out]
   match i, hx with
   | 0, hx => simp at hx; subst hx; exact h1
   | 1, hx => simp at hx; subst hx; exact hr2
   | 2, hx => simp at hx; subst hx; exact hr3)
  simp only [List.length_cons, List.length_nil, Nat.zero_add] at hr
  have HR := Lib.hid hr
  clear hg hr hr2 hr3 h1 hf
  go_simp
  exact ⟨HR.out, (Below.refl _ _).alloc (Nat.le_refl _) _⟩
 try go_simp
 refine wpH_hid (OwnB w0.heap.size J) rfl (by rfl) (fun u x x' hg h => own_grow h hg.below) (fun xs => by rfl) (fun xs w' hg hf => ?_) ?_
 ·have h1 := hf _ (List.Mem.head _) (by rfl)
  try dsimp only at h1
  have h := wjoin_any _ _ _ h1 (by rw [HFl.out]; exact HJb.out) (by rw [HFl.out, HJl.out]; have := HN.out; omega) (by rw [HFl.out, HJl.out]; have := HN.out; omega)
  rw [HFl.out] at h
  have HS := Lib.hid hg.below.size
  clear hf hg h1
  simp only [fill]
  generalize xs 15 = y15 at *
  go_simp
  with_reducible refine h.mono ?_
  rintro e w1 ⟨u, rfl, h⟩
  exact ⟨_, rfl, own_less h.1 HS.out, h.2⟩
 try go_simp
 refine wpH_nil ?_
 intro xs w1 hg hx1 hx2
 have hy := hx2 _ _ (List.Mem.head _)
 try dsimp only at hy
 have HG1 := Lib.hid (HG.out.trans hg.below)
 clear hg hx1 hx2
 simp only [fill]
 generalize xs 16 = y16 at *
 generalize xs 15 = y15 at *
 generalize xs 10 = y10 at *
 unfold OwnB at hy
 obtain ⟨g, cp, cur, rfl, hbg, hcur, hnc, hcm, _, _⟩ := own_row hy (by rw [HJl.out]; have := HN.out; omega)
 rw [HJl.out] at hy hnc ⊢
 have HO := Lib.hid hy
 have HB := Lib.hid (show BytesV w1 _ J from ⟨HJb.out, ints_of_owns (by rw [← HJl.out] at hy; exact hy)⟩)
 rw [HJl.out] at HB
 clear hy hbg hcur
 unfold maxLen at hcm
 go_simp
 go_wp2_with fail
 have hr := rows_new (w := w1) [.slice (some ⟨g, 0, none⟩) N cp] [J] 25 rfl (by unfold maxLen; simp) (fun i x hx => by
  match i, hx with
  | 0, hx => simp at hx; subst hx; exact HB.out)
 have hg2 : Grow w1 (w1.alloc (.cells #[.slice (some ⟨g, 0, none⟩) N cp] 25)) := (Grow.refl w1).alloc _
 have hq := check_any _ _ _ hr
 simp only [List.flatten_cons, List.flatten_nil, List.append_nil, List.length_cons, List.length_nil, Nat.zero_add] at hq
 obtain ⟨CK, hCK⟩ : ∃ x, 65535 - nrm (bsum J) = x := ⟨_, rfl⟩
 have HCB : Hid (0 ≤ CK ∧ CK < 65536) := by rw [← hCK]; have h1 := nrm_bd (bsum J); exact Lib.hid (by omega)
 rw [hCK] at hq
 with_reducible refine hq.mono ?_
 clear hq hr
 rintro e w2 ⟨rfl, hg⟩
 have HG2 := Lib.hid (HG1.out.trans (hg2.trans hg))
 have HO2 := Lib.hid (own_grow HO.out (hg2.trans hg))
 clear hg hg2 hCK
 have hw : IntKind.u64.wrap CK = CK := by have := HCB.out; simp [IntKind.wrap, IntKind.signed, IntKind.bits]; omega
 go_wp2_with fail
 with_reducible refine (wput_2 CK _ HCB.out).mono ?_
 rintro e w3 ⟨v, rfl, h⟩
 have HY : Hid (BytesV w3 v (bel 2 CK)) := newb_bytes h (bel_bytes _ _)
 have HO3 := Lib.hid (own_grow HO2.out h.2)
 have HG3 := Lib.hid (HG2.out.trans h.2)
 clear h HO HO2 HG2 HG1 HB
 obtain ⟨va, vc, rfl, _, _⟩ := HY.out.shape
 rw [bel_length] at HY ⊢
 have hN2 : 8 ≤ N := by have := HN.out; omega
 have k1 : (2 : Int) ≤ (N : Int) := by omega
 have k2 : (N : Int) ≤ (cp : Int) := by omega
 have k3 : ¬ cp = 2 := by omega
 have k4 : (2 : Int) ≤ (cp : Int) := by omega
 have HLe := Lib.hid HG3.out.size
 have HPl : Hid ((putB J 2 (bel 2 CK)).length = N) := by
  refine Lib.hid ?_
  unfold putB
  rw [List.length_append, List.length_append, List.length_take, List.length_drop, bel_length, HJl.out]
  omega
 have HPB : Hid (Bytes (putB J 2 (bel 2 CK))) := by
  refine Lib.hid ?_
  unfold putB
  intro x hx
  rcases List.mem_append.1 hx with hx | hx
  ·rcases List.mem_append.1 hx with hx | hx
   ·exact HJb.out x (List.mem_of_mem_take hx)
   ·exact bel_bytes _ _ x hx
  ·exact HJb.out x (List.mem_of_mem_drop hx)
 have HM2 : Hid (w.heap.size ≤ w0.heap.size) := Lib.hid HS0.out
 go_wp2_with (refine wpList_put2 rfl _ _ 25 5 rfl Tryz.underlying25 (by kernel_rfl) g N cp 2 (N - 2) (cp - 2) rfl (.slice va 2 vc) rfl (bel 2 CK) 2 (bel_length _ _) (by omega) HY.out (by omega) w0.heap.size w3 J HO3.out (by omega) (Below.refl _ _) ?_)
 intro w4 vv HO4 hb4
 have HG4 : Hid (Grow w w4) := ⟨hb4.os.trans HG3.out.os, hb4.tape.trans HG3.out.tape, hb4.output.trans HG3.out.output, Nat.le_trans HG3.out.size hb4.size, fun k hk => (hb4.block k (Nat.lt_of_lt_of_le hk HM2.out)).trans (HG3.out.block k hk)⟩
 clear hb4
 go_wp2_with fail
 refine bodyPost_ret (v := .slice (some ⟨g, 0, none⟩) N cp) (by simp [results, Tryz.results108, go_sem]) rfl ?_
 exact ⟨_, putB J 2 (bel 2 CK), rfl, HPl.out, HPB.out, by rw [HPl.out]; exact own_less HO4.out HM2.out, HG4.out⟩
end
end Go.Proofs.YtgckhdepnmiejaaGreat
namespace Go.Proofs.YtgckhdepnmiejaaGreat
section
set_option maxRecDepth 100000
open Go.RowKit
/-- The header of a message that is sent. -/
def errHd (src dst : Int) : Hd := ⟨0, 0, false, false, false, 0, 64, 1, src, dst, .slice none 0 0, []⟩
theorem errHd_ok {w : World} {src dst : Int} (hs : U32 src) (hd : U32 dst) : HdOk w (errHd src dst) :=
 ⟨by show U8 0; unfold U8; omega, by show U16 0; unfold U16; omega, by show -9223372036854775808 ≤ (0 : Int) ∧ (0 : Int) ≤ 9223372036854775807; omega, by show U8 64; unfold U8; omega, by show U8 1; unfold U8; omega, hs, hd, ⟨Bytes.nil, Or.inl ⟨rfl, none, 0, rfl, Nat.zero_le _, fun _ => rfl⟩⟩⟩
theorem errHd_may (src dst : Int) : mayH (errHd src dst) = true := by
 exact decide_eq_true ⟨rfl, by show 0 ≤ 40; omega, rfl, by show (0 : Int) ≤ 0; omega, by show (0 : Int) ≤ 8191; omega⟩
def SomeYs (n : Nat) (u : Value) (x : World) : Prop := ∃ ys, ys.length = n ∧ BytesV x u ys
def SomeP (base n : Nat) (src dst : Int) (u : Value) (x : World) : Prop := ∃ v ys, u = .tuple #[v, .int .i64 0] ∧ ys.length = n ∧ Bytes ys ∧ OwnB base (pkt (errHd src dst) ys) v x
def SomeQ (base n : Nat) (src dst : Int) (v : Value) (x : World) : Prop := ∃ ys, ys.length = n ∧ Bytes ys ∧ OwnB base (pkt (errHd src dst) ys) v x
def ErrPkt (w : World) (n : Nat) (src dst : Int) (e : Ending) (w' : World) : Prop := ∃ u ys, e = .returned (.tuple #[u, .int .i64 0]) ∧ ys.length = n ∧ Bytes ys ∧ NewBytes w (pkt (errHd src dst) ys) u w'
set_option maxHeartbeats 2000000 in
theorem icmpsend {w : World} {v : Value} {zs : List Int} {src dst : Int} (hv : BytesV w v zs) (hl : zs.length ≤ 100) (hs : U32 src) (hd : U32 dst) :
  Calls Tryz.prog 89 #[icmpV v, .agg #[.int .u8 0, .int .u16 0, .bool false, .bool false, .bool false, .int .i64 0, .int .u8 0, .int .u8 0, .int .u32 src, .int .u32 dst, .slice none 0 0]] w (ErrPkt w (8 + zs.length) src dst) := by
 obtain ⟨ao, cap, rfl, hl1, hl2⟩ := hv.shape
 have HIB : Hid (∀ x, Grow w x → Calls Tryz.prog 108 #[.agg #[.int .u8 11, .int .u8 0, .int .u8 0, .int .u8 0, .int .u8 0, .int .u8 0, .slice ao zs.length cap]] x (Icmped x (8 + zs.length))) := fun x hx => icmpbytes (hv.mono hx) hl
 obtain ⟨L, hL⟩ : ∃ L, zs.length = L := ⟨_, rfl⟩
 rw [hL] at HIB hl hl1 ⊢
 obtain ⟨N, hN⟩ : ∃ N, 8 + L = N := ⟨_, rfl⟩
 have HN : Hid (N ≤ 108) := Lib.hid (by omega)
 rw [hN] at HIB ⊢
 have HPB : Hid (∀ x u, SomeYs N u x → Calls Tryz.prog 50 #[.agg #[.int .u8 0, .int .u16 0, .bool false, .bool false, .bool false, .int .i64 0, .int .u8 64, .int .u8 1, .int .u32 src, .int .u32 dst, .slice none 0 0], u] x fun e w' => ∃ v, e = .returned v ∧ SomeP x.heap.size N src dst v w' ∧ Grow x w') := fun x u hu => by
  obtain ⟨ys, h1, h2⟩ := hu
  refine (ipbytes_any (errHd src dst) ys u x (errHd_ok hs hd) (errHd_may _ _) h2 (by rw [h1]; show 20 + 0 + N ≤ 65535; have := HN.out; omega)).mono ?_
  rintro e w' ⟨v, rfl, h3⟩
  exact ⟨_, rfl, ⟨v, ys, rfl, h1, h2.1, h3.1⟩, h3.2⟩
 clear hv hL hN hl hl1
 unfold maxLen at hl2
 unfold icmpV
 have hM := heap_alloc_new w (.cells #[.int .u8 11, .int .u8 0, .int .u8 0, .int .u8 0, .int .u8 0, .int .u8 0, .slice ao L cap] 177)
 have hg : Grow w (w.alloc (.cells #[.int .u8 11, .int .u8 0, .int .u8 0, .int .u8 0, .int .u8 0, .int .u8 0, .slice ao L cap] 177)) := (Grow.refl w).alloc _
 go_enter Tryz.func89, Tryz.ntmps89
 go_upto_region 2 with fail
 clear hM hg
 have hsA : (w.alloc (.cells #[.int .u8 11, .int .u8 0, .int .u8 0, .int .u8 0, .int .u8 0, .int .u8 0, .slice ao L cap] 177)).heap.size = w.heap.size + 1 := World.size_alloc _ _
 have hH := heap_alloc_new (w.alloc (.cells #[.int .u8 11, .int .u8 0, .int .u8 0, .int .u8 0, .int .u8 0, .int .u8 0, .slice ao L cap] 177)) (.cells #[.int .u8 0, .int .u16 0, .bool false, .bool false, .bool false, .int .i64 0, .int .u8 64, .int .u8 1, .int .u32 src, .int .u32 dst, .slice none 0 0] 27)
 rw [hsA] at hH
 have hM : ((w.alloc (.cells #[.int .u8 11, .int .u8 0, .int .u8 0, .int .u8 0, .int .u8 0, .int .u8 0, .slice ao L cap] 177)).alloc (.cells #[.int .u8 0, .int .u16 0, .bool false, .bool false, .bool false, .int .i64 0, .int .u8 64, .int .u8 1, .int .u32 src, .int .u32 dst, .slice none 0 0] 27)).heap[w.heap.size]? = some (.cells #[.int .u8 11, .int .u8 0, .int .u8 0, .int .u8 0, .int .u8 0, .int .u8 0, .slice ao L cap] 177 (0, 0)) := (Below.heap_alloc _ _ _ (by rw [hsA]; exact Nat.lt_succ_self _)).trans (heap_alloc_new w _)
 have hG : Grow w ((w.alloc (.cells #[.int .u8 11, .int .u8 0, .int .u8 0, .int .u8 0, .int .u8 0, .int .u8 0, .slice ao L cap] 177)).alloc (.cells #[.int .u8 0, .int .u16 0, .bool false, .bool false, .bool false, .int .i64 0, .int .u8 64, .int .u8 1, .int .u32 src, .int .u32 dst, .slice none 0 0] 27)) := ((Grow.refl w).alloc _).alloc _
 obtain ⟨w0, hw0⟩ : ∃ x, (w.alloc (.cells #[.int .u8 11, .int .u8 0, .int .u8 0, .int .u8 0, .int .u8 0, .int .u8 0, .slice ao L cap] 177)).alloc (.cells #[.int .u8 0, .int .u16 0, .bool false, .bool false, .bool false, .int .i64 0, .int .u8 64, .int .u8 1, .int .u32 src, .int .u32 dst, .slice none 0 0] 27) = x := ⟨_, rfl⟩
 rw [hw0] at hH hM hG ⊢
 obtain ⟨B, hB⟩ : ∃ x, w.heap.size = x := ⟨_, rfl⟩
 have HBs := Lib.hid hB
 rw [hB] at hH hM ⊢
 have HM := Lib.hid hM
 have HH := Lib.hid hH
 have HG := Lib.hid hG
 have HS0 := Lib.hid hG.size
 clear hH hM hG hw0 hB hsA
 refine wpRg 6 ?_
 simp only [List.take_succ_cons, List.take_zero, List.drop_succ_cons, List.drop_zero]
 refine wpHd (.agg #[.int .u8 0, .int .u16 0, .bool false, .bool false, .bool false, .int .i64 0, .int .u8 64, .int .u8 1, .int .u32 src, .int .u32 dst, .slice none 0 0]) (fun w' hg => ?_) ?_
 ·obtain ⟨⟨y0, y1, y2, y3, y4, y5⟩, y6, y7, y8, y9, y10⟩ := blkH ((hg.below.block _ (lt_of_block HH.out)).trans HH.out)
  clear hg
  go_simp
  exact Below.refl _ _
 try go_simp
 refine wpHd (.agg #[.int .u8 11, .int .u8 0, .int .u8 0, .int .u8 0, .int .u8 0, .int .u8 0, .slice ao L cap]) (fun w' hg => ?_) ?_
 ·obtain ⟨y0, y1, y2, y3, y4, y5, y6⟩ := blk7 ((hg.below.block _ (lt_of_block HM.out)).trans HM.out)
  clear hg
  go_simp
  exact Below.refl _ _
 try go_simp
 refine wpH_hid' (SomeYs N) (by intro _ _ h; cases h) rfl (by rfl) (fun u x x' hg ⟨ys, h1, h2⟩ => ⟨ys, h1, h2.mono hg.below⟩) (by rfl) (by rfl) (fun w' hg => ?_) ?_
 ·have h := HIB.out w' (HG.out.trans hg.below)
  clear hg
  go_simp
  with_reducible refine h.mono ?_
  rintro e w1 ⟨u, ys, rfl, h1, h2, h3⟩
  exact ⟨_, rfl, ⟨ys, h1, newb_bytes h3 h2⟩, h3.2⟩
 try go_simp
 refine wpH_hid (SomeP w0.heap.size N src dst) rfl (by rfl) (fun u x x' hg ⟨v, ys, h1, h2, h3, h4⟩ => ⟨v, ys, h1, h2, h3, own_grow h4 hg.below⟩) (fun xs => by rfl) (fun xs w' hg hf => ?_) ?_
 ·have h1 := hf _ (List.Mem.head _) (by rfl)
  try dsimp only at h1
  have h := HPB.out _ _ h1
  have HS := Lib.hid hg.below.size
  clear hf hg h1
  simp only [fill]
  generalize xs 10 = y10 at *
  go_simp
  with_reducible refine h.mono ?_
  rintro e w1 ⟨u, rfl, ⟨v, ys, h1, h2, h3, h4⟩, h5⟩
  exact ⟨_, rfl, ⟨v, ys, h1, h2, h3, own_less h4 HS.out⟩, h5⟩
 try go_simp
 refine wpH_hid (SomeQ w0.heap.size N src dst) rfl (by rfl) (fun u x x' hg ⟨ys, h2, h3, h4⟩ => ⟨ys, h2, h3, own_grow h4 hg.below⟩) (fun xs => by rfl) (fun xs w' hg hf => ?_) ?_
 ·have h1 := hf _ (List.Mem.head _) (by rfl)
  try dsimp only at h1
  clear hf hg
  simp only [fill]
  generalize xs 11 = y11 at *
  generalize xs 10 = y10 at *
  obtain ⟨v, ys, rfl, h2, h3, h4⟩ := h1
  have HR := Lib.hid (And.intro h2 (And.intro h3 h4))
  clear h2 h3 h4
  go_simp
  exact ⟨⟨ys, HR.out⟩, Below.refl _ _⟩
 try go_simp
 refine wpH_det (.int .i64 0) (by rfl) (fun xs => by rfl) (fun xs w' hg hf => ?_) ?_
 ·have h1 := hf _ (List.Mem.tail _ (List.Mem.head _)) (by rfl)
  try dsimp only at h1
  clear hf hg
  simp only [fill]
  generalize xs 11 = y11 at *
  generalize xs 12 = y12 at *
  generalize xs 10 = y10 at *
  obtain ⟨v, ys, rfl, h2, h3, h4⟩ := h1
  clear h2 h3 h4
  go_simp
  exact Below.refl _ _
 try go_simp
 refine wpH_nil ?_
 intro xs w1 hg hx1 hx2
 have hy := hx2 _ _ (List.Mem.head _)
 try dsimp only at hy
 have HG1 := Lib.hid (HG.out.trans hg.below)
 clear hg hx1 hx2
 simp only [fill]
 generalize xs 12 = v at *
 generalize xs 11 = y11 at *
 generalize xs 10 = y10 at *
 obtain ⟨ys, h1, h2, h3⟩ := hy
 have HR := Lib.hid (And.intro h1 (And.intro h2 h3))
 clear h1 h2 h3
 go_simp
 go_wp2_with fail
 refine bodyPost_ret (v := .tuple #[v, .int .i64 0]) (by simp [results, Tryz.results89, go_sem]) rfl ?_
 exact ⟨v, ys, rfl, HR.out.1, HR.out.2.1, own_less HR.out.2.2 HS0.out, HG1.out⟩
end
end Go.Proofs.YtgckhdepnmiejaaGreat
namespace Go.Proofs.YtgckhdepnmiejaaGreat
section
set_option maxRecDepth 100000
open Go.RowKit
theorem load150 {w : World} {H : Nat} {v : Value} (h : w.cell? ⟨H, 0, none⟩ = some v) : (loadVar 150 ⟨H, 0, none⟩).run Tryz.prog w = .ok v w := by simp [go_sem, h]
theorem und152 (w : World) : (underlying 152).run Tryz.prog w = .ok (.pointer 150) w := by kernel_rfl
theorem recv152 {w : World} {H : Nat} {v : Value} (s : String) (h : w.cell? ⟨H, 0, none⟩ = some v) : (receiverAt 152 (.val (.pointer (some ⟨H, 0, none⟩))) false (some s)).run Tryz.prog w = .ok v w := by
 unfold receiverAt
 rw [Sem.run_bind, und152]
 show ((loadVar 150 ⟨H, 0, none⟩).run Tryz.prog w) = _
 exact load150 h
theorem meth152 {w : World} {H : Nat} {v : Value} (nm : String) (f : FuncId) (hm : (Tryz.prog.info? 152).bind (fun i => (i.methods.find? (·.name == nm)).map fun m => (m.path, m.func)) = some (#[], some (f, false))) (h : w.cell? ⟨H, 0, none⟩ = some v) : (method 370 152 (.pointer (some ⟨H, 0, none⟩)) nm).run Tryz.prog w = .ok (f, v) w := by
 unfold method
 simp only [Sem.run_bind]
 obtain ⟨i, hi⟩ : ∃ i, Tryz.prog.info? 152 = some i := by
  cases h : Tryz.prog.info? 152 with
  | none => exact absurd (show (Tryz.prog.info? 152).isSome = true by kernel_rfl) (by rw [h]; decide)
  | some i => exact ⟨i, rfl⟩
 rw [hi] at hm
 have ht : (typeInfo 152).run Tryz.prog w = .ok i w := by simp [typeInfo, hi]
 rw [ht]
 simp only [Result.andThen_ok]
 simp only [Option.bind_some] at hm
 obtain ⟨m, hf, hm⟩ := Option.map_eq_some_iff.1 hm
 injection hm with hm1 hm2
 rw [hf]
 simp only [Sem.run_bind, hm1, hm2]
 show ((receiverAt 152 (.val (.pointer (some ⟨H, 0, none⟩))) false (some _)).run Tryz.prog w).andThen _ = _
 rw [recv152 _ h]
 rfl
theorem methLen {w : World} {H : Nat} {v : Value} (h : w.cell? ⟨H, 0, none⟩ = some v) : (method 370 152 (.pointer (some ⟨H, 0, none⟩)) "Len").run Tryz.prog w = .ok (165, v) w := meth152 _ _ (by kernel_rfl) h
theorem methLess {w : World} {H : Nat} {v : Value} (h : w.cell? ⟨H, 0, none⟩ = some v) : (method 370 152 (.pointer (some ⟨H, 0, none⟩)) "Less").run Tryz.prog w = .ok (166, v) w := meth152 _ _ (by kernel_rfl) h
theorem methSwap {w : World} {H : Nat} {v : Value} (h : w.cell? ⟨H, 0, none⟩ = some v) : (method 370 152 (.pointer (some ⟨H, 0, none⟩)) "Swap").run Tryz.prog w = .ok (167, v) w := meth152 _ _ (by kernel_rfl) h
theorem methPop (H : Nat) (w : World) : (method 370 152 (.pointer (some ⟨H, 0, none⟩)) "Pop").run Tryz.prog w = .ok (168, .pointer (some ⟨H, 0, none⟩)) w := by kernel_rfl
theorem methPush (H : Nat) (w : World) : (method 370 152 (.pointer (some ⟨H, 0, none⟩)) "Push").run Tryz.prog w = .ok (169, .pointer (some ⟨H, 0, none⟩)) w := by kernel_rfl
set_option maxHeartbeats 1000000 in
theorem places_len (w : World) (a : Option Addr) (n c : Nat) : Calls Tryz.prog 165 #[.slice a n c] w fun e w' => e = .returned (.int .i64 n) ∧ w' = w := by
 go_enter Tryz.func165, Tryz.ntmps165
 go_wp2_with fail
 go_ret
 exact ⟨by first | rfl | simp, rfl⟩
/-- Some order. -/
def SomeOrd (w : World) (e : Ending) (w' : World) : Prop := (∃ b : Bool, e = .returned (.bool b)) ∧ Grow w w'
set_option maxHeartbeats 1000000 in
theorem places_less {w : World} {g n c i j : Nat} {x y : Int} (hi : i < n) (hj : j < n) (hx : w.cell? ⟨g, i, none⟩ = some (.int .i64 x)) (hy : w.cell? ⟨g, j, none⟩ = some (.int .i64 y)) :
  Calls Tryz.prog 166 #[.slice (some ⟨g, 0, none⟩) n c, .int .i64 i, .int .i64 j] w (SomeOrd w) := by
 have HX := Lib.hid hx
 have HY := Lib.hid hy
 have h1 : (i : Int) < n := by omega
 have h2 : (j : Int) < n := by omega
 clear hx hy
 go_enter Tryz.func166, Tryz.ntmps166
 go_wp2_with fail
 refine wpRg 10 ?_
 simp only [List.take_succ_cons, List.take_zero, List.drop_succ_cons, List.drop_zero]
 repeat (refine wpHp fun K hK => ?_; go_simp; refine hK _ ?_; clear hK K)
 refine wpHd (.int .i64 x) (fun w' hg => ?_) ?_
 ·have y0 := (hg.below.cell (block_lt HX.out)).trans HX.out
  clear hg
  go_simp
  exact Below.refl _ _
 try go_simp
 repeat (refine wpHp fun K hK => ?_; go_simp; refine hK _ ?_; clear hK K)
 refine wpHd (.int .i64 y) (fun w' hg => ?_) ?_
 ·have y0 := (hg.below.cell (block_lt HY.out)).trans HY.out
  clear hg
  go_simp
  exact Below.refl _ _
 try go_simp
 repeat (refine wpHp fun K hK => ?_; go_simp; refine hK _ ?_; clear hK K)
 refine wpH_nil ?_
 intro xs w4 hg hx1 hx2
 have HG4 := Lib.hid hg.below
 clear hg hx1 hx2
 simp only [fill]
 go_simp
 go_wp2_with fail
 refine bodyPost_ret (v := .bool (decide (x < y))) (by simp [results, Tryz.results166, go_sem]) rfl ?_
 exact ⟨⟨_, rfl⟩, HG4.out⟩
end
end Go.Proofs.YtgckhdepnmiejaaGreat
namespace Go.Proofs.YtgckhdepnmiejaaGreat
section
set_option maxRecDepth 100000
open Go.RowKit
def intsL (xs : List Int) : List Value := xs.map (Value.int .i64)
theorem intsL_set (xs : List Int) (i : Nat) (x : Int) : (intsL xs).set i (.int .i64 x) = intsL (xs.set i x) := by unfold intsL; rw [List.map_set]
theorem own_len {w : World} {base n : Nat} {v : Value} {xs : List Int} (h : w.ownsRow base 3 1 v n (intsL xs)) : xs.length = n := by simpa [intsL] using h.1
theorem own_cell {w : World} {base g n cap : Nat} {xs : List Int} (h : w.ownsRow base 3 1 (.slice (some ⟨g, 0, none⟩) n cap) n (intsL xs)) {i : Nat} (hi : i < n) : w.cell? ⟨g, i, none⟩ = some (.int .i64 (xs.getD i 0)) := by
 have hl := own_len h
 rw [World.ownsRow.cellAt h i (by omega)]
 simp [intsL, hl, hi]
set_option maxHeartbeats 2000000 in
theorem places_swap {w : World} {base g n cap i j : Nat} {xs : List Int} (ho : w.ownsRow base 3 1 (.slice (some ⟨g, 0, none⟩) n cap) n (intsL xs)) (hi : i < n) (hj : j < n) :
  Calls Tryz.prog 167 #[.slice (some ⟨g, 0, none⟩) n cap, .int .i64 i, .int .i64 j] w fun e w' => (∃ v, e = .returned v) ∧ (∃ xs', w'.ownsRow base 3 1 (.slice (some ⟨g, 0, none⟩) n cap) n (intsL xs')) ∧ GrowBut (Only g) w w' := by
 have HO := Lib.hid ho
 have h1 : (i : Int) < n := by omega
 have h2 : (j : Int) < n := by omega
 obtain ⟨x, hx⟩ : ∃ x, xs.getD i 0 = x := ⟨_, rfl⟩
 obtain ⟨y, hy⟩ : ∃ x, xs.getD j 0 = x := ⟨_, rfl⟩
 have HX : Hid (∀ z : World, z.ownsRow base 3 1 (.slice (some ⟨g, 0, none⟩) n cap) n (intsL xs) → z.cell? ⟨g, i, none⟩ = some (.int .i64 x)) := fun z hz => by rw [← hx]; exact own_cell hz hi
 have HY : Hid (∀ z : World, z.ownsRow base 3 1 (.slice (some ⟨g, 0, none⟩) n cap) n (intsL xs) → z.cell? ⟨g, j, none⟩ = some (.int .i64 y)) := fun z hz => by rw [← hy]; exact own_cell hz hj
 have HXi : Hid (∀ (z : World) (ys : List Int), z.ownsRow base 3 1 (.slice (some ⟨g, 0, none⟩) n cap) n (intsL ys) → ∃ u, z.cell? ⟨g, i, none⟩ = some u) := fun z ys hz => ⟨_, own_cell hz hi⟩
 have HYj : Hid (∀ (z : World) (ys : List Int), z.ownsRow base 3 1 (.slice (some ⟨g, 0, none⟩) n cap) n (intsL ys) → ∃ u, z.cell? ⟨g, j, none⟩ = some u) := fun z ys hz => ⟨_, own_cell hz hj⟩
 clear ho hx hy hi hj
 go_enter Tryz.func167, Tryz.ntmps167
 go_wp2_with fail
 refine wp_region_grow 16 [13, 15] (Only g) (fun z => z.ownsRow base 3 1 (.slice (some ⟨g, 0, none⟩) n cap) n (intsL xs)) (by kernel_rfl) (by kernel_rfl) (by rfl) (fun z z' hb h => own_grow h hb) HO.out ?_
 simp only [List.take_succ_cons, List.take_zero, List.drop_succ_cons, List.drop_zero]
 repeat (refine wpHp fun K hK => ?_; go_simp; refine hK _ ?_; clear hK K)
 refine wpH_sdet' (.int .i64 y) (by intro _ _ h; cases h) (by rfl) (by kernel_rfl) (by rfl) (by rfl) (fun w' hg hC => ?_) ?_
 ·have y0 := HY.out _ hC
  clear hg hC
  go_simp
  exact Below.refl _ _
 try go_simp
 repeat (refine wpHp fun K hK => ?_; go_simp; refine hK _ ?_; clear hK K)
 refine wpH_sdet' (.int .i64 x) (by intro _ _ h; cases h) (by rfl) (by kernel_rfl) (by rfl) (by rfl) (fun w' hg hC => ?_) ?_
 ·have y0 := HX.out _ hC
  clear hg hC
  go_simp
  exact Below.refl _ _
 try go_simp
 repeat (refine wpHp fun K hK => ?_; go_simp; refine hK _ ?_; clear hK K)
 refine wpH_cdet' undef (fun z => z.ownsRow base 3 1 (.slice (some ⟨g, 0, none⟩) n cap) n (intsL (xs.set i y))) (by intro _ _ h; cases h) (by rfl) (fun z z' hb h => own_grow h hb) (by rfl) (by rfl) (fun w' hg hC => ?_) ?_
 ·obtain ⟨u0, y0⟩ := HXi.out _ _ hC
  have z0 := World.ownsRow.frozenAt hC i
  have HF := Lib.hid (World.ownsRow.stored hC i (.int .i64 y))
  clear hg hC
  go_simp
  exact ⟨only_set _, by have h := HF.out.1; rw [intsL_set] at h; exact h⟩
 try go_simp
 repeat (refine wpHp fun K hK => ?_; go_simp; refine hK _ ?_; clear hK K)
 refine wpH_cdet' undef (fun z => z.ownsRow base 3 1 (.slice (some ⟨g, 0, none⟩) n cap) n (intsL ((xs.set i y).set j x))) (by intro _ _ h; cases h) (by rfl) (fun z z' hb h => own_grow h hb) (by rfl) (by rfl) (fun w' hg hC => ?_) ?_
 ·obtain ⟨u0, y0⟩ := HYj.out _ _ hC
  have z0 := World.ownsRow.frozenAt hC j
  have HF := Lib.hid (World.ownsRow.stored hC j (.int .i64 x))
  clear hg hC
  go_simp
  exact ⟨only_set _, by have h := HF.out.1; rw [intsL_set] at h; exact h⟩
 try go_simp
 refine wpH_nil ?_
 intro ys w4 hg hC hx2
 have HG4 := Lib.hid hg
 have HC4 := Lib.hid hC
 clear hg hC hx2
 simp only [fill]
 go_simp
 go_wp2_with fail
 go_end0
 exact ⟨⟨_, rfl⟩, ⟨_, HC4.out⟩, HG4.out⟩
/-- A heap in memory: how many it has. -/
def Pl (w : World) (H base n : Nat) : Prop := ∃ (v : Value) (xs : List Int), w.heap[H]? = some (.cells #[v] 150 (0, 0)) ∧ w.ownsRow base 3 1 v n (intsL xs)
/-- .. in which block its row lies. -/
def PlG (w : World) (H base g cap n : Nat) : Prop := ∃ (xs : List Int), w.heap[H]? = some (.cells #[.slice (some ⟨g, 0, none⟩) n cap] 150 (0, 0)) ∧ w.ownsRow base 3 1 (.slice (some ⟨g, 0, none⟩) n cap) n (intsL xs)
theorem PlG.pl {w : World} {H base g cap n : Nat} (h : PlG w H base g cap n) : Pl w H base n := by
 obtain ⟨xs, h1, h2⟩ := h
 exact ⟨_, xs, h1, h2⟩
theorem Pl.solid {w : World} {H base n : Nat} (h : Pl w H base n) (hn : 0 < n) : ∃ g cap, PlG w H base g cap n := by
 obtain ⟨v, xs, h1, h2⟩ := h
 rcases h2.2 with ⟨_, h0⟩ | ⟨g, cap, cur, rfl, hb, hg, hc, _⟩
 ·omega
 ·exact ⟨g, cap, xs, h1, h2⟩
theorem PlG.facts {w : World} {H base g cap n : Nat} (h : PlG w H base g cap n) : base ≤ g ∧ g ≠ H ∧ n ≤ cap ∧ w.cell? ⟨H, 0, none⟩ = some (.slice (some ⟨g, 0, none⟩) n cap) ∧ H < w.heap.size ∧ g < w.heap.size := by
 obtain ⟨xs, h1, h2⟩ := h
 have hne := row_ne h2 h1 (by decide)
 have hlt := World.ownsRow.lt h2 g rfl
 refine ⟨hlt.1, fun e => hne (by simp [Value.ownBlock, e]), ?_, cell_of_one h1, lt_of_block h1, hlt.2⟩
 rcases h2.2 with ⟨e, _⟩ | ⟨g', cap', cur, e, hb, hg, hc, _⟩
 ·cases e
 ·injection e with e1 e2 e3
  omega
/-- What a call may leave of it. -/
def Heaped (w : World) (H base g cap n : Nat) (e : Ending) (w' : World) : Prop := (∃ v, e = .returned v) ∧ PlG w' H base g cap n ∧ GrowBut (Only g) w w'
theorem below_only {w w' : World} {base g : Nat} (h : GrowBut (Only g) w w') (hb : base ≤ g) (hs : base ≤ w.heap.size) : Below base w w' :=
 ⟨h.os, h.tape, h.output, h.size, fun k hk => h.block k (Nat.lt_of_lt_of_le hk hs) (fun e => by have e : k = g := e; omega)⟩
theorem pl_less {w : World} {H base g cap n i j : Nat} (h : PlG w H base g cap n) (hi : i < n) (hj : j < n) : ∃ v, w.cell? ⟨H, 0, none⟩ = some v ∧ Calls Tryz.prog 166 #[v, .int .i64 i, .int .i64 j] w (SomeOrd w) := by
 obtain ⟨xs, h1, h2⟩ := h
 exact ⟨_, cell_of_one h1, places_less hi hj (own_cell h2 hi) (own_cell h2 hj)⟩
theorem pl_swap {w : World} {H base g cap n i j : Nat} (h : PlG w H base g cap n) (hi : i < n) (hj : j < n) : ∃ v, w.cell? ⟨H, 0, none⟩ = some v ∧ Calls Tryz.prog 167 #[v, .int .i64 i, .int .i64 j] w (Heaped w H base g cap n) := by
 have hf := h.facts
 obtain ⟨xs, h1, h2⟩ := h
 refine ⟨_, cell_of_one h1, (places_swap h2 hi hj).mono ?_⟩
 rintro e w' ⟨hv, ⟨xs', ho⟩, hg⟩
 exact ⟨hv, ⟨xs', (hg.block H (lt_of_block h1) (fun e => hf.2.1 (show H = g from e).symm)).trans h1, ho⟩, hg⟩
theorem Pl.mono {w w' : World} {H base n : Nat} (h : Pl w H base n) (hg : Grow w w') : Pl w' H base n := by
 obtain ⟨v, xs, h1, h2⟩ := h
 exact ⟨v, xs, (hg.block _ (lt_of_block h1)).trans h1, own_grow h2 hg⟩
theorem PlG.mono {w w' : World} {H base g cap n : Nat} (h : PlG w H base g cap n) (hg : Grow w w') : PlG w' H base g cap n := by
 obtain ⟨xs, h1, h2⟩ := h
 exact ⟨xs, (hg.block _ (lt_of_block h1)).trans h1, own_grow h2 hg⟩
end
end Go.Proofs.YtgckhdepnmiejaaGreat
namespace Go.Proofs.YtgckhdepnmiejaaGreat
section
set_option maxRecDepth 100000
open Go.RowKit
set_option maxHeartbeats 2000000 in
theorem up_any {w : World} {H base g cap n j : Nat} (h : PlG w H base g cap n) (hj : j < n) (hn : n ≤ 100000) :
  Calls Tryz.prog 95 #[.iface 152 (.pointer (some ⟨H, 0, none⟩)), .int .i64 j] w (Heaped w H base g cap n) := by
 have HP := Lib.hid h
 have HN := Lib.hid hn
 have HJ := Lib.hid hj
 clear h hn hj
 go_enter Tryz.func95, Tryz.ntmps95
 go_wp2_with fail
 go_loopw [1] (fun i wr => ∃ k : Nat, k < n ∧ i = .int .i64 k ∧ PlG wr H base g cap n ∧ GrowBut (Only g) w wr) (fun i _ => (intOf i).toNat)
 case atStart => exact ⟨j, HJ.out, rfl, HP.out, GrowBut.refl _ _⟩
 case round =>
  obtain ⟨k, hk, rfl, hp, hg⟩ := hrel
  have HPr := Lib.hid hp
  have HGr := Lib.hid hg
  have hk2 : k ≤ 100000 := by have := HN.out; omega
  clear hp hg
  by_cases h0 : k = 0
  ·subst h0
   go_wp2_with fail
   go_end0
   exact ⟨⟨_, rfl⟩, HPr.out, HGr.out⟩
  ·obtain ⟨m, hm⟩ : ∃ m : Nat, (k - 1) / 2 = m := ⟨_, rfl⟩
   have hmk : m < k := by omega
   obtain ⟨v, hv, hl⟩ := pl_less HPr.out hk (show m < n by omega)
   have HL := Lib.hid hl
   have hme := methLess hv
   have hw1 : IntKind.i64.wrap ((k : Int) - 1) = (k : Int) - 1 := IntWalk.i64_in _ (by omega)
   have hw2 : ((k : Int) - 1).tdiv 2 = (m : Int) := by rw [Int.tdiv_eq_ediv_of_nonneg (by omega)]; omega
   have hw3 : ((k : Int) - 1) / 2 = (m : Int) := by omega
   have hne : ((m : Int) == (k : Int)) = false := by simp; omega
   clear hl hm
   go_wp2_with fail
   with_reducible refine HL.out.mono ?_
   rintro e w1 ⟨⟨b, rfl⟩, hg1⟩
   have HP1 := Lib.hid (HPr.out.mono hg1)
   have HG1 : Hid (GrowBut (Only g) w w1) := HGr.out.trans (GrowBut.of_below hg1)
   obtain ⟨v1, hv1, hs⟩ := pl_swap HP1.out (show m < n by omega) hk
   have HS := Lib.hid hs
   have hms := methSwap hv1
   clear hg1 hv hme hs HPr HL
   cases b
   ·go_wp2_with fail
    go_end0
    exact ⟨⟨_, rfl⟩, HP1.out, HG1.out⟩
   ·go_wp2_with fail
    with_reducible refine HS.out.mono ?_
    rintro e w2 ⟨⟨u, rfl⟩, hp2, hg2⟩
    have HP2 := Lib.hid hp2
    have HG2 := Lib.hid (HG1.out.trans hg2)
    clear hp2 hg2 hms hv1
    go_wp2_with fail
    go_roundw
    case rel => exact ⟨m, by omega, rfl, HP2.out, HG2.out⟩
    case measure => simp [intOf]; omega
set_option maxHeartbeats 4000000 in
theorem down_any {w : World} {H base g cap n i0 m : Nat} (h : PlG w H base g cap n) (hi : i0 ≤ n) (hm : m ≤ n) (hn : n ≤ 100000) :
  Calls Tryz.prog 96 #[.iface 152 (.pointer (some ⟨H, 0, none⟩)), .int .i64 i0, .int .i64 m] w (Heaped w H base g cap n) := by
 have HP := Lib.hid h
 have HN := Lib.hid hn
 have HI := Lib.hid hi
 have HM := Lib.hid hm
 clear h hn hi hm
 go_enter Tryz.func96, Tryz.ntmps96
 go_wp2_with fail
 go_loopw [7] (fun i wr => ∃ k : Nat, k ≤ n ∧ i = .int .i64 k ∧ PlG wr H base g cap n ∧ GrowBut (Only g) w wr) (fun i _ => n - (intOf i).toNat)
 case atStart => exact ⟨i0, HI.out, rfl, HP.out, GrowBut.refl _ _⟩
 case round =>
  obtain ⟨k, hk, rfl, hp, hg⟩ := hrel
  have HPr := Lib.hid hp
  have HGr := Lib.hid hg
  have hk2 : k ≤ 100000 := by have := HN.out; omega
  have hmn := HM.out
  have hn1 := HN.out
  have hw1 : IntKind.i64.wrap (2 * (k : Int)) = 2 * (k : Int) := IntWalk.i64_in _ (by omega)
  have hw2 : IntKind.i64.wrap (2 * (k : Int) + 1) = 2 * (k : Int) + 1 := IntWalk.i64_in _ (by omega)
  have hw4 : IntKind.i64.wrap (2 * (k : Int) + 1 + 1) = 2 * (k : Int) + 1 + 1 := IntWalk.i64_in _ (by omega)
  clear hp hg
  by_cases h0 : m ≤ 2 * k + 1
  ·have h1 : (m : Int) ≤ 2 * (k : Int) + 1 := by omega
   clear h0
   go_wp2_with fail
   go_ret
   exact ⟨⟨_, rfl⟩, HPr.out, HGr.out⟩
  ·have h1 : ¬ ((m : Int) ≤ 2 * (k : Int) + 1) := by omega
   have h2 : ¬ (2 * (k : Int) + 1 < 0) := by omega
   have h3 : decide ((m : Int) ≤ 2 * (k : Int) + 1) = false := decide_eq_false h1
   -- the rest, for the one of the two that is taken
   have HRest : Hid (∀ (w1 : World) (j : Nat), k < j → j < n → PlG w1 H base g cap n → GrowBut (Only g) w w1 → ∃ v, w1.cell? ⟨H, 0, none⟩ = some v ∧ Calls Tryz.prog 166 #[v, .int .i64 j, .int .i64 k] w1 (SomeOrd w1)) := fun w1 j hkj hj hp hg => pl_less hp hj (by omega)
   have HSwap : Hid (∀ (w1 : World) (j : Nat), k < j → j < n → PlG w1 H base g cap n → GrowBut (Only g) w w1 → ∃ v, w1.cell? ⟨H, 0, none⟩ = some v ∧ Calls Tryz.prog 167 #[v, .int .i64 k, .int .i64 j] w1 (Heaped w1 H base g cap n)) := fun w1 j hkj hj hp hg => pl_swap hp (by omega) hj
   by_cases h4 : 2 * k + 1 + 1 < m
   ·have h5 : 2 * (k : Int) + 1 + 1 < (m : Int) := by omega
    obtain ⟨j, hj⟩ : ∃ j : Nat, 2 * k + 1 = j := ⟨_, rfl⟩
    have hji : 2 * (k : Int) + 1 = (j : Int) := by omega
    obtain ⟨j1, hj1⟩ : ∃ x : Nat, j + 1 = x := ⟨_, rfl⟩
    have hji1 : (j : Int) + 1 = (j1 : Int) := by omega
    obtain ⟨v, hv, hl⟩ := pl_less HPr.out (show j1 < n by omega) (show j < n by omega)
    have HL := Lib.hid hl
    have hme := methLess hv
    have HJ : Hid (k < j ∧ k < j1 ∧ j < n ∧ j1 < n) := ⟨by omega, by omega, by omega, by omega⟩
    rw [hji, hji1] at hw4 h5
    rw [hji] at hw2 h1 h2 h3
    clear hl h0 h4 hj hj1
    go_wp2_with fail
    with_reducible refine HL.out.mono ?_
    rintro e w1 ⟨⟨b, rfl⟩, hg1⟩
    have HP1 := Lib.hid (HPr.out.mono hg1)
    have HG1 : Hid (GrowBut (Only g) w w1) := HGr.out.trans (GrowBut.of_below hg1)
    have HJo := HJ.out
    clear hg1 hv hme
    cases b
    ·skip
     obtain ⟨v2, hv2, hl2⟩ := HRest.out w1 j (by omega) (by omega) HP1.out HG1.out
     have HL2 := Lib.hid hl2
     have hme2 := methLess hv2
     clear hl2
     go_wp2_with fail
     with_reducible refine HL2.out.mono ?_
     rintro e w5 ⟨⟨b5, rfl⟩, hg5⟩
     have HP5 := Lib.hid (HP1.out.mono hg5)
     have HG5 : Hid (GrowBut (Only g) w w5) := HG1.out.trans (GrowBut.of_below hg5)
     obtain ⟨v5, hv5, hs5⟩ := HSwap.out w5 j (by omega) (by omega) HP5.out HG5.out
     have HS5 := Lib.hid hs5
     have hms := methSwap hv5
     clear hg5 hv2 hme2 hs5 HL2
     cases b5
     ·go_wp2_with fail
      go_ret
      exact ⟨⟨_, rfl⟩, HP5.out, HG5.out⟩
     ·go_wp2_with fail
      with_reducible refine HS5.out.mono ?_
      rintro e w6 ⟨⟨u, rfl⟩, hp6, hg6⟩
      have HP6 := Lib.hid hp6
      have HG6 := Lib.hid (HG5.out.trans hg6)
      clear hp6 hg6 hms hv5
      go_wp2_with fail
      go_roundw
      case rel => exact ⟨j, by omega, rfl, HP6.out, HG6.out⟩
      case measure => simp [intOf]; omega
    ·skip
     obtain ⟨v2, hv2, hl2⟩ := HRest.out w1 j1 (by omega) (by omega) HP1.out HG1.out
     have HL2 := Lib.hid hl2
     have hme2 := methLess hv2
     clear hl2
     go_wp2_with fail
     with_reducible refine HL2.out.mono ?_
     rintro e w5 ⟨⟨b5, rfl⟩, hg5⟩
     have HP5 := Lib.hid (HP1.out.mono hg5)
     have HG5 : Hid (GrowBut (Only g) w w5) := HG1.out.trans (GrowBut.of_below hg5)
     obtain ⟨v5, hv5, hs5⟩ := HSwap.out w5 j1 (by omega) (by omega) HP5.out HG5.out
     have HS5 := Lib.hid hs5
     have hms := methSwap hv5
     clear hg5 hv2 hme2 hs5 HL2
     cases b5
     ·go_wp2_with fail
      go_ret
      exact ⟨⟨_, rfl⟩, HP5.out, HG5.out⟩
     ·go_wp2_with fail
      with_reducible refine HS5.out.mono ?_
      rintro e w6 ⟨⟨u, rfl⟩, hp6, hg6⟩
      have HP6 := Lib.hid hp6
      have HG6 := Lib.hid (HG5.out.trans hg6)
      clear hp6 hg6 hms hv5
      go_wp2_with fail
      go_roundw
      case rel => exact ⟨j1, by omega, rfl, HP6.out, HG6.out⟩
      case measure => simp [intOf]; omega
   ·have h5 : ¬ (2 * (k : Int) + 1 + 1 < (m : Int)) := by omega
    have h6 : decide (2 * (k : Int) + 1 + 1 < (m : Int)) = false := decide_eq_false h5
    obtain ⟨j, hj⟩ : ∃ j : Nat, 2 * k + 1 = j := ⟨_, rfl⟩
    have hji : 2 * (k : Int) + 1 = (j : Int) := by omega
    have HJ : Hid (k < j ∧ j < n) := by constructor <;> omega
    have HJo := HJ.out
    clear h0 h4 hj
    rw [hji] at hw4 h5 h6 hw2 h1 h2 h3
    obtain ⟨v2, hv2, hl2⟩ := HRest.out wr j (by omega) (by omega) HPr.out HGr.out
    have HL2 := Lib.hid hl2
    have hme2 := methLess hv2
    clear hl2
    go_wp2_with fail
    with_reducible refine HL2.out.mono ?_
    rintro e w5 ⟨⟨b5, rfl⟩, hg5⟩
    have HP5 := Lib.hid (HPr.out.mono hg5)
    have HG5 : Hid (GrowBut (Only g) w w5) := HGr.out.trans (GrowBut.of_below hg5)
    obtain ⟨v5, hv5, hs5⟩ := HSwap.out w5 j (by omega) (by omega) HP5.out HG5.out
    have HS5 := Lib.hid hs5
    have hms := methSwap hv5
    clear hg5 hv2 hme2 hs5 HL2
    cases b5
    ·go_wp2_with fail
     go_ret
     exact ⟨⟨_, rfl⟩, HP5.out, HG5.out⟩
    ·go_wp2_with fail
     with_reducible refine HS5.out.mono ?_
     rintro e w6 ⟨⟨u, rfl⟩, hp6, hg6⟩
     have HP6 := Lib.hid hp6
     have HG6 := Lib.hid (HG5.out.trans hg6)
     clear hp6 hg6 hms hv5
     go_wp2_with fail
     go_roundw
     case rel => exact ⟨j, by omega, rfl, HP6.out, HG6.out⟩
     case measure => simp [intOf]; omega
end
end Go.Proofs.YtgckhdepnmiejaaGreat
namespace Go.Proofs.YtgckhdepnmiejaaGreat
section
set_option maxRecDepth 100000
open Go.RowKit
theorem infoI3 : (Tryz.prog.info? 3).map (fun i => (i.zero, i.size, i.bytes)) = some (some (.int .i64 0), 1, 8) := by kernel_rfl
/-- A heap's own two blocks. -/
def Two (H g k : Nat) : Prop := k = H ∨ k = g
theorem hp_two {H g : Nat} {w w' : World} (h : GrowBut (Only g) w w') : GrowBut (Two H g) w w' := ⟨h.os, h.tape, h.output, h.size, fun k hk hn => h.block k hk (fun e => hn (Or.inr e))⟩
def Popped (w : World) (H base g cap n : Nat) (e : Ending) (w' : World) : Prop := (∃ x : Int, e = .returned (.iface 3 (.int .i64 x))) ∧ PlG w' H base g cap n ∧ GrowBut (Two H g) w w'
set_option maxHeartbeats 1000000 in
theorem places_pop {w : World} {H base g cap n m : Nat} (h : PlG w H base g cap n) (hnm : n = m + 1) (hn : n ≤ 100000) :
  Calls Tryz.prog 168 #[.pointer (some ⟨H, 0, none⟩)] w (Popped w H base g cap m) := by
 have hf := h.facts
 obtain ⟨xs, h1, h2⟩ := h
 have c0 := cell_of_one h1
 have z0 : w.frozen? ⟨H, 0, none⟩ = false := by simp [World.frozen?, h1]
 have c1 := own_cell h2 (show m < n by omega)
 obtain ⟨x, hx⟩ : ∃ x, xs.getD m 0 = x := ⟨_, rfl⟩
 rw [hx] at c1
 have hm1 : (n : Int) - 1 = (m : Int) := by omega
 have hw1 : IntKind.i64.wrap ((n : Int) - 1) = (m : Int) := by rw [hm1]; exact IntWalk.i64_in _ (by omega)
 have hlt : (m : Int) < (n : Int) := by omega
 have hle : (m : Int) ≤ (cap : Int) := by omega
 have HF : Hid (PlG (w.setCell ⟨H, 0, none⟩ (.slice (some ⟨g, 0, none⟩) m cap)) H base g cap m ∧ GrowBut (Two H g) w (w.setCell ⟨H, 0, none⟩ (.slice (some ⟨g, 0, none⟩) m cap))) := by
  refine ⟨⟨xs.take m, heap_setCell_same _ _ 0 _ _ _ h1, ?_⟩, (GrowBut.refl _ w).setCell (a := ⟨H, 0, none⟩) (Or.inl rfl) _⟩
  have h6 := own_far h2 h1 (by decide) (fun k hk => Below.heap_setCell w ⟨H, 0, none⟩ (.slice (some ⟨g, 0, none⟩) m cap) k hk)
  have hl := own_len h2
  rcases h6.2 with ⟨e, _⟩ | ⟨g', cap', cur, e, e2, e3, e4, e5, e6, e7⟩
  ·cases e
  ·injection e with e8 e9 e10
   injection e8 with e8
   injection e8 with e8 _ _
   subst e8 e10
   refine ⟨by simp [intsL, hl]; omega, Or.inr ⟨g, cap, cur, rfl, e2, e3, by omega, e5, e6, ?_⟩⟩
   have e11 : (cur.toList.take (n * 1)).take (m * 1) = (intsL xs).take (m * 1) := by rw [e7]
   rw [List.take_take, show min (m * 1) (n * 1) = m * 1 by omega] at e11
   rw [e11]; simp [intsL, List.map_take]
 clear h1 h2 hf hx hnm
 go_enter Tryz.func168, Tryz.ntmps168
 go_wp2_with fail
 go_ret
 exact ⟨⟨x, rfl⟩, HF.out.1, HF.out.2⟩
set_option maxHeartbeats 1000000 in
theorem heap_pop {w : World} {H base g cap n m : Nat} (h : PlG w H base g cap n) (hnm : n = m + 1) (hn : n ≤ 100000) :
  Calls Tryz.prog 72 #[.iface 152 (.pointer (some ⟨H, 0, none⟩))] w (Popped w H base g cap m) := by
 have HP := Lib.hid h
 have HN := Lib.hid hn
 have HNM := Lib.hid hnm
 have c0 := h.facts.2.2.2.1
 have hme := methLen c0
 have hm1 : (n : Int) - 1 = (m : Int) := by omega
 have hw1 : IntKind.i64.wrap ((n : Int) - 1) = (m : Int) := by rw [hm1]; exact IntWalk.i64_in _ (by omega)
 have hm9 : (m : Int) ≤ 100000 := by omega
 clear h hn hnm
 go_enter Tryz.func72, Tryz.ntmps72
 go_wp2_with fail
 with_reducible refine (places_len _ _ _ _).mono ?_
 rintro e w1 ⟨rfl, rfl⟩
 obtain ⟨v, hv, hs⟩ := pl_swap (i := 0) (j := m) HP.out (by have := HNM.out; omega) (by have := HNM.out; omega)
 rw [show ((0 : Nat) : Int) = 0 from rfl] at hs
 have HS := Lib.hid hs
 have hms := methSwap hv
 clear hs hme c0
 go_wp2_with fail
 with_reducible refine HS.out.mono ?_
 rintro e w2 ⟨⟨u, rfl⟩, hp2, hg2⟩
 have HP2 := Lib.hid hp2
 have HG2 : Hid (GrowBut (Two H g) w1 w2) := hp_two hg2
 clear hp2 hg2 hms hv HS
 have hd := down_any (i0 := 0) (m := m) HP2.out (by omega) (by have := HNM.out; omega) HN.out
 rw [show ((0 : Nat) : Int) = 0 from rfl] at hd
 have HD := Lib.hid hd
 clear hd
 go_wp2_with fail
 with_reducible refine HD.out.mono ?_
 rintro e w3 ⟨⟨u, rfl⟩, hp3, hg3⟩
 have HP3 := Lib.hid hp3
 have HG3 : Hid (GrowBut (Two H g) w1 w3) := HG2.out.trans (hp_two hg3)
 have hmp := methPop H w3
 clear hp3 hg3 HD
 go_wp2_with fail
 with_reducible refine (places_pop HP3.out HNM.out HN.out).mono ?_
 rintro e w4 ⟨⟨x, rfl⟩, hp4, hg4⟩
 have HP4 := Lib.hid hp4
 have HG4 := Lib.hid (HG3.out.trans hg4)
 clear hp4 hg4 hmp
 go_wp2_with fail
 go_ret
 exact ⟨⟨x, rfl⟩, HP4.out, HG4.out⟩
/-- One more in it. -/
def Pushed (w : World) (H base n : Nat) (e : Ending) (w' : World) : Prop := (∃ v, e = .returned v) ∧ Pl w' H base n ∧ Below base w w'
/-- One number, in a block of its own. -/
def IntB (b0 : Nat) (x : Int) (u : Value) (z : World) : Prop := ∃ B, u = .slice (some ⟨B, 0, none⟩) 1 1 ∧ z.heap[B]? = some (.cells #[.int .i64 x] 3 (0, 0)) ∧ b0 ≤ B
theorem IntB.stay {M : Nat → Prop} {b0 : Nat} {x : Int} {u : Value} {z z' : World} (h : IntB b0 x u z) (hg : GrowBut M z z') (hM : ∀ k, M k → k < b0) : IntB b0 x u z' := by
 obtain ⟨B, h1, h2, h3⟩ := h
 exact ⟨B, h1, (hg.block B (lt_of_block h2) (fun hm => by have := hM B hm; omega)).trans h2, h3⟩
theorem assert_int (x : Int) (w : World) : (Instr.typeAssert (.iface 3 (.int .i64 x)) 20 3 false).run Tryz.prog w = .ok (.int .i64 x) w := by kernel_rfl
set_option maxHeartbeats 4000000 in
theorem places_push {w : World} {H base n : Nat} {x : Int} (h : Pl w H base n) (hb : base ≤ w.heap.size) (hH : base ≤ H) (hn : n ≤ 100000) :
  Calls Tryz.prog 169 #[.pointer (some ⟨H, 0, none⟩), .iface 3 (.int .i64 x)] w (Pushed w H base (n + 1)) := by
 obtain ⟨i0, hi, hz0, hz1, hz2⟩ := info_parts infoI3
 obtain ⟨v, xs, h1, h2⟩ := h
 have hs : ∃ oa oc, v = .slice oa n oc := by
  rcases h2.2 with ⟨rfl, h3⟩ | ⟨g, cap, cur, rfl, _⟩
  ·exact ⟨none, 0, by rw [h3]⟩
  ·exact ⟨_, cap, rfl⟩
 obtain ⟨oa, oc, rfl⟩ := hs
 have HH1 := Lib.hid h1
 have HO := Lib.hid h2
 have HB := Lib.hid hb
 have HHb := Lib.hid hH
 have HN := Lib.hid hn
 have HI := Lib.hid (And.intro hi (And.intro hz0 (And.intro hz1 hz2)))
 have HN4 : Hid (∀ k, Outs H (.slice oa n oc) k → k < w.heap.size) := fun k h => by
  rcases h with h | h
  ·rw [show k = H from h]; exact lt_of_block h1
  ·exact (World.ownsRow.lt h2 k h).2
 have HM0 : Hid (∀ k, Outs H (.slice oa n oc) k → base ≤ k) := fun k h => by
  rcases h with h | h
  ·rw [show k = H from h]; exact hH
  ·exact (World.ownsRow.lt h2 k h).1
 clear h1 h2 hb hH hn hi hz0 hz1 hz2
 go_enter Tryz.func169, Tryz.ntmps169
 go_wp2_with fail
 refine K.wp_region_grow 10 [7, 9] (Outs H (.slice oa n oc)) (fun z => z.heap[H]? = some (.cells #[.slice oa n oc] 150 (0, 0)) ∧ z.ownsRow base 3 1 (.slice oa n oc) n (intsL xs)) (by kernel_rfl) (by kernel_rfl) (by rfl) (fun z z' hb hz => ⟨(hb.block _ (lt_of_block hz.1)).trans hz.1, own_grow hz.2 hb⟩) ⟨HH1.out, HO.out⟩ ?_
 simp only [List.take_succ_cons, List.take_zero, List.drop_succ_cons, List.drop_zero]
 repeat (refine K.wpH_pure (by intro _ _ h; cases h) (by rfl) (by rfl) (fun K hK => ?_); go_simp; refine hK _ ?_; clear hK K)
 refine K.wpH_sdet' (.slice oa n oc) (by intro _ _ h; cases h) (by rfl) (by rfl) (by rfl) (fun xs' w' hg hC => ?_) ?_
 ·have hx := cell_of_one (hC (by kernel_rfl)).1
  clear hg hC
  go_simp
  exact Below.refl _ _
 try go_simp
 repeat (refine K.wpH_pure (by intro _ _ h; cases h) (by rfl) (by rfl) (fun K hK => ?_); go_simp; refine hK _ ?_; clear hK K)
 refine K.wpH_sdet' (.int .i64 x) (by intro _ _ h; cases h) (by rfl) (by rfl) (by rfl) (fun xs' w' hg hC => ?_) ?_
 ·have hta := assert_int x w'
  clear hg hC
  go_simp
  exact Below.refl _ _
 try go_simp
 refine K.wpH_shid' (IntB w.heap.size x) (by intro _ _ h; cases h) rfl (by rfl) (fun u z z' hg h => h.stay hg HN4.out) (by rfl) (by rfl) (fun xs' w' hg hC => ?_) ?_
 ·have hn := heap_alloc_new w' (.cells #[.int .i64 x] 3)
  have hs := hg.size
  have HS : Hid (IntB w.heap.size x (.slice (some ⟨w'.heap.size, 0, none⟩) 1 1) (w'.alloc (.cells #[.int .i64 x] 3))) := ⟨w'.heap.size, rfl, hn, hs⟩
  clear hg hC hn hs
  go_simp
  exact ⟨HS.out, (Below.refl _ _).alloc (Nat.le_refl _) _⟩
 try go_simp
 refine K.wpH_chid (fun u _ => ∃ a c, u = .slice a (n + 1) c) (fun ys z => z.heap[H]? = some (.cells #[.slice oa n oc] 150 (0, 0)) ∧ z.ownsRow base 3 1 (ys 11) (n + 1) (intsL (xs ++ [x]))) rfl (by rfl) (fun u z z' hg h => h)
  (fun ys z z' hb hz => ⟨(hb.block _ (lt_of_block hz.1)).trans hz.1, own_grow hz.2 hb⟩) (fun ys zs z he hz => by have := he 7 _ 11 (by decide) (by decide) rfl rfl; dsimp only at hz ⊢; rw [← this]; exact hz) (fun xs => by rfl) (fun ys w' hg hC hf => ?_) ?_
 ·have h1 := hf _ (List.Mem.head _) (by rfl)
  try dsimp only at h1
  obtain ⟨B, hB1, hB2, hB3⟩ := h1
  obtain ⟨hi, hz0, hz1, hz2⟩ := HI.out
  refine mild_append_own _ _ _ (by rfl) base 3 i0 _ 1 8 Tryz.underlying150 hi hz0 hz1 hz2 rfl (by omega) (.slice oa n oc) n (intsL xs) (by rfl) hC.2 ⟨B, 0, none⟩ 1 1 [.int .i64 x] (by simp only [fill]; exact hB1) (by rfl) (World.news_of_block (cs := #[.int .i64 x]) hB2) (by simp [Value.oneCell'])
   (by omega) (by have := HN.out; unfold maxLen; omega) (by have := HN.out; omega) (Nat.le_trans HB.out hg.size) (fun g cap w1 hown hgrow => ⟨⟨⟨_, _, rfl⟩, ?_, ?_⟩, ?_⟩)
  ·exact (hgrow.block H (lt_of_block hC.1) (Ne.symm (row_ne hC.2 hC.1 (by decide)))).trans hC.1
  ·unfold K.upd; simpa [intsL] using hown
  ·exact ⟨hgrow.os, hgrow.tape, hgrow.output, hgrow.size, fun k hk hn => hgrow.block k hk (fun e => hn (Or.inr e.symm))⟩
 try go_simp
 repeat (refine K.wpH_pure (by intro _ _ h; cases h) (by rfl) (by rfl) (fun K hK => ?_); go_simp; refine hK _ ?_; clear hK K)
 refine K.wpH_cdet undef (fun ys z => z.heap[H]? = some (.cells #[ys 11] 150 (0, 0)) ∧ z.ownsRow base 3 1 (ys 11) (n + 1) (intsL (xs ++ [x]))) (by rfl)
  (fun ys z z' hb hz => ⟨(hb.block _ (lt_of_block hz.1)).trans hz.1, own_grow hz.2 hb⟩) (fun ys zs z he hz => by have := he 7 _ 11 (by decide) (by decide) rfl rfl; dsimp only at hz ⊢; rw [← this]; exact hz) (fun xs => by rfl) (fun ys w' hg hC hf => ?_) ?_
 ·have h1 := hf _ (List.Mem.head _) (by rfl)
  try dsimp only at h1
  simp only [fill]
  obtain ⟨ya, yc, hy⟩ := h1
  have hz : w'.frozen? ⟨H, 0, none⟩ = false := by simp [World.frozen?, hC.1]
  have hy0 := cell_of_one hC.1
  have HC := Lib.hid hC
  generalize ys 10 = y10 at *
  have HU : Hid (K.upd ys none undef 11 = ys 11) := by show _ = _; unfold K.upd; simp
  generalize ys 11 = y11 at *
  subst hy
  clear hg hC hf
  go_simp
  refine ⟨⟨?_, ?_⟩, only_or (GrowBut.refl _ _)⟩
  ·rw [HU.out]; exact heap_setCell_same _ _ 0 _ _ _ HC.out.1
  ·rw [HU.out]; exact own_far HC.out.2 HC.out.1 (by decide) (fun k hk => Below.heap_setCell _ _ _ _ hk)
 refine K.wpH_nil ?_
 intro ys w3 hg hC hx
 have HG3 : Hid (Below base w w3) := ⟨hg.os, hg.tape, hg.output, hg.size, fun k hk => hg.block k (Nat.lt_of_lt_of_le hk HB.out) (fun e => by have := HM0.out k e; omega)⟩
 have HC3 := Lib.hid hC
 clear hg hC hx
 simp only [fill]
 generalize ys 10 = y10 at *
 generalize ys 11 = y11 at *
 go_simp
 go_wp2_with fail
 go_end0
 exact ⟨⟨_, rfl⟩, ⟨y11, _, HC3.out.1, HC3.out.2⟩, HG3.out⟩
set_option maxHeartbeats 1000000 in
theorem heap_push {w : World} {H base n : Nat} {x : Int} (h : Pl w H base n) (hb : base ≤ w.heap.size) (hH : base ≤ H) (hn : n ≤ 90000) :
  Calls Tryz.prog 71 #[.iface 152 (.pointer (some ⟨H, 0, none⟩)), .iface 3 (.int .i64 x)] w (Pushed w H base (n + 1)) := by
 have HP := Lib.hid h
 have HB := Lib.hid hb
 have HHb := Lib.hid hH
 have HN := Lib.hid hn
 have hmp := methPush H w
 have hw1 : IntKind.i64.wrap (((n + 1 : Nat) : Int) - 1) = (n : Int) := by rw [show ((n + 1 : Nat) : Int) - 1 = (n : Int) by omega]; exact IntWalk.i64_in _ (by omega)
 have HW := Lib.hid hw1
 clear h hb hH hn hw1
 go_enter Tryz.func71, Tryz.ntmps71
 go_wp2_with fail
 with_reducible refine (places_push HP.out HB.out HHb.out (by have := HN.out; omega)).mono ?_
 rintro e w1 ⟨⟨u, rfl⟩, hp1, hg1⟩
 have HP1 := Lib.hid hp1
 have HG1 := Lib.hid hg1
 have HB1 : Hid (base ≤ w1.heap.size) := Nat.le_trans HB.out hg1.size
 obtain ⟨g, cap, h1⟩ := hp1.solid (by omega)
 have c0 := h1.facts.2.2.2.1
 have HBg := Lib.hid h1.facts.1
 have hme := methLen c0
 obtain ⟨q, hq⟩ : ∃ q : Nat, n + 1 = q := ⟨_, rfl⟩
 have HQ := Lib.hid hq
 have HU := Lib.hid (up_any (j := n) h1 (by omega) (by have := HN.out; omega))
 have HW1 := HW.out
 rw [hq] at c0 hme HW1
 have hq1 : (q : Int) - 1 = (n : Int) := by omega
 clear hp1 hg1 h1 hmp hq
 have hn9 : (n : Int) ≤ 90000 := by have := HN.out; omega
 go_wp2_with fail
 with_reducible refine (places_len _ _ _ _).mono ?_
 rintro e w2 ⟨rfl, rfl⟩
 clear hme c0
 go_wp2_with fail
 with_reducible refine HU.out.mono ?_
 rintro e w3 ⟨⟨u, rfl⟩, hp3, hg3⟩
 have HP3 := Lib.hid hp3.pl
 have HG3 := Lib.hid (HG1.out.trans (below_only hg3 HBg.out HB1.out))
 clear hp3 hg3
 go_wp2_with fail
 go_end0
 exact ⟨⟨_, rfl⟩, HP3.out, HG3.out⟩
end
end Go.Proofs.YtgckhdepnmiejaaGreat
