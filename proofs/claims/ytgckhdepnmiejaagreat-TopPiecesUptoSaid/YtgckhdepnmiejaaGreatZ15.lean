/- fib.Pick, given what Lookup answers (and what stands on it). -/
import Derived.Deep.Upon
import Derived.Laws.EntriesVeiled
import Derived.LoopNIn
import Derived.Great.BuildSlice
import Derived.Test.YtgckhdepnmiejaaGreatZ02
import Derived.Test.YtgckhdepnmiejaaGreatZ07
import Derived.Test.YtgckhdepnmiejaaGreatZ09
import Derived.Test.YtgckhdepnmiejaaGreatZ14
set_option linter.unusedVariables false
set_option linter.unusedSimpArgs false
namespace Go.Proofs.YtgckhdepnmiejaaGreat
section
set_option maxRecDepth 100000
open Go.RowKit
theorem mild_load_125 {o : Oper} {a : Act} {w : World} {A off : Nat} {p : Int} (x : Operand) (ho : o.op = .load 125 x) (hx : a.eval x = .pointer (some ⟨A, off, none⟩)) (hr : w.rangeAt A off (sames 256 p)) : mildAt Tryz.prog o a w (fun u _ => u = .agg (sames 256 p).toArray) (fun w' => Below w.heap.size w w') := by
 unfold mildAt execOp
 simp only [ho, hx, Instr.loadAt, Instr.sureAddr, Sem.run_bind, Sem.run_pure, Result.andThen_ok, run_loadVar_mid (P := Tryz.prog) w A off 125 (sames 256 p) (.array 256 3) hr (by kernel_rfl) rfl (by rw [sames_length]; exact size125)]
 exact ⟨rfl, Below.refl _ _⟩
set_option maxHeartbeats 1000000 in
theorem pick_of {w : World} {f : Value} {a pa pl port : Int} {m : Nat} (hm : m < 4294967296) (hL : ∀ x, Grow w x → Calls Tryz.prog 106 #[f, .int .u32 a] x fun e w' => e = .returned (.tuple #[.agg #[.int .u32 pa, .int .i64 pl], wayV 3 port, .bool true]) ∧ Grow x w') :
  Calls Tryz.prog 87 #[f, .int .u32 a, .int .u32 m] w fun e w' => e = .returned (.tuple #[.int .i64 3, .int .i64 port]) ∧ Grow w w' := by
 have HL := Lib.hid hL
 have HP : Hid (∀ x : World, Calls Tryz.prog 107 #[.agg (sames 256 port).toArray, .int .u32 m] x fun e w' => e = .returned (.int .i64 port) ∧ Grow x w') := fun x => splitpick hm
 clear hL hm
 go_enter Tryz.func87, Tryz.ntmps87
 go_wp2_with fail
 with_reducible refine (HL.out _ (Grow.refl _)).mono ?_
 rintro e w1 ⟨rfl, hg⟩
 have HG1 := Lib.hid hg
 unfold wayV
 obtain ⟨w2, hw2⟩ : ∃ x, w1.alloc (.cells #[.int .u32 pa, .int .i64 pl] 35) = x := ⟨_, rfl⟩
 have hst := run_storeCells_new (P := Tryz.prog) w2 127 Tryz.zeroCells127 (wayL 3 port).toArray (by simpa [wayL_length] using size127) (by rw [zero127]; simp [wayL_length]) (all_oneCell_toArray (wayL_one 3 port))
 try simp only [List.toList_toArray] at hst
 have hs2 : w2.heap.size = w1.heap.size + 1 := by rw [← hw2]; exact World.size_alloc _ _
 have hg2 : Grow w1 w2 := by rw [← hw2]; exact (Grow.refl w1).alloc _
 have HG2 := Lib.hid (HG1.out.trans hg2)
 rw [hs2] at hst
 have HSt := Lib.hid hst
 have hV := heap_alloc_new w2 (.cells (wayL 3 port).toArray 127)
 rw [hs2] at hV
 have HV := Lib.hid hV
 clear hV hs2 hg2
 clear hst hg
 go_wp2_with fail
 rw [HSt.out]
 obtain ⟨w3, hw3⟩ : ∃ x, w2.alloc (.cells (wayL 3 port).toArray 127) = x := ⟨_, rfl⟩
 have hG3 : Grow w2 (w2.alloc (.cells (wayL 3 port).toArray 127)) := (Grow.refl w2).alloc _
 have hV3 := HV.out
 rw [hw3] at hG3 hV3 ⊢
 have HV3 := Lib.hid hV3
 have HG3 := Lib.hid (HG2.out.trans hG3)
 clear hG3 hV3 HSt HV HG2 HG1 hw3 hw2 HL
 go_wp2_with fail
 refine wpRg 6 ?_
 simp only [List.take_succ_cons, List.take_zero, List.drop_succ_cons, List.drop_zero]
 repeat (refine wpHp fun K hK => ?_; go_simp; refine hK _ ?_; clear hK K)
 refine wpHd (.int .i64 3) (fun w' hg => ?_) ?_
 ·have hW := WayIn.of_heap ((hg.below.block _ (lt_of_block HV3.out)).trans HV3.out)
  have y0 : w'.cell? ⟨w1.heap.size + 1, 0, none⟩ = some (.int .i64 3) := by simpa using hW.1 0 _ rfl
  clear hg hW
  go_simp
  exact Below.refl _ _
 try go_simp
 repeat (refine wpHp fun K hK => ?_; go_simp; refine hK _ ?_; clear hK K)
 refine wpHd (.agg (sames 256 port).toArray) (fun w' hg => ?_) ?_
 ·have hW := WayIn.of_heap ((hg.below.block _ (lt_of_block HV3.out)).trans HV3.out)
  have hr : w'.rangeAt (w1.heap.size + 1) 1 (sames 256 port) := fun j v hv => by rw [Nat.add_comm 1 j]; simpa using hW.1 (j + 1) v (by simpa [wayL] using hv)
  exact mild_load_125 _ (by rfl) (by rfl) hr
 try go_simp
 repeat (refine wpHp fun K hK => ?_; go_simp; refine hK _ ?_; clear hK K)
 refine wpHd (.int .i64 port) (fun w' hg => ?_) ?_
 ·have h := HP.out w'
  clear hg
  go_simp
  with_reducible refine h.mono ?_
  rintro e w1 ⟨rfl, hg⟩
  exact ⟨_, rfl, rfl, hg⟩
 try go_simp
 refine wpH_nil ?_
 intro xs w4 hg hx1 hx2
 have HG4 := Lib.hid (HG3.out.trans hg.below)
 clear hg hx1 hx2
 simp only [fill]
 go_simp
 go_wp2_with fail
 refine bodyPost_ret (v := .tuple #[.int .i64 3, .int .i64 port]) (by simp [results, Tryz.results87, go_sem]) rfl ?_
 exact ⟨rfl, HG4.out⟩
end
end Go.Proofs.YtgckhdepnmiejaaGreat
namespace Go.Proofs.YtgckhdepnmiejaaGreat
section
set_option maxRecDepth 100000
open Go.RowKit
set_option maxHeartbeats 1000000 in
theorem lookup_of {w : World} {F T : Nat} {a pa pl port : Int} (hF : w.heap[F]? = some (.cells #[.pointer (some ⟨T, 0, none⟩)] 129 (0, 0))) (hM : ∀ x, Grow w x → Calls Tryz.prog 124 #[.pointer (some ⟨T, 0, none⟩), .int .u32 a] x fun e w' => e = .returned (.tuple #[.agg #[.int .u32 pa, .int .i64 pl], wayV 3 port, .bool true]) ∧ Grow x w') :
  Calls Tryz.prog 106 #[.pointer (some ⟨F, 0, none⟩), .int .u32 a] w fun e w' => e = .returned (.tuple #[.agg #[.int .u32 pa, .int .i64 pl], wayV 3 port, .bool true]) ∧ Grow w w' := by
 have HM := Lib.hid hM
 have HF := Lib.hid hF
 clear hM hF
 go_enter Tryz.func106, Tryz.ntmps106
 go_wp2_with fail
 obtain ⟨w0, hw0⟩ : ∃ x, (w.alloc (.cells #[.int .u32 0, .int .i64 0] 35)).alloc (.cells Tryz.zeroCells127 127) = x := ⟨_, rfl⟩
 have hsA : (w.alloc (.cells #[.int .u32 0, .int .i64 0] 35)).heap.size = w.heap.size + 1 := World.size_alloc _ _
 have hB := heap_alloc_new (w.alloc (.cells #[.int .u32 0, .int .i64 0] 35)) (.cells Tryz.zeroCells127 127)
 have hA : ((w.alloc (.cells #[.int .u32 0, .int .i64 0] 35)).alloc (.cells Tryz.zeroCells127 127)).heap[w.heap.size]? = some (.cells #[.int .u32 0, .int .i64 0] 35 (0, 0)) := (Below.heap_alloc _ _ _ (by rw [hsA]; exact Nat.lt_succ_self _)).trans (heap_alloc_new w _)
 have hG0 : Grow w ((w.alloc (.cells #[.int .u32 0, .int .i64 0] 35)).alloc (.cells Tryz.zeroCells127 127)) := ((Grow.refl w).alloc _).alloc _
 rw [hsA] at hB
 rw [hw0] at hA hB hG0 ⊢
 rw [zero127] at hB
 have HA0 := Lib.hid hA
 have HB0 := Lib.hid hB
 have HG0 := Lib.hid hG0
 have HF0 := Lib.hid ((hG0.block _ (lt_of_block HF.out)).trans HF.out)
 clear hw0 hsA hA hB hG0
 have hq := fibthere HF0.out
 with_reducible refine hq.mono ?_
 clear hq
 rintro e w1 ⟨rfl, rfl⟩
 have y0 : w1.cell? ⟨F, 0, none⟩ = some (.pointer (some ⟨T, 0, none⟩)) := by simp [World.cell?, HF0.out]
 go_wp2_with fail
 with_reducible refine (HM.out _ HG0.out).mono ?_
 rintro e w2 ⟨rfl, hg⟩
 have hA2 := (hg.block _ (lt_of_block HA0.out)).trans HA0.out
 have HW2 := Lib.hid (WayIn.of_heap ((hg.block _ (lt_of_block HB0.out)).trans HB0.out))
 have HA2 := Lib.hid hA2
 have HG2 := Lib.hid (HG0.out.trans hg)
 obtain ⟨d0, d1⟩ := blk2c hA2
 have hz : ∀ i, w2.frozen? ⟨w.heap.size, i, none⟩ = false := fun i => by simp [World.frozen?, hA2]
 have z0 := hz 0
 have z1 := hz 1
 unfold wayV
 clear hg hA2 hz y0 HM HA0 HB0 HG0 HF0
 go_wp2_with fail
 obtain ⟨w3, hw3⟩ : ∃ x, (w2.setCell ⟨w.heap.size, 0, none⟩ (.int .u32 pa)).setCell ⟨w.heap.size, 1, none⟩ (.int .i64 pl) = x := ⟨_, rfl⟩
 have hA3 := heap_setCell_same _ _ 1 _ _ (.int .i64 pl) (heap_setCell_same _ _ 0 _ _ (.int .u32 pa) HA2.out)
 have hB3 : ((w2.setCell ⟨w.heap.size, 0, none⟩ (.int .u32 pa)).setCell ⟨w.heap.size, 1, none⟩ (.int .i64 pl)).heap[w.heap.size + 1]? = w2.heap[w.heap.size + 1]? := (Below.heap_setCell _ _ _ _ (by show _ ≠ _; simp)).trans (Below.heap_setCell _ _ _ _ (by show _ ≠ _; simp))
 have hg3 : GrowBut (fun i => w.heap.size ≤ i) w2 ((w2.setCell ⟨w.heap.size, 0, none⟩ (.int .u32 pa)).setCell ⟨w.heap.size, 1, none⟩ (.int .i64 pl)) := ((GrowBut.refl _ w2).setCell (a := ⟨w.heap.size, 0, none⟩) (Nat.le_refl _) _).setCell (a := ⟨w.heap.size, 1, none⟩) (Nat.le_refl _) _
 rw [hw3] at hA3 hB3 hg3 ⊢
 have hW3 := HW2.out.grow hB3
 rw [hW3.run]
 have hk4 := hW3.back (k' := 3) (p' := port)
 have hg4 := hg3.setCells (b := w.heap.size + 1) (by show w.heap.size ≤ _; omega) 0 (wayL 3 port)
 have hA4 : (w3.setCells (w.heap.size + 1) 0 (wayL 3 port)).heap[w.heap.size]? = w3.heap[w.heap.size]? := World.heap_setCells_other _ _ _ _ (lt_of_block hA3) (by omega)
 obtain ⟨w4, hw4⟩ : ∃ x, w3.setCells (w.heap.size + 1) 0 (wayL 3 port) = x := ⟨_, rfl⟩
 rw [hw4] at hk4 hg4 hA4 ⊢
 have HW4 := Lib.hid hk4
 have HG4 := Lib.hid (grow_of_but HG2.out hg4 (fun _ e => e))
 obtain ⟨f0, f1⟩ := blk2c (hA4.trans hA3)
 clear hw3 hw4 hA3 hB3 hg3 hW3 hk4 hg4 hA4 d0 d1 z0 z1
 go_wp2_with fail
 have hlv := HW4.out.load
 have hl35 : (loadVar 35 ⟨w.heap.size, 0, none⟩).run Tryz.prog w4 = .ok (.agg #[.int .u32 pa, .int .i64 pl]) w4 := by simp [go_sem, f0, f1]
 refine bodyPost_ret (v := .tuple #[.agg #[.int .u32 pa, .int .i64 pl], wayV 3 port, .bool true]) (by simp [results, Tryz.results106, hl35, hlv, asAddr, Sem.run_bind]) rfl ⟨rfl, HG4.out⟩
end
end Go.Proofs.YtgckhdepnmiejaaGreat
namespace Go.Proofs.YtgckhdepnmiejaaGreat
section
set_option maxRecDepth 100000
open Go.RowKit
set_option maxHeartbeats 1000000 in
theorem over_any {w : World} {a : Option Addr} {n c : Nat} : Calls Tryz.prog 138 #[.slice a n c] w fun e w' => (∃ B, e = .returned (.func (.func 141) #[] #[.pointer (some ⟨B, 0, none⟩)]) ∧ w'.heap[B]? = some (.cells #[.slice a n c] 241 (0, 0)) ∧ w.heap.size ≤ B) ∧ Grow w w' := by
 have hmf : ∀ (fn : Fn) (first cap : Array Value) (w : World), (Instr.makeFunc fn first cap).run Tryz.prog w = .ok (.func fn first cap) w := fun _ _ _ _ => rfl
 have HN := Lib.hid (heap_alloc_new w (.cells #[.slice a n c] 241))
 have HG : Hid (Grow w (w.alloc (.cells #[.slice a n c] 241))) := (Grow.refl w).alloc _
 go_enter Tryz.func138, Tryz.ntmps138
 go_wp2_with fail
 refine bodyPost_ret (v := .func (.func 141) #[] #[.pointer (some ⟨w.heap.size, 0, none⟩)]) (by simp [results, Tryz.results138, go_sem]) rfl ?_
 exact ⟨⟨_, rfl, HN.out, Nat.le_refl _⟩, HG.out⟩
end
end Go.Proofs.YtgckhdepnmiejaaGreat
namespace Go.Proofs.YtgckhdepnmiejaaGreat
section
set_option maxRecDepth 100000
open Go.RowKit Go.Shelf
attribute [local go_sem] Oper.semAt_some
theorem wpIn_load_mid {F : Fence} {n : Nat} {P : Program} {o : Oper} {a : Act} {w : World} {K : Act → World → Prop} {Q : Exit → Act → World → Prop} (ty : TypeId) (x : Operand) (ho : o.op = .load ty x)
  (b off : Nat) (hx : a.eval x = .pointer (some ⟨b, off, none⟩)) (cs : List Value) (d : TypeDesc) (hc : w.rangeAt b off cs)
  (hu : P.underlying ty = some d) (hd : d.isRow = true) (hi : (P.info? ty).map (·.size) = some cs.length)
  (h : K (a.put o.dst (.agg cs.toArray)) w) : o.wpIn F n P a w K Q := by
 unfold Oper.wpIn
 refine ⟨by simp [Oper.about, ho], ?_⟩
 rw [Oper.semAt_plain F _ _ (by rw [ho]; intro c hc'; cases hc')]
 unfold execOp
 simp only [ho, hx, Instr.loadAt, Instr.sureAddr, Sem.run_bind, Sem.run_pure, Result.andThen_ok, run_loadVar_mid w b off ty cs d hc hu hd hi]
 exact h
theorem row243 : ∃ d, Tryz.prog.underlying 243 = some d ∧ d.isRow = true := ⟨_, Tryz.underlying243, rfl⟩
theorem size243 : (Tryz.prog.info? 243).map (·.size) = some 259 := by kernel_rfl
/-- An entry's cells. -/
def entL (a l k p : Int) : List Value := .int .u32 a :: .int .i64 l :: wayL k p
theorem entL_length (a l k p : Int) : (entL a l k p).length = 259 := by simp [entL, wayL_length]
theorem entL_one (a l k p : Int) : ∀ v ∈ entL a l k p, v.oneCell' = true := fun v hv => by
 unfold entL at hv
 rcases List.mem_cons.1 hv with rfl | hv
 ·rfl
 rcases List.mem_cons.1 hv with rfl | hv
 ·rfl
 ·exact wayL_one _ _ v hv
theorem zero243 : Tryz.zeroCells243.size = 259 := by kernel_rfl
set_option maxHeartbeats 1000000 in
theorem over1_seq (n : Nat) (Kp : World → World → Prop) {B eb eo ec : Nat} {a l k p : Int} (w w₁ : World) (hw : Below w.heap.size w w₁) (hB : w.heap[B]? = some (.cells #[.slice (some ⟨eb, eo, none⟩) 1 ec] 241 (0, 0))) (hE : w.rangeAt eb eo (entL a l k p)) :
  SeqR Fence.wide n Tryz.prog 141 #[.pointer (some ⟨B, 0, none⟩)] (fun _ : Unit => #[.agg #[.int .u32 a, .int .i64 l], wayV k p]) (fun _ _ => True) Kp (fun xs => xs.length = 1) 10000 w₁ := by
 intro lb J W hW' hJ hY h0
 have hW : Below w.heap.size w W := hw.trans (hW'.mono hw.size)
 clear hW' hw
 have hc : W.cell? ⟨B, 0, none⟩ = some (.slice (some ⟨eb, eo, none⟩) 1 ec) := by simp [World.cell?, (hW.block _ (lt_of_block hB)).trans hB]
 have HE : Hid (W.rangeAt eb eo (entL a l k p)) := fun j v hv => (hW.cell (block_lt (hE j v hv))).trans (hE j v hv)
 have HY := Lib.hid hY
 have HW := Lib.hid hW
 have HJ := Lib.hid hJ
 clear hB hE hY hW hJ
 refine callsIn_of_wp Tryz.func141 rfl trivial ?_ rfl
 simp only [Tryz.ntmps141, List.size_toArray, List.length_cons, List.length_nil, Nat.reduceAdd, Nat.reduceSub, Array.replicate_succ, Array.replicate_zero, List.push_toArray, List.append_toArray, List.nil_append, List.cons_append]
 gi_wp2
 refine wpIn_loop_rounds 2 ?_
 rw [roundsIn_succ]
 gi_wp2
 rename_i hK
 obtain ⟨dd, hdd, hrr⟩ := row243
 refine wpIn_load_mid 243 (.tmp 9) rfl eb eo rfl (entL a l k p) dd HE.out hdd hrr (by rw [entL_length]; exact size243) ?_
 refine hK _ _ ?_
 clear hK hdd hrr
 gi_wp2
 have hst := run_storeCells_new (P := Tryz.prog) W 243 Tryz.zeroCells243 (entL a l k p).toArray (by simpa [entL_length] using size243) (by rw [zero243]; simp [entL_length]) (all_oneCell_toArray (entL_one a l k p))
 try simp only [List.toList_toArray] at hst
 rw [hst]
 obtain ⟨W2, hW2⟩ : ∃ x, W.alloc (.cells (entL a l k p).toArray 243) = x := ⟨_, rfl⟩
 have hN := heap_alloc_new W (.cells (entL a l k p).toArray 243)
 have hg : Grow W (W.alloc (.cells (entL a l k p).toArray 243)) := (Grow.refl W).alloc _
 rw [hW2] at hN hg ⊢
 obtain ⟨E, hEe⟩ : ∃ x, W.heap.size = x := ⟨_, rfl⟩
 rw [hEe] at hN ⊢
 have HN := Lib.hid hN
 have HG := Lib.hid hg
 have e0 : W2.cell? ⟨E, 0, none⟩ = some (.int .u32 a) := (cell_of_row _ _ 0 _ _ _ hN).trans (by simp [entL])
 have e1 : W2.cell? ⟨E, 1, none⟩ = some (.int .i64 l) := (cell_of_row _ _ 1 _ _ _ hN).trans (by simp [entL])
 have HE2 : Hid (W2.rangeAt E 2 (wayL k p)) := fun j v hv => (cell_of_row _ _ (2 + j) _ _ _ hN).trans (by rw [Nat.add_comm 2 j]; simpa [entL] using hv)
 clear hst hN hg hW2 hEe
 gi_wp2
 rename_i hK
 obtain ⟨dd, hdd, hrr⟩ := row127
 refine wpIn_load_mid 127 (.tmp 14) rfl E 2 rfl (wayL k p) dd HE2.out hdd hrr (by rw [wayL_length]; exact size127) ?_
 refine hK _ _ ?_
 clear hK hdd hrr
 have hJ3 := HJ.out _ _ _ none h0 (grown_none HG.out) (fun r e => by cases e)
 obtain ⟨fn, tmps, assign, body, hy, hR⟩ := HY.out [] () W2 hJ3 trivial (by simp)
 try dsimp only at hy
 try unfold wayV at hy
 have HR := Lib.hid hR
 clear hJ3 hR
 gi_wp2
 refine ⟨fun h => (by cases h), HR.out.mono ?_⟩
 rintro e W3 ⟨rfl, hJ4, hk4⟩
 gi_wp2
 rw [roundsIn_succ]
 gi_wp2
 go_end0
 exact ⟨⟨_, rfl⟩, [()], rfl, hJ4⟩
end
end Go.Proofs.YtgckhdepnmiejaaGreat
namespace Go.Proofs.YtgckhdepnmiejaaGreat
section
set_option maxRecDepth 100000
open Go.RowKit
theorem blkN {w : World} {N : Nat} {a l k p : Int} {has : Bool} {n0 n1 : Value} (h : NodeAt w N a l k p has n0 n1) :
  (w.cell? ⟨N, 0, none⟩ = some (.int .u32 a) ∧ w.cell? ⟨N, 1, none⟩ = some (.int .i64 l) ∧ w.cell? ⟨N, 259, none⟩ = some (.bool has) ∧ w.cell? ⟨N, 260, none⟩ = some n0 ∧ w.cell? ⟨N, 261, none⟩ = some n1) ∧ w.rangeAt N 2 (wayL k p) := by
 refine ⟨⟨?_, ?_, ?_, ?_, ?_⟩, fun j v hv => ?_⟩
 ·exact (cell_of_row _ _ 0 _ _ _ h).trans (by simp [nodeL])
 ·exact (cell_of_row _ _ 1 _ _ _ h).trans (by simp [nodeL])
 ·exact (cell_of_row _ _ 259 _ _ _ h).trans (by simp [nodeL, wayL_length])
 ·exact (cell_of_row _ _ 260 _ _ _ h).trans (by simp [nodeL, wayL_length])
 ·exact (cell_of_row _ _ 261 _ _ _ h).trans (by simp [nodeL, wayL_length])
 ·have hj : j < (wayL k p).length := by
   rcases Nat.lt_or_ge j (wayL k p).length with h | h
   ·exact h
   ·rw [List.getElem?_eq_none h] at hv; cases hv
  exact (cell_of_row _ _ (2 + j) _ _ _ h).trans (by
   rw [show 2 + j = j + 1 + 1 by omega]
   simp only [nodeL, List.getElem?_toArray, List.getElem?_cons_succ]
   rw [List.getElem?_append_left hj]; exact hv)
theorem built243 (a l k p : Int) : Tryz.prog.built 243 [(0, .agg #[.int .u32 a, .int .i64 l]), (1, .agg (wayL k p).toArray)] = some (entL a l k p).toArray := by kernel_rfl
theorem infoEnt : (Tryz.prog.info? 243).map (fun i => (i.zero, i.size, i.bytes)) = some (some (.agg Tryz.zeroCells243), 259, 2072) := by kernel_rfl
theorem mild_load_127 {o : Oper} {a : Act} {w : World} {A off : Nat} {k p : Int} (x : Operand) (ho : o.op = .load 127 x) (hx : a.eval x = .pointer (some ⟨A, off, none⟩)) (hr : w.rangeAt A off (wayL k p)) : mildAt Tryz.prog o a w (fun u _ => u = .agg (wayL k p).toArray) (fun w' => Below w.heap.size w w') := by
 obtain ⟨d, hd, hrow⟩ := row127
 unfold mildAt execOp
 simp only [ho, hx, Instr.loadAt, Instr.sureAddr, Sem.run_bind, Sem.run_pure, Result.andThen_ok, run_loadVar_mid (P := Tryz.prog) w A off 127 (wayL k p) d hr hd hrow (by rw [wayL_length]; exact size127)]
 exact ⟨rfl, Below.refl _ _⟩
theorem mild_build_243 {o : Oper} {ac : Act} {w : World} {a l k p : Int} (x y : Operand) (ho : o.op = .build 243 #[(0, x), (1, y)]) (hx : ac.eval x = .agg #[.int .u32 a, .int .i64 l]) (hy : ac.eval y = .agg (wayL k p).toArray) : mildAt Tryz.prog o ac w (fun u _ => u = .agg (entL a l k p).toArray) (fun w' => Below w.heap.size w w') := by
 unfold mildAt execOp
 have hb := run_build (P := Tryz.prog) w 243 #[(0, .agg #[.int .u32 a, .int .i64 l]), (1, .agg (wayL k p).toArray)] _ (built243 a l k p)
 simp only [ho, List.map_toArray, List.map_cons, List.map_nil, hx, hy, Sem.run_bind, hb, Result.andThen_ok]
 exact ⟨rfl, Below.refl _ _⟩
/-- One entry, in a block of its own. -/
def EntB (b0 : Nat) (a l k p : Int) (u : Value) (x : World) : Prop := ∃ B, u = .slice (some ⟨B, 0, none⟩) 1 1 ∧ x.heap[B]? = some (.cells (entL a l k p).toArray 243 (0, 0)) ∧ b0 ≤ B
theorem EntB.stay {b0 : Nat} {a l k p : Int} {u : Value} {x x' : World} (h : EntB b0 a l k p u x) (hg : GrowBut NoBlock x x') : EntB b0 a l k p u x' := by
 obtain ⟨B, h1, h2, h3⟩ := h
 exact ⟨B, h1, (hg.below.block B (lt_of_block h2)).trans h2, h3⟩
def OwnE (b0 : Nat) (a l k p : Int) (u : Value) (x : World) : Prop := x.ownsRow b0 243 259 u 1 (entL a l k p)
theorem OwnE.stay {b0 : Nat} {a l k p : Int} {u : Value} {x x' : World} (h : OwnE b0 a l k p u x) (hg : GrowBut NoBlock x x') : OwnE b0 a l k p u x' := own_grow h hg.below
theorem mild_ents {o : Oper} {ac : Act} {w : World} {b0 : Nat} {a l k p : Int} (x : Operand) (ho : o.op = .buildSlice 241 1 #[(0, x)]) (hx : ac.eval x = .agg (entL a l k p).toArray) (hb : b0 ≤ w.heap.size) : mildAt Tryz.prog o ac w (EntB b0 a l k p) (fun w' => Below w.heap.size w w') := by
 obtain ⟨i0, hi, hz0, hz1, hz2⟩ := info_parts infoEnt
 have hf : Instr.fill (fun i => some (i * 259, 259)) ((Array.range (1 * 259)).map ((Value.agg Tryz.zeroCells243).cells[· % (Value.agg Tryz.zeroCells243).cells.size]!)) [(0, .agg (entL a l k p).toArray)] = some (entL a l k p).toArray := by kernel_rfl
 have hr := run_buildSlice (P := Tryz.prog) w 241 243 1 #[(0, .agg (entL a l k p).toArray)] (entL a l k p).toArray i0 _ Tryz.underlying241 hi hz0 (by rw [hz1]; omega) (by rw [hz1]; omega) (by rw [hz1]; exact hf)
 unfold mildAt execOp
 simp only [ho, List.map_toArray, List.map_cons, List.map_nil, hx, Sem.run_bind, hr, Result.andThen_ok]
 exact ⟨⟨_, rfl, heap_alloc_new _ _, hb⟩, (Below.refl _ _).alloc (Nat.le_refl _) _⟩
/-- A sequence over one entry. -/
def OneSeq (w : World) (a l k p : Int) (e : Ending) (w' : World) : Prop :=
 (∃ B eb eo ec, e = .returned (.func (.func 141) #[] #[.pointer (some ⟨B, 0, none⟩)]) ∧ w'.heap[B]? = some (.cells #[.slice (some ⟨eb, eo, none⟩) 1 ec] 241 (0, 0)) ∧ w'.rangeAt eb eo (entL a l k p)) ∧ Grow w w'
set_option maxHeartbeats 8000000 in
theorem covers_one {w : World} {T N1 : Nat} {lim n port : Int} {m1 : Value} (hT : TrieAtW w T (.pointer (some ⟨N1, 0, none⟩)) lim n) (h1 : NodeAt w N1 184549376 8 3 port true (.pointer none) (m1)) :
  Calls Tryz.prog 134 #[.pointer (some ⟨T, 0, none⟩), .int .u32 184549381] w (OneSeq w 184549376 8 3 port) := by
 have HT := Lib.hid hT
 have HN1 : Hid (w.heap[N1]? = _) := h1
 have HG : Hid (Grow w w) := Grow.refl w
 clear hT h1
 go_enter Tryz.func134, Tryz.ntmps134
 go_wp2_with fail
 with_reducible refine (thereW HT.out).mono ?_
 rintro e w1 ⟨rfl, rfl⟩
 obtain ⟨⟨c0, c1, c2, c3⟩, cz⟩ := blk4 HT.out
 go_wp2_with fail
 refine wp_scope_straight ?_
 go_wp2_with fail
 refine wp_label ?_
 go_wp2_with fail
 refine wp_loop_rounds 2 ?_
 clear c0 c1 c2 c3 cz
 rw [rounds_succ]
 go_wp2_with fail
 have hb1 : bits .and .u32 184549381 4278190080 = 184549376 := by decide +kernel
 refine wpRg 14 ?_
 simp only [List.take_succ_cons, List.take_zero, List.drop_succ_cons, List.drop_zero]
 repeat (refine wpHp fun K hK => ?_; go_simp; refine hK _ ?_; clear hK K)
 refine wpHd (.int .i64 8) (fun w' hg => ?_) ?_
 ·obtain ⟨⟨y0, y1, y2, y3, y4⟩, _⟩ := blkN ((hg.below.block _ (lt_of_block HN1.out)).trans HN1.out)
  clear hg
  go_simp
  exact Below.refl _ _
 try go_simp
 repeat (refine wpHp fun K hK => ?_; go_simp; refine hK _ ?_; clear hK K)
 refine wpHd (.int .u32 4278190080) (fun w' hg => ?_) ?_
 ·have h := mask_8 w'
  clear hg
  go_simp
  with_reducible refine h.mono ?_
  rintro e w1 ⟨rfl, rfl⟩
  exact ⟨_, rfl, rfl, Below.refl _ _⟩
 try go_simp
 repeat (refine wpHp fun K hK => ?_; go_simp; refine hK _ ?_; clear hK K)
 refine wpHd (.int .u32 184549376) (fun w' hg => ?_) ?_
 ·obtain ⟨⟨y0, y1, y2, y3, y4⟩, _⟩ := blkN ((hg.below.block _ (lt_of_block HN1.out)).trans HN1.out)
  clear hg
  go_simp
  exact Below.refl _ _
 try go_simp
 repeat (refine wpHp fun K hK => ?_; go_simp; refine hK _ ?_; clear hK K)
 refine wpH_nil ?_
 intro xs wx1 hg hx1 hx2
 have HN1 := Lib.hid ((hg.below.block _ (lt_of_block HN1.out)).trans HN1.out)
 have HG := Lib.hid (HG.out.trans hg.below)
 clear hg hx1 hx2
 simp only [fill]
 go_simp
 obtain ⟨⟨y0, y1, y2, y3, y4⟩, _⟩ := blkN HN1.out
 clear hb1
 go_wp2_with fail
 clear y0 y1 y2 y3 y4
 obtain ⟨b0, hb0⟩ : ∃ x, wx1.heap.size = x := ⟨_, rfl⟩
 have HB0 : Hid (b0 ≤ wx1.heap.size) := by show _ ≤ _; omega
 clear hb0
 refine wpRg 12 ?_
 simp only [List.take_succ_cons, List.take_zero, List.drop_succ_cons, List.drop_zero]
 repeat (refine wpHp fun K hK => ?_; go_simp; refine hK _ ?_; clear hK K)
 refine wpHd (.agg #[.int .u32 184549376, .int .i64 8]) (fun w' hg => ?_) ?_
 ·obtain ⟨⟨y0, y1, y2, y3, y4⟩, _⟩ := blkN ((hg.below.block _ (lt_of_block HN1.out)).trans HN1.out)
  clear hg
  go_simp
  exact Below.refl _ _
 try go_simp
 repeat (refine wpHp fun K hK => ?_; go_simp; refine hK _ ?_; clear hK K)
 refine wpHd (.agg (wayL 3 port).toArray) (fun w' hg => ?_) ?_
 ·exact mild_load_127 _ (by rfl) (by rfl) (blkN ((hg.below.block _ (lt_of_block HN1.out)).trans HN1.out)).2
 refine wpHd (.agg (entL 184549376 8 3 port).toArray) (fun w' hg => ?_) ?_
 ·exact mild_build_243 _ _ (by rfl) (by rfl) (by rfl)
 refine wpH_hid' (EntB b0 184549376 8 3 port) (by intro _ _ h; cases h) rfl (by rfl) (fun u x x' hg h => h.stay hg) (by rfl) (by rfl) (fun w' hg => ?_) ?_
 ·exact mild_ents _ (by rfl) (by rfl) (Nat.le_trans HB0.out hg.below.size)
 refine wpH_hid (OwnE b0 184549376 8 3 port) rfl (by rfl) (fun u x x' hg h => h.stay hg) (fun xs => by rfl) (fun xs w' hg hf => ?_) ?_
 ·have h1 := hf _ (List.Mem.head _) (by rfl)
  try dsimp only at h1
  obtain ⟨B, hB1, hB2, hB3⟩ := h1
  obtain ⟨i0, hi, hz0, hz1, hz2⟩ := info_parts infoEnt
  refine mild_append_own _ _ _ (by rfl) b0 243 i0 _ 259 2072 Tryz.underlying241 hi hz0 hz1 hz2 (by kernel_rfl) (by omega) (.slice none 0 0) 0 [] (by rfl) (World.ownsRow_nil _ _ _ _) ⟨B, 0, none⟩ 1 1 (entL 184549376 8 3 port) (by simp only [fill]; exact hB1) (by rw [entL_length]) (World.news_of_block (cs := (entL 184549376 8 3 port).toArray) hB2) (entL_one _ _ _ _)
   (by omega) (by unfold maxLen; omega) (by omega) (Nat.le_trans HB0.out hg.below.size) (fun g cap w1 hown hgrow => ⟨by simpa [OwnE] using hown, ⟨hgrow.os, hgrow.tape, hgrow.output, hgrow.size, fun q hq => hgrow.block q hq (by simp [Value.ownBlock])⟩⟩)
 refine wpH_nil ?_
 intro xs wx2 hg hx1 hx2
 have hO := hx2 _ _ (List.Mem.head _)
 try dsimp only at hO
 have HN1 := Lib.hid ((hg.below.block _ (lt_of_block HN1.out)).trans HN1.out)
 have HG := Lib.hid (HG.out.trans hg.below)
 have HO := Lib.hid hO
 clear hg hx1 hx2 hO
 simp only [fill]
 go_simp
 generalize xs 56 = y5 at *
 generalize xs 55 = y55 at *
 obtain ⟨⟨y0, y1, y2, y3, y4⟩, _⟩ := blkN HN1.out
 go_wp2_with fail
 clear y0 y1 y2 y3 y4
 refine wpRg 12 ?_
 simp only [List.take_succ_cons, List.take_zero, List.drop_succ_cons, List.drop_zero]
 repeat (refine wpHp fun K hK => ?_; go_simp; refine hK _ ?_; clear hK K)
 refine wpHd (.int .i64 8) (fun w' hg => ?_) ?_
 ·obtain ⟨⟨y0, y1, y2, y3, y4⟩, _⟩ := blkN ((hg.below.block _ (lt_of_block HN1.out)).trans HN1.out)
  clear hg
  go_simp
  exact Below.refl _ _
 try go_simp
 repeat (refine wpHp fun K hK => ?_; go_simp; refine hK _ ?_; clear hK K)
 refine wpHd (.int .i64 0) (fun w' hg => ?_) ?_
 ·have h := bit_184549381_8 w'
  clear hg
  go_simp
  with_reducible refine h.mono ?_
  rintro e w1 ⟨rfl, rfl⟩
  exact ⟨_, rfl, rfl, Below.refl _ _⟩
 try go_simp
 repeat (refine wpHp fun K hK => ?_; go_simp; refine hK _ ?_; clear hK K)
 refine wpHd (.pointer none) (fun w' hg => ?_) ?_
 ·obtain ⟨⟨y0, y1, y2, y3, y4⟩, _⟩ := blkN ((hg.below.block _ (lt_of_block HN1.out)).trans HN1.out)
  clear hg
  go_simp
  exact Below.refl _ _
 try go_simp
 repeat (refine wpHp fun K hK => ?_; go_simp; refine hK _ ?_; clear hK K)
 refine wpH_nil ?_
 intro xs wx3 hg hx1 hx2
 have HN1 := Lib.hid ((hg.below.block _ (lt_of_block HN1.out)).trans HN1.out)
 have HG := Lib.hid (HG.out.trans hg.below)
 have HO := Lib.hid (OwnE.stay HO.out hg)
 clear hg hx1 hx2
 simp only [fill]
 go_simp
 go_wp2_with fail
 rw [rounds_succ]
 go_wp2_with fail
 rename_i Q1 _ _ _
 simp only [Exit.noGoto]
 obtain ⟨g5, c5, rfl⟩ : ∃ g c, y5 = .slice (some ⟨g, 0, none⟩) 1 c := by
  rcases HO.out.2 with ⟨_, h0⟩ | ⟨g, cap, cur, e, _⟩
  ·omega
  ·exact ⟨g, cap, e⟩
 go_wp2_with fail
 with_reducible refine over_any.mono ?_
 rintro e wz ⟨⟨B, rfl, hB, _⟩, hg⟩
 have HG' := Lib.hid (HG.out.trans hg)
 have HO' := Lib.hid (own_grow HO.out hg)
 have HB := Lib.hid hB
 clear hg hB
 go_wp2_with fail
 refine bodyPost_ret (v := .func (.func 141) #[] #[.pointer (some ⟨B, 0, none⟩)]) (by simp [results, Tryz.results134, go_sem]) rfl ?_
 refine ⟨⟨B, g5, 0, c5, rfl, HB.out, fun j v hv => ?_⟩, HG'.out⟩
 have hj := World.ownsRow.cells HO'.out rfl j v hv
 rw [Addr.add_lit] at hj
 exact hj
set_option maxHeartbeats 8000000 in
theorem covers_a {w : World} {T N1 N2 N3 : Nat} {lim n port : Int} {m1 m2 m3 : Value} (hT : TrieAtW w T (.pointer (some ⟨N1, 0, none⟩)) lim n) (h1 : NodeAt w N1 134217728 5 0 0 false (.pointer (some ⟨N2, 0, none⟩)) (m1)) (h2 : NodeAt w N2 167772160 7 0 0 false (m2) (.pointer (some ⟨N3, 0, none⟩))) (h3 : NodeAt w N3 184549376 8 3 port true (.pointer none) (m3)) :
  Calls Tryz.prog 134 #[.pointer (some ⟨T, 0, none⟩), .int .u32 184549381] w (OneSeq w 184549376 8 3 port) := by
 have HT := Lib.hid hT
 have HN1 : Hid (w.heap[N1]? = _) := h1
 have HN2 : Hid (w.heap[N2]? = _) := h2
 have HN3 : Hid (w.heap[N3]? = _) := h3
 have HG : Hid (Grow w w) := Grow.refl w
 clear hT h1 h2 h3
 go_enter Tryz.func134, Tryz.ntmps134
 go_wp2_with fail
 with_reducible refine (thereW HT.out).mono ?_
 rintro e w1 ⟨rfl, rfl⟩
 obtain ⟨⟨c0, c1, c2, c3⟩, cz⟩ := blk4 HT.out
 go_wp2_with fail
 refine wp_scope_straight ?_
 go_wp2_with fail
 refine wp_label ?_
 go_wp2_with fail
 refine wp_loop_rounds 4 ?_
 clear c0 c1 c2 c3 cz
 rw [rounds_succ]
 go_wp2_with fail
 have hb1 : bits .and .u32 184549381 4160749568 = 134217728 := by decide +kernel
 refine wpRg 14 ?_
 simp only [List.take_succ_cons, List.take_zero, List.drop_succ_cons, List.drop_zero]
 repeat (refine wpHp fun K hK => ?_; go_simp; refine hK _ ?_; clear hK K)
 refine wpHd (.int .i64 5) (fun w' hg => ?_) ?_
 ·obtain ⟨⟨y0, y1, y2, y3, y4⟩, _⟩ := blkN ((hg.below.block _ (lt_of_block HN1.out)).trans HN1.out)
  clear hg
  go_simp
  exact Below.refl _ _
 try go_simp
 repeat (refine wpHp fun K hK => ?_; go_simp; refine hK _ ?_; clear hK K)
 refine wpHd (.int .u32 4160749568) (fun w' hg => ?_) ?_
 ·have h := mask_5 w'
  clear hg
  go_simp
  with_reducible refine h.mono ?_
  rintro e w1 ⟨rfl, rfl⟩
  exact ⟨_, rfl, rfl, Below.refl _ _⟩
 try go_simp
 repeat (refine wpHp fun K hK => ?_; go_simp; refine hK _ ?_; clear hK K)
 refine wpHd (.int .u32 134217728) (fun w' hg => ?_) ?_
 ·obtain ⟨⟨y0, y1, y2, y3, y4⟩, _⟩ := blkN ((hg.below.block _ (lt_of_block HN1.out)).trans HN1.out)
  clear hg
  go_simp
  exact Below.refl _ _
 try go_simp
 repeat (refine wpHp fun K hK => ?_; go_simp; refine hK _ ?_; clear hK K)
 refine wpH_nil ?_
 intro xs wx1 hg hx1 hx2
 have HN1 := Lib.hid ((hg.below.block _ (lt_of_block HN1.out)).trans HN1.out)
 have HN2 := Lib.hid ((hg.below.block _ (lt_of_block HN2.out)).trans HN2.out)
 have HN3 := Lib.hid ((hg.below.block _ (lt_of_block HN3.out)).trans HN3.out)
 have HG := Lib.hid (HG.out.trans hg.below)
 clear hg hx1 hx2
 simp only [fill]
 go_simp
 obtain ⟨⟨y0, y1, y2, y3, y4⟩, _⟩ := blkN HN1.out
 clear hb1
 go_wp2_with fail
 clear y0 y1 y2 y3 y4
 refine wpRg 12 ?_
 simp only [List.take_succ_cons, List.take_zero, List.drop_succ_cons, List.drop_zero]
 repeat (refine wpHp fun K hK => ?_; go_simp; refine hK _ ?_; clear hK K)
 refine wpHd (.int .i64 5) (fun w' hg => ?_) ?_
 ·obtain ⟨⟨y0, y1, y2, y3, y4⟩, _⟩ := blkN ((hg.below.block _ (lt_of_block HN1.out)).trans HN1.out)
  clear hg
  go_simp
  exact Below.refl _ _
 try go_simp
 repeat (refine wpHp fun K hK => ?_; go_simp; refine hK _ ?_; clear hK K)
 refine wpHd (.int .i64 0) (fun w' hg => ?_) ?_
 ·have h := bit_184549381_5 w'
  clear hg
  go_simp
  with_reducible refine h.mono ?_
  rintro e w1 ⟨rfl, rfl⟩
  exact ⟨_, rfl, rfl, Below.refl _ _⟩
 try go_simp
 repeat (refine wpHp fun K hK => ?_; go_simp; refine hK _ ?_; clear hK K)
 refine wpHd (.pointer (some ⟨N2, 0, none⟩)) (fun w' hg => ?_) ?_
 ·obtain ⟨⟨y0, y1, y2, y3, y4⟩, _⟩ := blkN ((hg.below.block _ (lt_of_block HN1.out)).trans HN1.out)
  clear hg
  go_simp
  exact Below.refl _ _
 try go_simp
 repeat (refine wpHp fun K hK => ?_; go_simp; refine hK _ ?_; clear hK K)
 refine wpH_nil ?_
 intro xs wx2 hg hx1 hx2
 have HN1 := Lib.hid ((hg.below.block _ (lt_of_block HN1.out)).trans HN1.out)
 have HN2 := Lib.hid ((hg.below.block _ (lt_of_block HN2.out)).trans HN2.out)
 have HN3 := Lib.hid ((hg.below.block _ (lt_of_block HN3.out)).trans HN3.out)
 have HG := Lib.hid (HG.out.trans hg.below)
 clear hg hx1 hx2
 simp only [fill]
 go_simp
 go_wp2_with fail
 rw [rounds_succ]
 go_wp2_with fail
 have hb2 : bits .and .u32 184549381 4261412864 = 167772160 := by decide +kernel
 refine wpRg 14 ?_
 simp only [List.take_succ_cons, List.take_zero, List.drop_succ_cons, List.drop_zero]
 repeat (refine wpHp fun K hK => ?_; go_simp; refine hK _ ?_; clear hK K)
 refine wpHd (.int .i64 7) (fun w' hg => ?_) ?_
 ·obtain ⟨⟨y0, y1, y2, y3, y4⟩, _⟩ := blkN ((hg.below.block _ (lt_of_block HN2.out)).trans HN2.out)
  clear hg
  go_simp
  exact Below.refl _ _
 try go_simp
 repeat (refine wpHp fun K hK => ?_; go_simp; refine hK _ ?_; clear hK K)
 refine wpHd (.int .u32 4261412864) (fun w' hg => ?_) ?_
 ·have h := mask_7 w'
  clear hg
  go_simp
  with_reducible refine h.mono ?_
  rintro e w1 ⟨rfl, rfl⟩
  exact ⟨_, rfl, rfl, Below.refl _ _⟩
 try go_simp
 repeat (refine wpHp fun K hK => ?_; go_simp; refine hK _ ?_; clear hK K)
 refine wpHd (.int .u32 167772160) (fun w' hg => ?_) ?_
 ·obtain ⟨⟨y0, y1, y2, y3, y4⟩, _⟩ := blkN ((hg.below.block _ (lt_of_block HN2.out)).trans HN2.out)
  clear hg
  go_simp
  exact Below.refl _ _
 try go_simp
 repeat (refine wpHp fun K hK => ?_; go_simp; refine hK _ ?_; clear hK K)
 refine wpH_nil ?_
 intro xs wx3 hg hx1 hx2
 have HN1 := Lib.hid ((hg.below.block _ (lt_of_block HN1.out)).trans HN1.out)
 have HN2 := Lib.hid ((hg.below.block _ (lt_of_block HN2.out)).trans HN2.out)
 have HN3 := Lib.hid ((hg.below.block _ (lt_of_block HN3.out)).trans HN3.out)
 have HG := Lib.hid (HG.out.trans hg.below)
 clear hg hx1 hx2
 simp only [fill]
 go_simp
 obtain ⟨⟨y0, y1, y2, y3, y4⟩, _⟩ := blkN HN2.out
 clear hb2
 go_wp2_with fail
 clear y0 y1 y2 y3 y4
 refine wpRg 12 ?_
 simp only [List.take_succ_cons, List.take_zero, List.drop_succ_cons, List.drop_zero]
 repeat (refine wpHp fun K hK => ?_; go_simp; refine hK _ ?_; clear hK K)
 refine wpHd (.int .i64 7) (fun w' hg => ?_) ?_
 ·obtain ⟨⟨y0, y1, y2, y3, y4⟩, _⟩ := blkN ((hg.below.block _ (lt_of_block HN2.out)).trans HN2.out)
  clear hg
  go_simp
  exact Below.refl _ _
 try go_simp
 repeat (refine wpHp fun K hK => ?_; go_simp; refine hK _ ?_; clear hK K)
 refine wpHd (.int .i64 1) (fun w' hg => ?_) ?_
 ·have h := bit_184549381_7 w'
  clear hg
  go_simp
  with_reducible refine h.mono ?_
  rintro e w1 ⟨rfl, rfl⟩
  exact ⟨_, rfl, rfl, Below.refl _ _⟩
 try go_simp
 repeat (refine wpHp fun K hK => ?_; go_simp; refine hK _ ?_; clear hK K)
 refine wpHd (.pointer (some ⟨N3, 0, none⟩)) (fun w' hg => ?_) ?_
 ·obtain ⟨⟨y0, y1, y2, y3, y4⟩, _⟩ := blkN ((hg.below.block _ (lt_of_block HN2.out)).trans HN2.out)
  clear hg
  go_simp
  exact Below.refl _ _
 try go_simp
 repeat (refine wpHp fun K hK => ?_; go_simp; refine hK _ ?_; clear hK K)
 refine wpH_nil ?_
 intro xs wx4 hg hx1 hx2
 have HN1 := Lib.hid ((hg.below.block _ (lt_of_block HN1.out)).trans HN1.out)
 have HN2 := Lib.hid ((hg.below.block _ (lt_of_block HN2.out)).trans HN2.out)
 have HN3 := Lib.hid ((hg.below.block _ (lt_of_block HN3.out)).trans HN3.out)
 have HG := Lib.hid (HG.out.trans hg.below)
 clear hg hx1 hx2
 simp only [fill]
 go_simp
 go_wp2_with fail
 rw [rounds_succ]
 go_wp2_with fail
 have hb3 : bits .and .u32 184549381 4278190080 = 184549376 := by decide +kernel
 refine wpRg 14 ?_
 simp only [List.take_succ_cons, List.take_zero, List.drop_succ_cons, List.drop_zero]
 repeat (refine wpHp fun K hK => ?_; go_simp; refine hK _ ?_; clear hK K)
 refine wpHd (.int .i64 8) (fun w' hg => ?_) ?_
 ·obtain ⟨⟨y0, y1, y2, y3, y4⟩, _⟩ := blkN ((hg.below.block _ (lt_of_block HN3.out)).trans HN3.out)
  clear hg
  go_simp
  exact Below.refl _ _
 try go_simp
 repeat (refine wpHp fun K hK => ?_; go_simp; refine hK _ ?_; clear hK K)
 refine wpHd (.int .u32 4278190080) (fun w' hg => ?_) ?_
 ·have h := mask_8 w'
  clear hg
  go_simp
  with_reducible refine h.mono ?_
  rintro e w1 ⟨rfl, rfl⟩
  exact ⟨_, rfl, rfl, Below.refl _ _⟩
 try go_simp
 repeat (refine wpHp fun K hK => ?_; go_simp; refine hK _ ?_; clear hK K)
 refine wpHd (.int .u32 184549376) (fun w' hg => ?_) ?_
 ·obtain ⟨⟨y0, y1, y2, y3, y4⟩, _⟩ := blkN ((hg.below.block _ (lt_of_block HN3.out)).trans HN3.out)
  clear hg
  go_simp
  exact Below.refl _ _
 try go_simp
 repeat (refine wpHp fun K hK => ?_; go_simp; refine hK _ ?_; clear hK K)
 refine wpH_nil ?_
 intro xs wx5 hg hx1 hx2
 have HN1 := Lib.hid ((hg.below.block _ (lt_of_block HN1.out)).trans HN1.out)
 have HN2 := Lib.hid ((hg.below.block _ (lt_of_block HN2.out)).trans HN2.out)
 have HN3 := Lib.hid ((hg.below.block _ (lt_of_block HN3.out)).trans HN3.out)
 have HG := Lib.hid (HG.out.trans hg.below)
 clear hg hx1 hx2
 simp only [fill]
 go_simp
 obtain ⟨⟨y0, y1, y2, y3, y4⟩, _⟩ := blkN HN3.out
 clear hb3
 go_wp2_with fail
 clear y0 y1 y2 y3 y4
 obtain ⟨b0, hb0⟩ : ∃ x, wx5.heap.size = x := ⟨_, rfl⟩
 have HB0 : Hid (b0 ≤ wx5.heap.size) := by show _ ≤ _; omega
 clear hb0
 refine wpRg 12 ?_
 simp only [List.take_succ_cons, List.take_zero, List.drop_succ_cons, List.drop_zero]
 repeat (refine wpHp fun K hK => ?_; go_simp; refine hK _ ?_; clear hK K)
 refine wpHd (.agg #[.int .u32 184549376, .int .i64 8]) (fun w' hg => ?_) ?_
 ·obtain ⟨⟨y0, y1, y2, y3, y4⟩, _⟩ := blkN ((hg.below.block _ (lt_of_block HN3.out)).trans HN3.out)
  clear hg
  go_simp
  exact Below.refl _ _
 try go_simp
 repeat (refine wpHp fun K hK => ?_; go_simp; refine hK _ ?_; clear hK K)
 refine wpHd (.agg (wayL 3 port).toArray) (fun w' hg => ?_) ?_
 ·exact mild_load_127 _ (by rfl) (by rfl) (blkN ((hg.below.block _ (lt_of_block HN3.out)).trans HN3.out)).2
 refine wpHd (.agg (entL 184549376 8 3 port).toArray) (fun w' hg => ?_) ?_
 ·exact mild_build_243 _ _ (by rfl) (by rfl) (by rfl)
 refine wpH_hid' (EntB b0 184549376 8 3 port) (by intro _ _ h; cases h) rfl (by rfl) (fun u x x' hg h => h.stay hg) (by rfl) (by rfl) (fun w' hg => ?_) ?_
 ·exact mild_ents _ (by rfl) (by rfl) (Nat.le_trans HB0.out hg.below.size)
 refine wpH_hid (OwnE b0 184549376 8 3 port) rfl (by rfl) (fun u x x' hg h => h.stay hg) (fun xs => by rfl) (fun xs w' hg hf => ?_) ?_
 ·have h1 := hf _ (List.Mem.head _) (by rfl)
  try dsimp only at h1
  obtain ⟨B, hB1, hB2, hB3⟩ := h1
  obtain ⟨i0, hi, hz0, hz1, hz2⟩ := info_parts infoEnt
  refine mild_append_own _ _ _ (by rfl) b0 243 i0 _ 259 2072 Tryz.underlying241 hi hz0 hz1 hz2 (by kernel_rfl) (by omega) (.slice none 0 0) 0 [] (by rfl) (World.ownsRow_nil _ _ _ _) ⟨B, 0, none⟩ 1 1 (entL 184549376 8 3 port) (by simp only [fill]; exact hB1) (by rw [entL_length]) (World.news_of_block (cs := (entL 184549376 8 3 port).toArray) hB2) (entL_one _ _ _ _)
   (by omega) (by unfold maxLen; omega) (by omega) (Nat.le_trans HB0.out hg.below.size) (fun g cap w1 hown hgrow => ⟨by simpa [OwnE] using hown, ⟨hgrow.os, hgrow.tape, hgrow.output, hgrow.size, fun q hq => hgrow.block q hq (by simp [Value.ownBlock])⟩⟩)
 refine wpH_nil ?_
 intro xs wx6 hg hx1 hx2
 have hO := hx2 _ _ (List.Mem.head _)
 try dsimp only at hO
 have HN1 := Lib.hid ((hg.below.block _ (lt_of_block HN1.out)).trans HN1.out)
 have HN2 := Lib.hid ((hg.below.block _ (lt_of_block HN2.out)).trans HN2.out)
 have HN3 := Lib.hid ((hg.below.block _ (lt_of_block HN3.out)).trans HN3.out)
 have HG := Lib.hid (HG.out.trans hg.below)
 have HO := Lib.hid hO
 clear hg hx1 hx2 hO
 simp only [fill]
 go_simp
 generalize xs 56 = y5 at *
 generalize xs 55 = y55 at *
 obtain ⟨⟨y0, y1, y2, y3, y4⟩, _⟩ := blkN HN3.out
 go_wp2_with fail
 clear y0 y1 y2 y3 y4
 refine wpRg 12 ?_
 simp only [List.take_succ_cons, List.take_zero, List.drop_succ_cons, List.drop_zero]
 repeat (refine wpHp fun K hK => ?_; go_simp; refine hK _ ?_; clear hK K)
 refine wpHd (.int .i64 8) (fun w' hg => ?_) ?_
 ·obtain ⟨⟨y0, y1, y2, y3, y4⟩, _⟩ := blkN ((hg.below.block _ (lt_of_block HN3.out)).trans HN3.out)
  clear hg
  go_simp
  exact Below.refl _ _
 try go_simp
 repeat (refine wpHp fun K hK => ?_; go_simp; refine hK _ ?_; clear hK K)
 refine wpHd (.int .i64 0) (fun w' hg => ?_) ?_
 ·have h := bit_184549381_8 w'
  clear hg
  go_simp
  with_reducible refine h.mono ?_
  rintro e w1 ⟨rfl, rfl⟩
  exact ⟨_, rfl, rfl, Below.refl _ _⟩
 try go_simp
 repeat (refine wpHp fun K hK => ?_; go_simp; refine hK _ ?_; clear hK K)
 refine wpHd (.pointer none) (fun w' hg => ?_) ?_
 ·obtain ⟨⟨y0, y1, y2, y3, y4⟩, _⟩ := blkN ((hg.below.block _ (lt_of_block HN3.out)).trans HN3.out)
  clear hg
  go_simp
  exact Below.refl _ _
 try go_simp
 repeat (refine wpHp fun K hK => ?_; go_simp; refine hK _ ?_; clear hK K)
 refine wpH_nil ?_
 intro xs wx7 hg hx1 hx2
 have HN1 := Lib.hid ((hg.below.block _ (lt_of_block HN1.out)).trans HN1.out)
 have HN2 := Lib.hid ((hg.below.block _ (lt_of_block HN2.out)).trans HN2.out)
 have HN3 := Lib.hid ((hg.below.block _ (lt_of_block HN3.out)).trans HN3.out)
 have HG := Lib.hid (HG.out.trans hg.below)
 have HO := Lib.hid (OwnE.stay HO.out hg)
 clear hg hx1 hx2
 simp only [fill]
 go_simp
 go_wp2_with fail
 rw [rounds_succ]
 go_wp2_with fail
 rename_i Q1 _ _ _
 simp only [Exit.noGoto]
 obtain ⟨g5, c5, rfl⟩ : ∃ g c, y5 = .slice (some ⟨g, 0, none⟩) 1 c := by
  rcases HO.out.2 with ⟨_, h0⟩ | ⟨g, cap, cur, e, _⟩
  ·omega
  ·exact ⟨g, cap, e⟩
 go_wp2_with fail
 with_reducible refine over_any.mono ?_
 rintro e wz ⟨⟨B, rfl, hB, _⟩, hg⟩
 have HG' := Lib.hid (HG.out.trans hg)
 have HO' := Lib.hid (own_grow HO.out hg)
 have HB := Lib.hid hB
 clear hg hB
 go_wp2_with fail
 refine bodyPost_ret (v := .func (.func 141) #[] #[.pointer (some ⟨B, 0, none⟩)]) (by simp [results, Tryz.results134, go_sem]) rfl ?_
 refine ⟨⟨B, g5, 0, c5, rfl, HB.out, fun j v hv => ?_⟩, HG'.out⟩
 have hj := World.ownsRow.cells HO'.out rfl j v hv
 rw [Addr.add_lit] at hj
 exact hj
set_option maxHeartbeats 8000000 in
theorem covers_b {w : World} {T N1 N2 : Nat} {lim n port : Int} {m1 m2 : Value} (hT : TrieAtW w T (.pointer (some ⟨N1, 0, none⟩)) lim n) (h1 : NodeAt w N1 134217728 5 0 0 false (m1) (.pointer (some ⟨N2, 0, none⟩))) (h2 : NodeAt w N2 201326592 8 3 port true (.pointer none) (m2)) :
  Calls Tryz.prog 134 #[.pointer (some ⟨T, 0, none⟩), .int .u32 201326597] w (OneSeq w 201326592 8 3 port) := by
 have HT := Lib.hid hT
 have HN1 : Hid (w.heap[N1]? = _) := h1
 have HN2 : Hid (w.heap[N2]? = _) := h2
 have HG : Hid (Grow w w) := Grow.refl w
 clear hT h1 h2
 go_enter Tryz.func134, Tryz.ntmps134
 go_wp2_with fail
 with_reducible refine (thereW HT.out).mono ?_
 rintro e w1 ⟨rfl, rfl⟩
 obtain ⟨⟨c0, c1, c2, c3⟩, cz⟩ := blk4 HT.out
 go_wp2_with fail
 refine wp_scope_straight ?_
 go_wp2_with fail
 refine wp_label ?_
 go_wp2_with fail
 refine wp_loop_rounds 3 ?_
 clear c0 c1 c2 c3 cz
 rw [rounds_succ]
 go_wp2_with fail
 have hb1 : bits .and .u32 201326597 4160749568 = 134217728 := by decide +kernel
 refine wpRg 14 ?_
 simp only [List.take_succ_cons, List.take_zero, List.drop_succ_cons, List.drop_zero]
 repeat (refine wpHp fun K hK => ?_; go_simp; refine hK _ ?_; clear hK K)
 refine wpHd (.int .i64 5) (fun w' hg => ?_) ?_
 ·obtain ⟨⟨y0, y1, y2, y3, y4⟩, _⟩ := blkN ((hg.below.block _ (lt_of_block HN1.out)).trans HN1.out)
  clear hg
  go_simp
  exact Below.refl _ _
 try go_simp
 repeat (refine wpHp fun K hK => ?_; go_simp; refine hK _ ?_; clear hK K)
 refine wpHd (.int .u32 4160749568) (fun w' hg => ?_) ?_
 ·have h := mask_5 w'
  clear hg
  go_simp
  with_reducible refine h.mono ?_
  rintro e w1 ⟨rfl, rfl⟩
  exact ⟨_, rfl, rfl, Below.refl _ _⟩
 try go_simp
 repeat (refine wpHp fun K hK => ?_; go_simp; refine hK _ ?_; clear hK K)
 refine wpHd (.int .u32 134217728) (fun w' hg => ?_) ?_
 ·obtain ⟨⟨y0, y1, y2, y3, y4⟩, _⟩ := blkN ((hg.below.block _ (lt_of_block HN1.out)).trans HN1.out)
  clear hg
  go_simp
  exact Below.refl _ _
 try go_simp
 repeat (refine wpHp fun K hK => ?_; go_simp; refine hK _ ?_; clear hK K)
 refine wpH_nil ?_
 intro xs wx1 hg hx1 hx2
 have HN1 := Lib.hid ((hg.below.block _ (lt_of_block HN1.out)).trans HN1.out)
 have HN2 := Lib.hid ((hg.below.block _ (lt_of_block HN2.out)).trans HN2.out)
 have HG := Lib.hid (HG.out.trans hg.below)
 clear hg hx1 hx2
 simp only [fill]
 go_simp
 obtain ⟨⟨y0, y1, y2, y3, y4⟩, _⟩ := blkN HN1.out
 clear hb1
 go_wp2_with fail
 clear y0 y1 y2 y3 y4
 refine wpRg 12 ?_
 simp only [List.take_succ_cons, List.take_zero, List.drop_succ_cons, List.drop_zero]
 repeat (refine wpHp fun K hK => ?_; go_simp; refine hK _ ?_; clear hK K)
 refine wpHd (.int .i64 5) (fun w' hg => ?_) ?_
 ·obtain ⟨⟨y0, y1, y2, y3, y4⟩, _⟩ := blkN ((hg.below.block _ (lt_of_block HN1.out)).trans HN1.out)
  clear hg
  go_simp
  exact Below.refl _ _
 try go_simp
 repeat (refine wpHp fun K hK => ?_; go_simp; refine hK _ ?_; clear hK K)
 refine wpHd (.int .i64 1) (fun w' hg => ?_) ?_
 ·have h := bit_201326597_5 w'
  clear hg
  go_simp
  with_reducible refine h.mono ?_
  rintro e w1 ⟨rfl, rfl⟩
  exact ⟨_, rfl, rfl, Below.refl _ _⟩
 try go_simp
 repeat (refine wpHp fun K hK => ?_; go_simp; refine hK _ ?_; clear hK K)
 refine wpHd (.pointer (some ⟨N2, 0, none⟩)) (fun w' hg => ?_) ?_
 ·obtain ⟨⟨y0, y1, y2, y3, y4⟩, _⟩ := blkN ((hg.below.block _ (lt_of_block HN1.out)).trans HN1.out)
  clear hg
  go_simp
  exact Below.refl _ _
 try go_simp
 repeat (refine wpHp fun K hK => ?_; go_simp; refine hK _ ?_; clear hK K)
 refine wpH_nil ?_
 intro xs wx2 hg hx1 hx2
 have HN1 := Lib.hid ((hg.below.block _ (lt_of_block HN1.out)).trans HN1.out)
 have HN2 := Lib.hid ((hg.below.block _ (lt_of_block HN2.out)).trans HN2.out)
 have HG := Lib.hid (HG.out.trans hg.below)
 clear hg hx1 hx2
 simp only [fill]
 go_simp
 go_wp2_with fail
 rw [rounds_succ]
 go_wp2_with fail
 have hb2 : bits .and .u32 201326597 4278190080 = 201326592 := by decide +kernel
 refine wpRg 14 ?_
 simp only [List.take_succ_cons, List.take_zero, List.drop_succ_cons, List.drop_zero]
 repeat (refine wpHp fun K hK => ?_; go_simp; refine hK _ ?_; clear hK K)
 refine wpHd (.int .i64 8) (fun w' hg => ?_) ?_
 ·obtain ⟨⟨y0, y1, y2, y3, y4⟩, _⟩ := blkN ((hg.below.block _ (lt_of_block HN2.out)).trans HN2.out)
  clear hg
  go_simp
  exact Below.refl _ _
 try go_simp
 repeat (refine wpHp fun K hK => ?_; go_simp; refine hK _ ?_; clear hK K)
 refine wpHd (.int .u32 4278190080) (fun w' hg => ?_) ?_
 ·have h := mask_8 w'
  clear hg
  go_simp
  with_reducible refine h.mono ?_
  rintro e w1 ⟨rfl, rfl⟩
  exact ⟨_, rfl, rfl, Below.refl _ _⟩
 try go_simp
 repeat (refine wpHp fun K hK => ?_; go_simp; refine hK _ ?_; clear hK K)
 refine wpHd (.int .u32 201326592) (fun w' hg => ?_) ?_
 ·obtain ⟨⟨y0, y1, y2, y3, y4⟩, _⟩ := blkN ((hg.below.block _ (lt_of_block HN2.out)).trans HN2.out)
  clear hg
  go_simp
  exact Below.refl _ _
 try go_simp
 repeat (refine wpHp fun K hK => ?_; go_simp; refine hK _ ?_; clear hK K)
 refine wpH_nil ?_
 intro xs wx3 hg hx1 hx2
 have HN1 := Lib.hid ((hg.below.block _ (lt_of_block HN1.out)).trans HN1.out)
 have HN2 := Lib.hid ((hg.below.block _ (lt_of_block HN2.out)).trans HN2.out)
 have HG := Lib.hid (HG.out.trans hg.below)
 clear hg hx1 hx2
 simp only [fill]
 go_simp
 obtain ⟨⟨y0, y1, y2, y3, y4⟩, _⟩ := blkN HN2.out
 clear hb2
 go_wp2_with fail
 clear y0 y1 y2 y3 y4
 obtain ⟨b0, hb0⟩ : ∃ x, wx3.heap.size = x := ⟨_, rfl⟩
 have HB0 : Hid (b0 ≤ wx3.heap.size) := by show _ ≤ _; omega
 clear hb0
 refine wpRg 12 ?_
 simp only [List.take_succ_cons, List.take_zero, List.drop_succ_cons, List.drop_zero]
 repeat (refine wpHp fun K hK => ?_; go_simp; refine hK _ ?_; clear hK K)
 refine wpHd (.agg #[.int .u32 201326592, .int .i64 8]) (fun w' hg => ?_) ?_
 ·obtain ⟨⟨y0, y1, y2, y3, y4⟩, _⟩ := blkN ((hg.below.block _ (lt_of_block HN2.out)).trans HN2.out)
  clear hg
  go_simp
  exact Below.refl _ _
 try go_simp
 repeat (refine wpHp fun K hK => ?_; go_simp; refine hK _ ?_; clear hK K)
 refine wpHd (.agg (wayL 3 port).toArray) (fun w' hg => ?_) ?_
 ·exact mild_load_127 _ (by rfl) (by rfl) (blkN ((hg.below.block _ (lt_of_block HN2.out)).trans HN2.out)).2
 refine wpHd (.agg (entL 201326592 8 3 port).toArray) (fun w' hg => ?_) ?_
 ·exact mild_build_243 _ _ (by rfl) (by rfl) (by rfl)
 refine wpH_hid' (EntB b0 201326592 8 3 port) (by intro _ _ h; cases h) rfl (by rfl) (fun u x x' hg h => h.stay hg) (by rfl) (by rfl) (fun w' hg => ?_) ?_
 ·exact mild_ents _ (by rfl) (by rfl) (Nat.le_trans HB0.out hg.below.size)
 refine wpH_hid (OwnE b0 201326592 8 3 port) rfl (by rfl) (fun u x x' hg h => h.stay hg) (fun xs => by rfl) (fun xs w' hg hf => ?_) ?_
 ·have h1 := hf _ (List.Mem.head _) (by rfl)
  try dsimp only at h1
  obtain ⟨B, hB1, hB2, hB3⟩ := h1
  obtain ⟨i0, hi, hz0, hz1, hz2⟩ := info_parts infoEnt
  refine mild_append_own _ _ _ (by rfl) b0 243 i0 _ 259 2072 Tryz.underlying241 hi hz0 hz1 hz2 (by kernel_rfl) (by omega) (.slice none 0 0) 0 [] (by rfl) (World.ownsRow_nil _ _ _ _) ⟨B, 0, none⟩ 1 1 (entL 201326592 8 3 port) (by simp only [fill]; exact hB1) (by rw [entL_length]) (World.news_of_block (cs := (entL 201326592 8 3 port).toArray) hB2) (entL_one _ _ _ _)
   (by omega) (by unfold maxLen; omega) (by omega) (Nat.le_trans HB0.out hg.below.size) (fun g cap w1 hown hgrow => ⟨by simpa [OwnE] using hown, ⟨hgrow.os, hgrow.tape, hgrow.output, hgrow.size, fun q hq => hgrow.block q hq (by simp [Value.ownBlock])⟩⟩)
 refine wpH_nil ?_
 intro xs wx4 hg hx1 hx2
 have hO := hx2 _ _ (List.Mem.head _)
 try dsimp only at hO
 have HN1 := Lib.hid ((hg.below.block _ (lt_of_block HN1.out)).trans HN1.out)
 have HN2 := Lib.hid ((hg.below.block _ (lt_of_block HN2.out)).trans HN2.out)
 have HG := Lib.hid (HG.out.trans hg.below)
 have HO := Lib.hid hO
 clear hg hx1 hx2 hO
 simp only [fill]
 go_simp
 generalize xs 56 = y5 at *
 generalize xs 55 = y55 at *
 obtain ⟨⟨y0, y1, y2, y3, y4⟩, _⟩ := blkN HN2.out
 go_wp2_with fail
 clear y0 y1 y2 y3 y4
 refine wpRg 12 ?_
 simp only [List.take_succ_cons, List.take_zero, List.drop_succ_cons, List.drop_zero]
 repeat (refine wpHp fun K hK => ?_; go_simp; refine hK _ ?_; clear hK K)
 refine wpHd (.int .i64 8) (fun w' hg => ?_) ?_
 ·obtain ⟨⟨y0, y1, y2, y3, y4⟩, _⟩ := blkN ((hg.below.block _ (lt_of_block HN2.out)).trans HN2.out)
  clear hg
  go_simp
  exact Below.refl _ _
 try go_simp
 repeat (refine wpHp fun K hK => ?_; go_simp; refine hK _ ?_; clear hK K)
 refine wpHd (.int .i64 0) (fun w' hg => ?_) ?_
 ·have h := bit_201326597_8 w'
  clear hg
  go_simp
  with_reducible refine h.mono ?_
  rintro e w1 ⟨rfl, rfl⟩
  exact ⟨_, rfl, rfl, Below.refl _ _⟩
 try go_simp
 repeat (refine wpHp fun K hK => ?_; go_simp; refine hK _ ?_; clear hK K)
 refine wpHd (.pointer none) (fun w' hg => ?_) ?_
 ·obtain ⟨⟨y0, y1, y2, y3, y4⟩, _⟩ := blkN ((hg.below.block _ (lt_of_block HN2.out)).trans HN2.out)
  clear hg
  go_simp
  exact Below.refl _ _
 try go_simp
 repeat (refine wpHp fun K hK => ?_; go_simp; refine hK _ ?_; clear hK K)
 refine wpH_nil ?_
 intro xs wx5 hg hx1 hx2
 have HN1 := Lib.hid ((hg.below.block _ (lt_of_block HN1.out)).trans HN1.out)
 have HN2 := Lib.hid ((hg.below.block _ (lt_of_block HN2.out)).trans HN2.out)
 have HG := Lib.hid (HG.out.trans hg.below)
 have HO := Lib.hid (OwnE.stay HO.out hg)
 clear hg hx1 hx2
 simp only [fill]
 go_simp
 go_wp2_with fail
 rw [rounds_succ]
 go_wp2_with fail
 rename_i Q1 _ _ _
 simp only [Exit.noGoto]
 obtain ⟨g5, c5, rfl⟩ : ∃ g c, y5 = .slice (some ⟨g, 0, none⟩) 1 c := by
  rcases HO.out.2 with ⟨_, h0⟩ | ⟨g, cap, cur, e, _⟩
  ·omega
  ·exact ⟨g, cap, e⟩
 go_wp2_with fail
 with_reducible refine over_any.mono ?_
 rintro e wz ⟨⟨B, rfl, hB, _⟩, hg⟩
 have HG' := Lib.hid (HG.out.trans hg)
 have HO' := Lib.hid (own_grow HO.out hg)
 have HB := Lib.hid hB
 clear hg hB
 go_wp2_with fail
 refine bodyPost_ret (v := .func (.func 141) #[] #[.pointer (some ⟨B, 0, none⟩)]) (by simp [results, Tryz.results134, go_sem]) rfl ?_
 refine ⟨⟨B, g5, 0, c5, rfl, HB.out, fun j v hv => ?_⟩, HG'.out⟩
 have hj := World.ownsRow.cells HO'.out rfl j v hv
 rw [Addr.add_lit] at hj
 exact hj
end
end Go.Proofs.YtgckhdepnmiejaaGreat
namespace Go.Proofs.YtgckhdepnmiejaaGreat
section
set_option maxRecDepth 100000
open Go.RowKit
set_option maxHeartbeats 2000000 in
theorem place1_a {w : World} {T N : Nat} {lim n k p : Int} {has : Bool} {n0 n1 : Value} (h : TrieAtW w T (.pointer (some ⟨N, 0, none⟩)) lim n) (hN : NodeAt w N 167772160 8 k p has n0 n1) :
  Calls Tryz.prog 81 #[.pointer (some ⟨T, 0, none⟩), .agg #[.int .u32 184549376, .int .i64 8]] w fun e w' => e = .returned (.pointer (some ⟨T, 0, none⟩)) ∧ Grow w w' := by
 have hg : Grow w (w.alloc (.cells #[.int .u32 184549376, .int .i64 8] 35)) := (Grow.refl w).alloc _
 have hV := heap_alloc_new w (.cells #[.int .u32 184549376, .int .i64 8] 35)
 have HT : Hid ((w.alloc (.cells #[.int .u32 184549376, .int .i64 8] 35)).heap[T]? = some (.cells #[.pointer (some ⟨N, 0, none⟩), .int .i64 lim, .int .i64 n, .bool true] 159 (0, 0))) := (hg.block _ (lt_of_block h)).trans h
 have HNd : Hid (NodeAt (w.alloc (.cells #[.int .u32 184549376, .int .i64 8] 35)) N 167772160 8 k p has n0 n1) := (hg.block _ (lt_of_block hN)).trans hN
 have HG := Lib.hid hg
 have HP := Lib.hid hV
 clear h hN hg hV
 go_enter Tryz.func81, Tryz.ntmps81
 go_wp2_with fail
 obtain ⟨w0, hw0⟩ : ∃ x, w.alloc (.cells #[.int .u32 184549376, .int .i64 8] 35) = x := ⟨_, rfl⟩
 rw [hw0] at HT HNd HG HP ⊢
 obtain ⟨V, hV⟩ : ∃ x, w.heap.size = x := ⟨_, rfl⟩
 rw [hV] at HP ⊢
 clear hw0 hV
 obtain ⟨⟨c0, c1, c2, c3⟩, _⟩ := blk4 HT.out
 refine wp_scope_straight ?_
 go_wp2_with fail
 refine wp_label ?_
 go_wp2_with fail
 refine wp_loop_rounds 1 ?_
 rw [rounds_succ]
 go_wp2_with fail
 clear c0 c1 c2 c3
 refine wpRg 19 ?_
 simp only [List.take_succ_cons, List.take_zero, List.drop_succ_cons, List.drop_zero]
 repeat (refine wpHp fun K hK => ?_; go_simp; refine hK _ ?_; clear hK K)
 refine wpHd (.agg #[.int .u32 167772160, .int .i64 8]) (fun w' hg => ?_) ?_
 ·obtain ⟨⟨y0, y1, y2, y3, y4⟩, _⟩ := blkN ((hg.below.block _ (lt_of_block HNd.out)).trans HNd.out)
  clear hg
  go_simp
  exact Below.refl _ _
 try go_simp
 refine wpHd (.agg #[.int .u32 184549376, .int .i64 8]) (fun w' hg => ?_) ?_
 ·obtain ⟨y0, y1⟩ := blk2c ((hg.below.block _ (lt_of_block HP.out)).trans HP.out)
  clear hg
  go_simp
  exact Below.refl _ _
 try go_simp
 repeat (refine wpHp fun K hK => ?_; go_simp; refine hK _ ?_; clear hK K)
 refine wpHd (.agg #[.int .u32 167772160, .int .i64 8]) (fun w' hg => ?_) ?_
 ·obtain ⟨⟨y0, y1, y2, y3, y4⟩, _⟩ := blkN ((hg.below.block _ (lt_of_block HNd.out)).trans HNd.out)
  clear hg
  go_simp
  exact Below.refl _ _
 try go_simp
 refine wpHd (.agg #[.int .u32 184549376, .int .i64 8]) (fun w' hg => ?_) ?_
 ·obtain ⟨y0, y1⟩ := blk2c ((hg.below.block _ (lt_of_block HP.out)).trans HP.out)
  clear hg
  go_simp
  exact Below.refl _ _
 try go_simp
 refine wpHd (.agg #[.int .u32 167772160, .int .i64 7]) (fun w' hg => ?_) ?_
 ·have h := common_167772160_184549376 w'
  clear hg
  go_simp
  with_reducible refine h.mono ?_
  rintro e w1 ⟨rfl, hg⟩
  exact ⟨_, rfl, rfl, hg⟩
 try go_simp
 repeat (refine wpHp fun K hK => ?_; go_simp; refine hK _ ?_; clear hK K)
 refine wpHd (.agg #[.int .u32 167772160, .int .i64 8]) (fun w' hg => ?_) ?_
 ·obtain ⟨⟨y0, y1, y2, y3, y4⟩, _⟩ := blkN ((hg.below.block _ (lt_of_block HNd.out)).trans HNd.out)
  clear hg
  go_simp
  exact Below.refl _ _
 try go_simp
 repeat (refine wpHp fun K hK => ?_; go_simp; refine hK _ ?_; clear hK K)
 refine wpH_nil ?_
 intro xs w4 hg hx1 hx2
 have HG4 := Lib.hid (HG.out.trans hg.below)
 clear hg hx1 hx2
 simp only [fill]
 go_simp
 go_wp2_with fail
 rename_i Q1 _ _ _
 simp only [Exit.noGoto]
 go_ret
 exact ⟨by first | rfl | simp, HG4.out⟩
set_option maxHeartbeats 2000000 in
theorem get1_a {w : World} {T N : Nat} {lim n k p : Int} {has : Bool} {n0 n1 : Value} (h : TrieAtW w T (.pointer (some ⟨N, 0, none⟩)) lim n) (hN : NodeAt w N 167772160 8 k p has n0 n1) :
  Calls Tryz.prog 56 #[.pointer (some ⟨T, 0, none⟩), .agg #[.int .u32 184549376, .int .i64 8]] w fun e w' => e = .returned (.tuple #[wayV 0 0, .bool false]) ∧ Grow w w' := by
 have HT : Hid (w.heap[T]? = some (.cells #[.pointer (some ⟨N, 0, none⟩), .int .i64 lim, .int .i64 n, .bool true] 159 (0, 0))) := h
 have HR : Hid (NodeAt w N 167772160 8 k p has n0 n1) := hN
 have hsA : (w.alloc (.cells #[.int .u32 184549376, .int .i64 8] 35)).heap.size = w.heap.size + 1 := World.size_alloc _ _
 have hV := heap_alloc_new (w.alloc (.cells #[.int .u32 184549376, .int .i64 8] 35)) (.cells Tryz.zeroCells127 127)
 rw [hsA] at hV
 have hN : ((w.alloc (.cells #[.int .u32 184549376, .int .i64 8] 35)).alloc (.cells Tryz.zeroCells127 127)).heap[w.heap.size]? = some (.cells #[.int .u32 184549376, .int .i64 8] 35 (0, 0)) := (Below.heap_alloc _ _ _ (by rw [hsA]; exact Nat.lt_succ_self _)).trans (heap_alloc_new w _)
 have hG : Grow w ((w.alloc (.cells #[.int .u32 184549376, .int .i64 8] 35)).alloc (.cells Tryz.zeroCells127 127)) := ((Grow.refl w).alloc _).alloc _
 clear h hsA
 go_enter Tryz.func56, Tryz.ntmps56
 go_wp2_with fail
 obtain ⟨w0, hw0⟩ : ∃ x, (w.alloc (.cells #[.int .u32 184549376, .int .i64 8] 35)).alloc (.cells Tryz.zeroCells127 127) = x := ⟨_, rfl⟩
 rw [hw0] at hV hN hG ⊢
 rw [zero127] at hV
 have HV0 := Lib.hid hV
 have HN0 := Lib.hid hN
 have HG0 := Lib.hid hG
 have HT0 := Lib.hid ((hG.block _ (lt_of_block HT.out)).trans HT.out)
 have HR0 : Hid (NodeAt w0 N 167772160 8 k p has n0 n1) := (hG.block _ (lt_of_block HR.out)).trans HR.out
 clear hw0 hV hN hG
 have hq := thereW (root := .pointer (some ⟨N, 0, none⟩)) (limit := lim) (n := n) HT0.out
 with_reducible refine hq.mono ?_
 clear hq
 rintro e w1 ⟨rfl, rfl⟩
 obtain ⟨d0, d1⟩ := blk2c HN0.out
 go_wp2_with fail
 with_reducible refine (may_184549376 _).mono ?_
 rintro e w2 ⟨rfl, hg⟩
 have HT1 := Lib.hid ((hg.block _ (lt_of_block HT0.out)).trans HT0.out)
 have HR1 : Hid (NodeAt w2 N 167772160 8 k p has n0 n1) := (hg.block _ (lt_of_block HR0.out)).trans HR0.out
 have HN1 := Lib.hid ((hg.block _ (lt_of_block HN0.out)).trans HN0.out)
 have HV1 := Lib.hid ((hg.block _ (lt_of_block HV0.out)).trans HV0.out)
 have HG1 := Lib.hid (HG0.out.trans hg)
 clear hg HT0 HR0 HN0 HV0 HG0 d0 d1
 obtain ⟨d0, d1⟩ := blk2c HN1.out
 go_wp2_with fail
 have hq := place1_a (lim := lim) (n := n) HT1.out HR1.out
 with_reducible refine hq.mono ?_
 clear hq
 rintro e w3 ⟨rfl, hg⟩
 have HT2 := Lib.hid ((hg.block _ (lt_of_block HT1.out)).trans HT1.out)
 have HR2 : Hid (NodeAt w3 N 167772160 8 k p has n0 n1) := (hg.block _ (lt_of_block HR1.out)).trans HR1.out
 have HN2 := Lib.hid ((hg.block _ (lt_of_block HN1.out)).trans HN1.out)
 have HV2 := Lib.hid ((hg.block _ (lt_of_block HV1.out)).trans HV1.out)
 have HG2 := Lib.hid (HG1.out.trans hg)
 clear hg HT1 HR1 HN1 HV1 HG1 d0 d1
 obtain ⟨⟨c0, c1, c2, c3⟩, _⟩ := blk4 HT2.out
 go_wp2_with fail
 clear c0 c1 c2 c3
 refine wpRg 17 ?_
 simp only [List.take_succ_cons, List.take_zero, List.drop_succ_cons, List.drop_zero]
 repeat (refine wpHp fun K hK => ?_; go_simp; refine hK _ ?_; clear hK K)
 refine wpHd (.agg #[.int .u32 167772160, .int .i64 8]) (fun w' hg => ?_) ?_
 ·obtain ⟨⟨y0, y1, y2, y3, y4⟩, _⟩ := blkN ((hg.below.block _ (lt_of_block HR2.out)).trans HR2.out)
  clear hg
  go_simp
  exact Below.refl _ _
 try go_simp
 refine wpHd (.agg #[.int .u32 184549376, .int .i64 8]) (fun w' hg => ?_) ?_
 ·obtain ⟨y0, y1⟩ := blk2c ((hg.below.block _ (lt_of_block HN2.out)).trans HN2.out)
  clear hg
  go_simp
  exact Below.refl _ _
 try go_simp
 repeat (refine wpHp fun K hK => ?_; go_simp; refine hK _ ?_; clear hK K)
 refine wpH_nil ?_
 intro xs w4 hg hx1 hx2
 have HV3 := Lib.hid ((hg.below.block _ (lt_of_block HV2.out)).trans HV2.out)
 have HG3 := Lib.hid (HG2.out.trans hg.below)
 clear hg hx1 hx2 HT2 HR2 HN2 HV2 HG2
 simp only [fill]
 go_simp
 have HW3 := Lib.hid (WayIn.of_heap HV3.out)
 go_wp2_with fail
 rename_i hK
 obtain ⟨dd, hdd, hrr⟩ := row127
 refine wp_load_mid 127 (.tmp 4) rfl (w.heap.size + 1) 0 rfl (wayL 0 0) dd HW3.out.1 hdd hrr (by rw [wayL_length]; exact size127) ?_
 refine hK _ _ ?_
 clear hK hdd hrr
 go_wp2_with fail
 rw [HW3.out.run]
 have hk3 := HW3.out.back (k' := 0) (p' := 0)
 have hg3 := (GrowBut.refl (fun i => w.heap.size ≤ i) w4).setCells (b := w.heap.size + 1) (by show w.heap.size ≤ _; omega) 0 (wayL 0 0)
 obtain ⟨wz, hwz⟩ : ∃ x, w4.setCells (w.heap.size + 1) 0 (wayL 0 0) = x := ⟨_, rfl⟩
 rw [hwz] at hk3 hg3 ⊢
 have HW4 := Lib.hid hk3
 have HG4 := Lib.hid (grow_of_but HG3.out hg3 (fun _ e => e))
 clear hk3 hg3 hwz
 go_wp2_with fail
 have hlv := HW4.out.load
 refine bodyPost_ret (v := .tuple #[wayV 0 0, .bool false]) (by simp [results, Tryz.results56, hlv, asAddr, Sem.run_bind]) rfl ⟨rfl, HG4.out⟩
set_option maxHeartbeats 2000000 in
theorem place1_b {w : World} {T N : Nat} {lim n k p : Int} {has : Bool} {n0 n1 : Value} (h : TrieAtW w T (.pointer (some ⟨N, 0, none⟩)) lim n) (hN : NodeAt w N 167772160 7 k p has n0 n1) :
  Calls Tryz.prog 81 #[.pointer (some ⟨T, 0, none⟩), .agg #[.int .u32 201326592, .int .i64 8]] w fun e w' => e = .returned (.pointer (some ⟨T, 0, none⟩)) ∧ Grow w w' := by
 have hg : Grow w (w.alloc (.cells #[.int .u32 201326592, .int .i64 8] 35)) := (Grow.refl w).alloc _
 have hV := heap_alloc_new w (.cells #[.int .u32 201326592, .int .i64 8] 35)
 have HT : Hid ((w.alloc (.cells #[.int .u32 201326592, .int .i64 8] 35)).heap[T]? = some (.cells #[.pointer (some ⟨N, 0, none⟩), .int .i64 lim, .int .i64 n, .bool true] 159 (0, 0))) := (hg.block _ (lt_of_block h)).trans h
 have HNd : Hid (NodeAt (w.alloc (.cells #[.int .u32 201326592, .int .i64 8] 35)) N 167772160 7 k p has n0 n1) := (hg.block _ (lt_of_block hN)).trans hN
 have HG := Lib.hid hg
 have HP := Lib.hid hV
 clear h hN hg hV
 go_enter Tryz.func81, Tryz.ntmps81
 go_wp2_with fail
 obtain ⟨w0, hw0⟩ : ∃ x, w.alloc (.cells #[.int .u32 201326592, .int .i64 8] 35) = x := ⟨_, rfl⟩
 rw [hw0] at HT HNd HG HP ⊢
 obtain ⟨V, hV⟩ : ∃ x, w.heap.size = x := ⟨_, rfl⟩
 rw [hV] at HP ⊢
 clear hw0 hV
 obtain ⟨⟨c0, c1, c2, c3⟩, _⟩ := blk4 HT.out
 refine wp_scope_straight ?_
 go_wp2_with fail
 refine wp_label ?_
 go_wp2_with fail
 refine wp_loop_rounds 1 ?_
 rw [rounds_succ]
 go_wp2_with fail
 clear c0 c1 c2 c3
 refine wpRg 19 ?_
 simp only [List.take_succ_cons, List.take_zero, List.drop_succ_cons, List.drop_zero]
 repeat (refine wpHp fun K hK => ?_; go_simp; refine hK _ ?_; clear hK K)
 refine wpHd (.agg #[.int .u32 167772160, .int .i64 7]) (fun w' hg => ?_) ?_
 ·obtain ⟨⟨y0, y1, y2, y3, y4⟩, _⟩ := blkN ((hg.below.block _ (lt_of_block HNd.out)).trans HNd.out)
  clear hg
  go_simp
  exact Below.refl _ _
 try go_simp
 refine wpHd (.agg #[.int .u32 201326592, .int .i64 8]) (fun w' hg => ?_) ?_
 ·obtain ⟨y0, y1⟩ := blk2c ((hg.below.block _ (lt_of_block HP.out)).trans HP.out)
  clear hg
  go_simp
  exact Below.refl _ _
 try go_simp
 repeat (refine wpHp fun K hK => ?_; go_simp; refine hK _ ?_; clear hK K)
 refine wpHd (.agg #[.int .u32 167772160, .int .i64 7]) (fun w' hg => ?_) ?_
 ·obtain ⟨⟨y0, y1, y2, y3, y4⟩, _⟩ := blkN ((hg.below.block _ (lt_of_block HNd.out)).trans HNd.out)
  clear hg
  go_simp
  exact Below.refl _ _
 try go_simp
 refine wpHd (.agg #[.int .u32 201326592, .int .i64 8]) (fun w' hg => ?_) ?_
 ·obtain ⟨y0, y1⟩ := blk2c ((hg.below.block _ (lt_of_block HP.out)).trans HP.out)
  clear hg
  go_simp
  exact Below.refl _ _
 try go_simp
 refine wpHd (.agg #[.int .u32 134217728, .int .i64 5]) (fun w' hg => ?_) ?_
 ·have h := common_167772160_201326592 w'
  clear hg
  go_simp
  with_reducible refine h.mono ?_
  rintro e w1 ⟨rfl, hg⟩
  exact ⟨_, rfl, rfl, hg⟩
 try go_simp
 repeat (refine wpHp fun K hK => ?_; go_simp; refine hK _ ?_; clear hK K)
 refine wpHd (.agg #[.int .u32 167772160, .int .i64 7]) (fun w' hg => ?_) ?_
 ·obtain ⟨⟨y0, y1, y2, y3, y4⟩, _⟩ := blkN ((hg.below.block _ (lt_of_block HNd.out)).trans HNd.out)
  clear hg
  go_simp
  exact Below.refl _ _
 try go_simp
 repeat (refine wpHp fun K hK => ?_; go_simp; refine hK _ ?_; clear hK K)
 refine wpH_nil ?_
 intro xs w4 hg hx1 hx2
 have HG4 := Lib.hid (HG.out.trans hg.below)
 clear hg hx1 hx2
 simp only [fill]
 go_simp
 go_wp2_with fail
 rename_i Q1 _ _ _
 simp only [Exit.noGoto]
 go_ret
 exact ⟨by first | rfl | simp, HG4.out⟩
set_option maxHeartbeats 2000000 in
theorem get1_b {w : World} {T N : Nat} {lim n k p : Int} {has : Bool} {n0 n1 : Value} (h : TrieAtW w T (.pointer (some ⟨N, 0, none⟩)) lim n) (hN : NodeAt w N 167772160 7 k p has n0 n1) :
  Calls Tryz.prog 56 #[.pointer (some ⟨T, 0, none⟩), .agg #[.int .u32 201326592, .int .i64 8]] w fun e w' => e = .returned (.tuple #[wayV 0 0, .bool false]) ∧ Grow w w' := by
 have HT : Hid (w.heap[T]? = some (.cells #[.pointer (some ⟨N, 0, none⟩), .int .i64 lim, .int .i64 n, .bool true] 159 (0, 0))) := h
 have HR : Hid (NodeAt w N 167772160 7 k p has n0 n1) := hN
 have hsA : (w.alloc (.cells #[.int .u32 201326592, .int .i64 8] 35)).heap.size = w.heap.size + 1 := World.size_alloc _ _
 have hV := heap_alloc_new (w.alloc (.cells #[.int .u32 201326592, .int .i64 8] 35)) (.cells Tryz.zeroCells127 127)
 rw [hsA] at hV
 have hN : ((w.alloc (.cells #[.int .u32 201326592, .int .i64 8] 35)).alloc (.cells Tryz.zeroCells127 127)).heap[w.heap.size]? = some (.cells #[.int .u32 201326592, .int .i64 8] 35 (0, 0)) := (Below.heap_alloc _ _ _ (by rw [hsA]; exact Nat.lt_succ_self _)).trans (heap_alloc_new w _)
 have hG : Grow w ((w.alloc (.cells #[.int .u32 201326592, .int .i64 8] 35)).alloc (.cells Tryz.zeroCells127 127)) := ((Grow.refl w).alloc _).alloc _
 clear h hsA
 go_enter Tryz.func56, Tryz.ntmps56
 go_wp2_with fail
 obtain ⟨w0, hw0⟩ : ∃ x, (w.alloc (.cells #[.int .u32 201326592, .int .i64 8] 35)).alloc (.cells Tryz.zeroCells127 127) = x := ⟨_, rfl⟩
 rw [hw0] at hV hN hG ⊢
 rw [zero127] at hV
 have HV0 := Lib.hid hV
 have HN0 := Lib.hid hN
 have HG0 := Lib.hid hG
 have HT0 := Lib.hid ((hG.block _ (lt_of_block HT.out)).trans HT.out)
 have HR0 : Hid (NodeAt w0 N 167772160 7 k p has n0 n1) := (hG.block _ (lt_of_block HR.out)).trans HR.out
 clear hw0 hV hN hG
 have hq := thereW (root := .pointer (some ⟨N, 0, none⟩)) (limit := lim) (n := n) HT0.out
 with_reducible refine hq.mono ?_
 clear hq
 rintro e w1 ⟨rfl, rfl⟩
 obtain ⟨d0, d1⟩ := blk2c HN0.out
 go_wp2_with fail
 with_reducible refine (may_201326592 _).mono ?_
 rintro e w2 ⟨rfl, hg⟩
 have HT1 := Lib.hid ((hg.block _ (lt_of_block HT0.out)).trans HT0.out)
 have HR1 : Hid (NodeAt w2 N 167772160 7 k p has n0 n1) := (hg.block _ (lt_of_block HR0.out)).trans HR0.out
 have HN1 := Lib.hid ((hg.block _ (lt_of_block HN0.out)).trans HN0.out)
 have HV1 := Lib.hid ((hg.block _ (lt_of_block HV0.out)).trans HV0.out)
 have HG1 := Lib.hid (HG0.out.trans hg)
 clear hg HT0 HR0 HN0 HV0 HG0 d0 d1
 obtain ⟨d0, d1⟩ := blk2c HN1.out
 go_wp2_with fail
 have hq := place1_b (lim := lim) (n := n) HT1.out HR1.out
 with_reducible refine hq.mono ?_
 clear hq
 rintro e w3 ⟨rfl, hg⟩
 have HT2 := Lib.hid ((hg.block _ (lt_of_block HT1.out)).trans HT1.out)
 have HR2 : Hid (NodeAt w3 N 167772160 7 k p has n0 n1) := (hg.block _ (lt_of_block HR1.out)).trans HR1.out
 have HN2 := Lib.hid ((hg.block _ (lt_of_block HN1.out)).trans HN1.out)
 have HV2 := Lib.hid ((hg.block _ (lt_of_block HV1.out)).trans HV1.out)
 have HG2 := Lib.hid (HG1.out.trans hg)
 clear hg HT1 HR1 HN1 HV1 HG1 d0 d1
 obtain ⟨⟨c0, c1, c2, c3⟩, _⟩ := blk4 HT2.out
 go_wp2_with fail
 clear c0 c1 c2 c3
 refine wpRg 17 ?_
 simp only [List.take_succ_cons, List.take_zero, List.drop_succ_cons, List.drop_zero]
 repeat (refine wpHp fun K hK => ?_; go_simp; refine hK _ ?_; clear hK K)
 refine wpHd (.agg #[.int .u32 167772160, .int .i64 7]) (fun w' hg => ?_) ?_
 ·obtain ⟨⟨y0, y1, y2, y3, y4⟩, _⟩ := blkN ((hg.below.block _ (lt_of_block HR2.out)).trans HR2.out)
  clear hg
  go_simp
  exact Below.refl _ _
 try go_simp
 refine wpHd (.agg #[.int .u32 201326592, .int .i64 8]) (fun w' hg => ?_) ?_
 ·obtain ⟨y0, y1⟩ := blk2c ((hg.below.block _ (lt_of_block HN2.out)).trans HN2.out)
  clear hg
  go_simp
  exact Below.refl _ _
 try go_simp
 repeat (refine wpHp fun K hK => ?_; go_simp; refine hK _ ?_; clear hK K)
 refine wpH_nil ?_
 intro xs w4 hg hx1 hx2
 have HV3 := Lib.hid ((hg.below.block _ (lt_of_block HV2.out)).trans HV2.out)
 have HG3 := Lib.hid (HG2.out.trans hg.below)
 clear hg hx1 hx2 HT2 HR2 HN2 HV2 HG2
 simp only [fill]
 go_simp
 have HW3 := Lib.hid (WayIn.of_heap HV3.out)
 go_wp2_with fail
 rename_i hK
 obtain ⟨dd, hdd, hrr⟩ := row127
 refine wp_load_mid 127 (.tmp 4) rfl (w.heap.size + 1) 0 rfl (wayL 0 0) dd HW3.out.1 hdd hrr (by rw [wayL_length]; exact size127) ?_
 refine hK _ _ ?_
 clear hK hdd hrr
 go_wp2_with fail
 rw [HW3.out.run]
 have hk3 := HW3.out.back (k' := 0) (p' := 0)
 have hg3 := (GrowBut.refl (fun i => w.heap.size ≤ i) w4).setCells (b := w.heap.size + 1) (by show w.heap.size ≤ _; omega) 0 (wayL 0 0)
 obtain ⟨wz, hwz⟩ : ∃ x, w4.setCells (w.heap.size + 1) 0 (wayL 0 0) = x := ⟨_, rfl⟩
 rw [hwz] at hk3 hg3 ⊢
 have HW4 := Lib.hid hk3
 have HG4 := Lib.hid (grow_of_but HG3.out hg3 (fun _ e => e))
 clear hk3 hg3 hwz
 go_wp2_with fail
 have hlv := HW4.out.load
 refine bodyPost_ret (v := .tuple #[wayV 0 0, .bool false]) (by simp [results, Tryz.results56, hlv, asAddr, Sem.run_bind]) rfl ⟨rfl, HG4.out⟩
end
end Go.Proofs.YtgckhdepnmiejaaGreat
