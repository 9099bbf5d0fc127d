/- trie.Match, given what Covers answers (and what stands on it). -/
import Derived.Test.YtgckhdepnmiejaaGreatZ02
import Derived.Test.YtgckhdepnmiejaaGreatZ10
import Derived.Test.YtgckhdepnmiejaaGreatZ11
import Derived.Test.YtgckhdepnmiejaaGreatZ15
import Derived.Test.YtgckhdepnmiejaaGreatZ16
set_option linter.unusedVariables false
set_option linter.unusedSimpArgs false
namespace Go.Proofs.YtgckhdepnmiejaaGreat
section
set_option maxRecDepth 100000
open Go.RowKit Go.Shelf
attribute [local go_sem] Oper.semAt_some
/-- The three results, as they stand. -/
def MSt (A : Nat) (W : World) (x y k p : Int) (b : Bool) : Prop := W.heap[A]? = some (.cells #[.int .u32 x, .int .i64 y] 35 (0, 0)) ∧ W.heap[A + 1]? = some (.cells (wayL k p).toArray 127 (0, 0)) ∧ W.heap[A + 1 + 1]? = some (.cells #[.bool b] 4 (0, 0))
def MInv (A : Nat) (pa pl port : Int) (pre : List Unit) (W : World) : Prop := ∃ x y k p b, MSt A W x y k p b ∧ (pre ≠ [] → x = pa ∧ y = pl ∧ k = 3 ∧ p = port ∧ b = true)
theorem cells_kept {W W' : World} {row : Option Nat} {g : Nat} {cs : Array Value} {T : TypeId} (h : W.heap[g]? = some (.cells cs T (0, 0))) (hg : W.grownBy W' row) (hr : ∀ r, row = some r → ∃ o : Obj, W.heap[r]? = some o ∧ o.isCells = false) : W'.heap[g]? = some (.cells cs T (0, 0)) := by
 refine (hg.block g (lt_of_block h) (fun e => ?_)).trans h
 obtain ⟨o, ho, hc⟩ := hr g e.symm
 rw [h] at ho
 cases ho
 cases hc
theorem minv_own (A : Nat) (pa pl port : Int) : Own (MInv A pa pl port) := by
 rintro s X Y row ⟨x, y, k, p, b, ⟨h1, h2, h3⟩, h4⟩ hg hr
 exact ⟨x, y, k, p, b, ⟨cells_kept h1 hg hr, cells_kept h2 hg hr, cells_kept h3 hg hr⟩, h4⟩
/-- The round's variables, in blocks of their own. -/
def MAx (A T B : Nat) (a pa pl port : Int) (ac : Act) (W : World) : Prop := ∃ Q, A + 1 + 1 < Q ∧ W.heap[Q]? = some (.cells #[.int .u32 pa, .int .i64 pl] 35 (0, 0)) ∧ W.heap[Q + 1]? = some (.cells (wayL 3 port).toArray 127 (0, 0)) ∧
 ac = { tmps := #[.pointer (some ⟨T, 0, none⟩), .int .u32 a, undef, undef, .pointer (some ⟨A, 0, none⟩), .pointer (some ⟨A + 1, 0, none⟩), .pointer (some ⟨A + 1 + 1, 0, none⟩), .pointer (some ⟨Q, 0, none⟩), .pointer (some ⟨Q + 1, 0, none⟩), .pointer (some ⟨T, 0, none⟩), .int .u32 a, .func (.func 141) #[] #[.pointer (some ⟨B, 0, none⟩)], .agg #[.int .u32 pa, .int .i64 pl], .agg (wayL 3 port).toArray, undef, undef, undef, undef, undef], defers := [] }
theorem max_own {A T B : Nat} {a pa pl port : Int} {ac : Act} {W : World} {l : Nat} {o o' : Obj} (h : MAx A T B a pa pl port ac W) (hl : W.heap[l]? = some o) (ho : o.isCells = false) : MAx A T B a pa pl port ac (W.putObj l o') := by
 obtain ⟨Q, h1, h2, h3, h4⟩ := h
 have hr : ∀ r, some l = some r → ∃ o : Obj, W.heap[r]? = some o ∧ o.isCells = false := fun r e => by cases e; exact ⟨o, hl, ho⟩
 exact ⟨Q, h1, cells_kept h2 (grownBy_putObj' W l o') hr, cells_kept h3 (grownBy_putObj' W l o') hr, h4⟩
def Three (A : Nat) (k : Nat) : Prop := k = A ∨ k = A + 1 ∨ k = A + 1 + 1
theorem keeps_but {M : Nat → Prop} {B : Nat} {W W' : World} (h : GrowBut M W W') (hm : ∀ k, M k → k < B) : KeepsFrom B W W' :=
 ⟨h.size, fun k o hB hk _ => (h.block k (lt_of_block hk) (fun e => by have := hm k e; omega)).trans hk⟩
theorem block_setCells {b : Nat} {T : TypeId} : ∀ (vs : List Value) (o : Nat) (w : World) (cs : Array Value), w.heap[b]? = some (.cells cs T (0, 0)) → ∃ cs', (w.setCells b o vs).heap[b]? = some (.cells cs' T (0, 0)) ∧ cs'.size = cs.size
 | [], _, _, cs, h => ⟨cs, h, rfl⟩
 | v :: r, o, w, cs, h => by
  obtain ⟨cs', h1, h2⟩ := block_setCells r (o + 1) (w.setCell ⟨b, o, none⟩ v) (cs.setIfInBounds o v) (heap_setCell_same _ _ o _ _ _ h)
  exact ⟨cs', h1, by rw [h2]; simp⟩
theorem heap_setCells_all {w : World} {b : Nat} {T : TypeId} {cs : Array Value} {vs : List Value} (h : w.heap[b]? = some (.cells cs T (0, 0))) (hl : cs.size = vs.length) : (w.setCells b 0 vs).heap[b]? = some (.cells vs.toArray T (0, 0)) := by
 obtain ⟨cs', h1, h2⟩ := block_setCells vs 0 w cs h
 rw [h1]
 congr 2
 refine Array.ext (by simp [h2, hl]) fun j hj hj' => ?_
 have hin := World.cell?_setCells_in b vs 0 w (fun j hj => by simp [World.cell?, h, hl, hj]) j (by omega)
 have : (w.setCells b 0 vs).cell? ⟨b, 0 + j, none⟩ = some (cs'[j]) := by simp [World.cell?, h1, hj]
 rw [this] at hin
 simpa using hin
/-- Stored anew, a way stays what it was. -/
theorem setCells_below {w : World} {b : Nat} {T : TypeId} {vs : List Value} (h : w.heap[b]? = some (.cells vs.toArray T (0, 0))) : Below w.heap.size w (w.setCells b 0 vs) := by
 have hg := (GrowBut.refl (fun k => k = b) w).setCells (b := b) rfl 0 vs
 refine ⟨hg.os, hg.tape, hg.output, hg.size, fun k hk => ?_⟩
 by_cases e : k = b
 ·rw [e, heap_setCells_all h (by simp), h]
 ·exact hg.block k hk e
theorem setCell_below {w : World} {b i : Nat} {T : TypeId} {cs : Array Value} {v : Value} (h : w.heap[b]? = some (.cells cs T (0, 0))) (hv : cs[i]? = some v) : Below w.heap.size w (w.setCell ⟨b, i, none⟩ v) := by
 have hg := (GrowBut.refl (fun k => k = b) w).setCell (a := ⟨b, i, none⟩) rfl v
 refine ⟨hg.os, hg.tape, hg.output, hg.size, fun k hk => ?_⟩
 by_cases e : k = b
 ·rw [e, heap_setCell_same _ _ i _ _ _ h, h]
  congr 2
  refine Array.ext (by simp) fun j hj hj' => ?_
  rw [Array.getElem_setIfInBounds]
  split
  ·rename_i e2; subst e2; rw [Array.getElem?_eq_getElem hj'] at hv; injection hv with hv; exact hv.symm
  ·rfl
 ·exact hg.block k hk e
theorem mst_a {A : Nat} {W : World} {x y k p : Int} {b : Bool} (h : MSt A W x y k p b) (x' y' : Int) : MSt A ((W.setCell ⟨A, 0, none⟩ (.int .u32 x')).setCell ⟨A, 1, none⟩ (.int .i64 y')) x' y' k p b ∧ GrowBut (Three A) W ((W.setCell ⟨A, 0, none⟩ (.int .u32 x')).setCell ⟨A, 1, none⟩ (.int .i64 y')) := by
 refine ⟨⟨heap_setCell_same _ _ 1 _ _ _ (heap_setCell_same _ _ 0 _ _ _ h.1), ?_, ?_⟩, ((GrowBut.refl _ W).setCell (a := ⟨A, 0, none⟩) (Or.inl rfl) _).setCell (a := ⟨A, 1, none⟩) (Or.inl rfl) _⟩
 ·exact (Below.heap_setCell _ _ _ _ (by show _ ≠ _; simp)).trans ((Below.heap_setCell _ _ _ _ (by show _ ≠ _; simp)).trans h.2.1)
 ·exact (Below.heap_setCell _ _ _ _ (by show _ ≠ _; simp; omega)).trans ((Below.heap_setCell _ _ _ _ (by show _ ≠ _; simp; omega)).trans h.2.2)
theorem mst_t {A : Nat} {W : World} {x y k p : Int} {b : Bool} (h : MSt A W x y k p b) (b' : Bool) : MSt A (W.setCell ⟨A + 1 + 1, 0, none⟩ (.bool b')) x y k p b' ∧ GrowBut (Three A) W (W.setCell ⟨A + 1 + 1, 0, none⟩ (.bool b')) := by
 refine ⟨⟨?_, ?_, heap_setCell_same _ _ 0 _ _ _ h.2.2⟩, (GrowBut.refl _ W).setCell (a := ⟨A + 1 + 1, 0, none⟩) (Or.inr (Or.inr rfl)) _⟩
 ·exact (Below.heap_setCell _ _ _ _ (by show _ ≠ _; simp; omega)).trans h.1
 ·exact (Below.heap_setCell _ _ _ _ (by show _ ≠ _; simp)).trans h.2.1
theorem mst_v {A : Nat} {W : World} {x y k p : Int} {b : Bool} (h : MSt A W x y k p b) (k' p' : Int) : MSt A (W.setCells (A + 1) 0 (wayL k' p')) x y k' p' b ∧ GrowBut (Three A) W (W.setCells (A + 1) 0 (wayL k' p')) := by
 refine ⟨⟨?_, ?_, ?_⟩, (GrowBut.refl _ W).setCells (b := A + 1) (Or.inr (Or.inl rfl)) 0 _⟩
 ·exact (World.heap_setCells_other _ _ _ _ (lt_of_block h.1) (by omega)).trans h.1
 ·exact heap_setCells_all h.2.1 (by simp [wayL_length])
 ·exact (World.heap_setCells_other _ _ _ _ (lt_of_block h.2.2) (by omega)).trans h.2.2
set_option maxHeartbeats 4000000 in
theorem match_of {w : World} {T : Nat} {a pa pl port : Int} (hC : ∀ x, Grow w x → Calls Tryz.prog 134 #[.pointer (some ⟨T, 0, none⟩), .int .u32 a] x (OneSeq x pa pl 3 port)) :
  Calls Tryz.prog 124 #[.pointer (some ⟨T, 0, none⟩), .int .u32 a] w fun e w' => e = .returned (.tuple #[.agg #[.int .u32 pa, .int .i64 pl], wayV 3 port, .bool true]) ∧ Grow w w' := by
 have HC := Lib.hid hC
 clear hC
 refine (callsIn_wide (n := 4)).1 ?_
 refine callsIn_of_wp_marks Tryz.func124 rfl trivial ?_ rfl
 simp only [Tryz.ntmps124, List.size_toArray, List.length_cons, List.length_nil, Nat.reduceAdd, Nat.reduceSub, Array.replicate_succ, Array.replicate_zero, List.push_toArray, List.append_toArray, List.nil_append, List.cons_append]
 have hro : Fence.wide.round = none := rfl
 gi_wp2_with fail
 have hsA : (w.alloc (.cells #[.int .u32 0, .int .i64 0] 35)).heap.size = w.heap.size + 1 := World.size_alloc _ _
 have hsB : ((w.alloc (.cells #[.int .u32 0, .int .i64 0] 35)).alloc (.cells Tryz.zeroCells127 127)).heap.size = w.heap.size + 1 + 1 := by rw [World.size_alloc, hsA]
 have hT3 := heap_alloc_new ((w.alloc (.cells #[.int .u32 0, .int .i64 0] 35)).alloc (.cells Tryz.zeroCells127 127)) (.cells #[.bool false] 4)
 have hV3 : (((w.alloc (.cells #[.int .u32 0, .int .i64 0] 35)).alloc (.cells Tryz.zeroCells127 127)).alloc (.cells #[.bool false] 4)).heap[w.heap.size + 1]? = some (.cells Tryz.zeroCells127 127 (0, 0)) := (Below.heap_alloc _ _ _ (by rw [hsB]; exact Nat.lt_succ_self _)).trans (by rw [← hsA]; exact heap_alloc_new _ _)
 have hA3 : (((w.alloc (.cells #[.int .u32 0, .int .i64 0] 35)).alloc (.cells Tryz.zeroCells127 127)).alloc (.cells #[.bool false] 4)).heap[w.heap.size]? = some (.cells #[.int .u32 0, .int .i64 0] 35 (0, 0)) := (Below.heap_alloc _ _ _ (by rw [hsB]; omega)).trans ((Below.heap_alloc _ _ _ (by rw [hsA]; omega)).trans (heap_alloc_new w _))
 have hG3 : Grow w (((w.alloc (.cells #[.int .u32 0, .int .i64 0] 35)).alloc (.cells Tryz.zeroCells127 127)).alloc (.cells #[.bool false] 4)) := (((Grow.refl w).alloc _).alloc _).alloc _
 rw [hsB] at hT3
 obtain ⟨w0, hw0⟩ : ∃ x, (((w.alloc (.cells #[.int .u32 0, .int .i64 0] 35)).alloc (.cells Tryz.zeroCells127 127)).alloc (.cells #[.bool false] 4)) = x := ⟨_, rfl⟩
 rw [hw0] at hT3 hV3 hA3 hG3 ⊢
 rw [zero127] at hV3
 refine ⟨trivial, ((callsIn_wide (n := 3)).2 (HC.out w0 hG3)).mono ?_⟩
 rintro e w1 ⟨⟨B, eb, eo, ec, rfl, hB, hE⟩, hg⟩
 have HB := Lib.hid hB
 have HE := Lib.hid hE
 have HG1 := Lib.hid (hG3.trans hg)
 have HS1 : Hid (MSt w.heap.size w1 0 0 0 0 false) := ⟨(hg.block _ (lt_of_block hA3)).trans hA3, (hg.block _ (lt_of_block hV3)).trans hV3, (hg.block _ (lt_of_block hT3)).trans hT3⟩
 obtain ⟨A, hA⟩ : ∃ x, w.heap.size = x := ⟨_, rfl⟩
 have HA := Lib.hid hA
 rw [hA] at HS1 ⊢
 have HLt : Hid (A + 1 + 1 < w1.heap.size) := lt_of_block HS1.out.2.2
 clear hsA hsB hT3 hV3 hA3 hG3 hw0 hB hE hg HC hA
 gi_wp2_with fail
 refine wpIn_rangeFunc_RA hro (by omega) (gf := 141) (lb := #[.pointer (some ⟨B, 0, none⟩)]) rfl trivial (enters_of Tryz.func141 (by kernel_rfl) rfl) (over1_seq 3 (fun _ _ => True) (a := pa) (l := pl) (k := 3) (p := port) w1 w1 (Below.refl _ _) HB.out HE.out) (fun _ _ => trivial) (fun _ _ _ _ _ _ _ _ => trivial) (fun _ _ _ _ _ _ _ _ => trivial) (fun _ => rfl)
  (fun pre W => MInv A pa pl port pre W ∧ Grow w W)
  (OwnFrom.and (Own.from (minv_own _ _ _ _) _) (ownFrom_below (Nat.le_refl _) HG1.out.size))
  ⟨⟨0, 0, 0, 0, false, HS1.out, fun h => absurd rfl h⟩, HG1.out⟩
  (fun _ ac W => MAx A T B a pa pl port ac W) (fun _ _ _ _ _ _ h hl ho => max_own h hl ho) ?assign ?body ?done
 case assign =>
  rintro l pre x W K ⟨⟨x0, y0, k0, p0, b0, hS, hpre⟩, hGW⟩ _ hK
  have HS := Lib.hid hS
  have HGW := Lib.hid hGW
  have HPre := Lib.hid hpre
  have HK := Lib.hid hK
  clear hS hGW hpre hK
  unfold wayV
  obtain ⟨W1, hW1⟩ : ∃ x, W.alloc (.cells #[.int .u32 pa, .int .i64 pl] 35) = x := ⟨_, rfl⟩
  have hst := run_storeCells_new (P := Tryz.prog) W1 127 Tryz.zeroCells127 (wayL 3 port).toArray (by simpa [wayL_length] using size127) (by rw [zero127]; simp [wayL_length]) (all_oneCell_toArray (wayL_one 3 port))
  try simp only [List.toList_toArray] at hst
  have hs1 : W1.heap.size = W.heap.size + 1 := by rw [← hW1]; exact World.size_alloc _ _
  rw [hs1] at hst
  rw [← hW1] at hst
  have HSt := Lib.hid hst
  clear hst hs1 hW1
  gi_wp2
  rw [HSt.out]
  obtain ⟨W2, hW2⟩ : ∃ x, (W.alloc (.cells #[.int .u32 pa, .int .i64 pl] 35)).alloc (.cells (wayL 3 port).toArray 127) = x := ⟨_, rfl⟩
  have hs1 : (W.alloc (.cells #[.int .u32 pa, .int .i64 pl] 35)).heap.size = W.heap.size + 1 := World.size_alloc _ _
  have h2 := heap_alloc_new (W.alloc (.cells #[.int .u32 pa, .int .i64 pl] 35)) (.cells (wayL 3 port).toArray 127)
  have h1 : ((W.alloc (.cells #[.int .u32 pa, .int .i64 pl] 35)).alloc (.cells (wayL 3 port).toArray 127)).heap[W.heap.size]? = some (.cells #[.int .u32 pa, .int .i64 pl] 35 (0, 0)) := (Below.heap_alloc _ _ _ (by rw [hs1]; exact Nat.lt_succ_self _)).trans (heap_alloc_new W _)
  have hg : Grow W ((W.alloc (.cells #[.int .u32 pa, .int .i64 pl] 35)).alloc (.cells (wayL 3 port).toArray 127)) := ((Grow.refl W).alloc _).alloc _
  rw [hs1] at h2
  rw [hW2] at h1 h2 hg ⊢
  have H1 := Lib.hid h1
  have H2 := Lib.hid h2
  have HG := Lib.hid hg
  clear h1 h2 hg hs1 hW2 HSt
  gi_wp2
  refine HK.out _ _ (keeps_but (M := NoBlock) (GrowBut.of_below HG.out) (fun k e => e.elim)) trivial ⟨⟨x0, y0, k0, p0, b0, ⟨(HG.out.block _ (lt_of_block HS.out.1)).trans HS.out.1, (HG.out.block _ (lt_of_block HS.out.2.1)).trans HS.out.2.1, (HG.out.block _ (lt_of_block HS.out.2.2)).trans HS.out.2.2⟩, HPre.out⟩, HGW.out.trans HG.out⟩ trivial ⟨W.heap.size, lt_of_block HS.out.2.2, H1.out, H2.out, rfl⟩
 case body =>
  rintro l pre x ac W ⟨⟨x0, y0, k0, p0, b0, hS, hpre⟩, hGW⟩ _ ⟨Q, hQ, hQ1, hQ2, rfl⟩ hlt
  have HS := Lib.hid hS
  have HGW := Lib.hid hGW
  have HQ := Lib.hid hQ
  have HQ1 := Lib.hid hQ1
  have HQ2 := Lib.hid hQ2
  clear hS hGW hpre hQ hQ1 hQ2 hlt
  gi_wp2
  refine wpIn_region_grow (opened_round l _ _) 5 [2, 3, 4] (Three A) (fun x => MSt A x x0 y0 k0 p0 b0) (by kernel_rfl) (by kernel_rfl) (by kernel_rfl) (by rfl) (fun x x' hb h => ⟨(hb.block _ (lt_of_block h.1)).trans h.1, (hb.block _ (lt_of_block h.2.1)).trans h.2.1, (hb.block _ (lt_of_block h.2.2)).trans h.2.2⟩) HS.out ?_
  simp only [List.take_succ_cons, List.take_zero, List.drop_succ_cons, List.drop_zero]
  refine wpHd (.agg #[.int .u32 pa, .int .i64 pl]) (fun w' hg => ?_) ?_
  ·obtain ⟨q0, q1⟩ := blk2c ((hg.block _ (lt_of_block HQ1.out) (fun e => by have := HQ.out; rcases e with e | e | e <;> omega)).trans HQ1.out)
   clear hg
   go_simp
   exact Below.refl _ _
  try go_simp
  refine wpHd (.agg (wayL 3 port).toArray) (fun w' hg => ?_) ?_
  ·exact mild_load_way _ (by rfl) (by rfl) (WayIn.of_heap ((hg.block _ (lt_of_block HQ2.out) (fun e => by have := HQ.out; rcases e with e | e | e <;> omega)).trans HQ2.out))
  try go_simp
  refine wpH_cdet' undef (fun x => MSt A x pa pl k0 p0 b0) (by intro _ _ h; cases h) (by rfl) (fun x x' hb h => ⟨(hb.block _ (lt_of_block h.1)).trans h.1, (hb.block _ (lt_of_block h.2.1)).trans h.2.1, (hb.block _ (lt_of_block h.2.2)).trans h.2.2⟩) (by rfl) (by rfl) (fun w' hg hC => ?_) ?_
  ·have HX := Lib.hid (mst_a hC pa pl)
   obtain ⟨q0, q1⟩ := blk2c hC.1
   have z0 : ∀ i, w'.frozen? ⟨A, i, none⟩ = false := fun i => by simp [World.frozen?, hC.1]
   have z1 := z0 0
   have z2 := z0 1
   clear hg hC z0
   go_simp
   exact HX.out.symm
  try go_simp
  refine wpH_cdet' undef (fun x => MSt A x pa pl 3 port b0) (by intro _ _ h; cases h) (by rfl) (fun x x' hb h => ⟨(hb.block _ (lt_of_block h.1)).trans h.1, (hb.block _ (lt_of_block h.2.1)).trans h.2.1, (hb.block _ (lt_of_block h.2.2)).trans h.2.2⟩) (by rfl) (by rfl) (fun w' hg hC => ?_) ?_
  ·have HX := Lib.hid (mst_v hC 3 port)
   have hw := (WayIn.of_heap hC.2.1).run (k' := 3) (p' := port)
   clear hg hC
   go_simp
   try rw [hw]
   try go_simp
   exact HX.out.symm
  try go_simp
  refine wpH_cdet' undef (fun x => MSt A x pa pl 3 port true) (by intro _ _ h; cases h) (by rfl) (fun x x' hb h => ⟨(hb.block _ (lt_of_block h.1)).trans h.1, (hb.block _ (lt_of_block h.2.1)).trans h.2.1, (hb.block _ (lt_of_block h.2.2)).trans h.2.2⟩) (by rfl) (by rfl) (fun w' hg hC => ?_) ?_
  ·have HX := Lib.hid (mst_t hC true)
   have q0 := cell_of_one hC.2.2
   have z0 : w'.frozen? ⟨A + 1 + 1, 0, none⟩ = false := by simp [World.frozen?, hC.2.2]
   clear hg hC
   go_simp
   exact HX.out.symm
  try go_simp
  refine wpH_nil ?_
  intro xs W2 hg hC hx
  have HG := Lib.hid hg
  have HC := Lib.hid hC
  clear hg hC hx
  simp only [fill]
  try go_simp
  gi_wp2
  have hlt := lt_of_block HS.out.2.2
  refine ⟨keeps_but HG.out (fun k e => ?_), trivial, ⟨pa, pl, 3, port, true, HC.out, fun _ => ⟨rfl, rfl, rfl, rfl, rfl⟩⟩, grow_of_but HGW.out HG.out (fun k e => ?_)⟩
  ·have := HLt.out; rcases e with e | e | e <;> omega
  ·have := HA.out; rcases e with e | e | e <;> omega
 case done =>
  rintro D ys W hD hys ⟨⟨x0, y0, k0, p0, b0, hS, hpre⟩, hGW⟩ hK
  obtain ⟨rfl, rfl, rfl, rfl, rfl⟩ := hpre (by intro h; rw [h] at hys; simp at hys)
  have HS := Lib.hid hS
  have HGW := Lib.hid hGW
  have HK := Lib.hid hK
  have HD := Lib.hid hD
  clear hS hGW hpre hK hys hD
  gi_wp2
  refine wpIn_region_grow (opened_wide _ _) 6 [] NoBlock (fun _ => True) (by kernel_rfl) (by kernel_rfl) (by kernel_rfl) (by rfl) (fun _ _ _ _ => trivial) trivial ?_
  simp only [List.take_succ_cons, List.take_zero, List.drop_succ_cons, List.drop_zero]
  refine wpHd (.agg #[.int .u32 x0, .int .i64 y0]) (fun w' hg => ?_) ?_
  ·obtain ⟨q0, q1⟩ := blk2c ((hg.below.block _ (lt_of_block HS.out.1)).trans HS.out.1)
   clear hg
   go_simp
   exact Below.refl _ _
  try go_simp
  refine wpHd (.agg (wayL 3 p0).toArray) (fun w' hg => ?_) ?_
  ·exact mild_load_way _ (by rfl) (by rfl) (WayIn.of_heap ((hg.below.block _ (lt_of_block HS.out.2.1)).trans HS.out.2.1))
  try go_simp
  refine wpHd (.bool true) (fun w' hg => ?_) ?_
  ·have q0 := cell_of_one ((hg.below.block _ (lt_of_block HS.out.2.2)).trans HS.out.2.2)
   clear hg
   go_simp
   exact Below.refl _ _
  try go_simp
  refine wpHd undef (fun w' hg => ?_) ?_
  ·have hh := (hg.below.block _ (lt_of_block HS.out.1)).trans HS.out.1
   have hx1 := setCell_below (i := 0) (v := .int .u32 x0) hh rfl
   have hh2 := (hx1.block _ (lt_of_block hh)).trans hh
   have hx2 := setCell_below (i := 1) (v := .int .i64 y0) hh2 rfl
   have HX : Hid (Below w'.heap.size w' ((w'.setCell ⟨A, 0, none⟩ (.int .u32 x0)).setCell ⟨A, 1, none⟩ (.int .i64 y0))) := hx1.trans (hx2.mono hx1.size)
   obtain ⟨q0, q1⟩ := blk2c hh
   have z0 : ∀ i, w'.frozen? ⟨A, i, none⟩ = false := fun i => by simp [World.frozen?, hh]
   have z1 := z0 0
   have z2 := z0 1
   clear hg hh hx1 hh2 hx2 z0
   go_simp
   exact HX.out
  try go_simp
  refine wpHd undef (fun w' hg => ?_) ?_
  ·have hh := (hg.below.block _ (lt_of_block HS.out.2.1)).trans HS.out.2.1
   have HX := Lib.hid (setCells_below hh)
   have hw := (WayIn.of_heap hh).run (k' := 3) (p' := p0)
   clear hg hh
   go_simp
   try rw [hw]
   try go_simp
   exact HX.out
  try go_simp
  refine wpHd undef (fun w' hg => ?_) ?_
  ·have hh := (hg.below.block _ (lt_of_block HS.out.2.2)).trans HS.out.2.2
   have HX := Lib.hid (setCell_below (i := 0) (v := .bool true) hh rfl)
   have q0 := cell_of_one hh
   have z0 : w'.frozen? ⟨A + 1 + 1, 0, none⟩ = false := by simp [World.frozen?, hh]
   clear hg hh
   go_simp
   exact HX.out
  try go_simp
  refine wpH_nil ?_
  intro xs W2 hg hC hx
  have HS2 : Hid (MSt A W2 x0 y0 3 p0 true) := ⟨(hg.below.block _ (lt_of_block HS.out.1)).trans HS.out.1, (hg.below.block _ (lt_of_block HS.out.2.1)).trans HS.out.2.1, (hg.below.block _ (lt_of_block HS.out.2.2)).trans HS.out.2.2⟩
  have HG2 := Lib.hid (HGW.out.trans hg.below)
  have HK2 := Lib.hid ((hg.below.block _ (lt_of_block HK.out)).trans HK.out)
  clear hg hC hx
  simp only [fill]
  try go_simp
  gi_wp2
  have hr : ∀ r, some D = some r → ∃ o : Obj, W2.heap[r]? = some o ∧ o.isCells = false := fun r e => by cases e; exact ⟨_, HK2.out, rfl⟩
  have h1 := cells_kept HS2.out.1 (grownBy_putObj' W2 D (.deferred none)) hr
  have h2 := cells_kept HS2.out.2.1 (grownBy_putObj' W2 D (.deferred none)) hr
  have h3 := cells_kept HS2.out.2.2 (grownBy_putObj' W2 D (.deferred none)) hr
  have HGW3 : Hid (Grow w (W2.putObj D (.deferred none))) := Below.trans HG2.out (belowK_b (w := w1) HG1.out.size W2 D _ _ (by have := HD.out; omega) HK2.out rfl rfl)
  refine ⟨by simp, .inl ⟨_, _, rfl, run_takeDeferred HK2.out, ?_⟩⟩
  obtain ⟨q0, q1⟩ := blk2c h1
  have q2 := cell_of_one h3
  have hl4 : (loadVar 4 ⟨A + 1 + 1, 0, none⟩).run Tryz.prog (W2.putObj D (.deferred none)) = .ok (.bool true) (W2.putObj D (.deferred none)) := by simp [go_sem, q2]
  have hlv := (WayIn.of_heap h2).load
  have hl35 : (loadVar 35 ⟨A, 0, none⟩).run Tryz.prog (W2.putObj D (.deferred none)) = .ok (.agg #[.int .u32 x0, .int .i64 y0]) (W2.putObj D (.deferred none)) := by simp [go_sem, q0, q1]
  refine ⟨.tuple #[.agg #[.int .u32 x0, .int .i64 y0], wayV 3 p0, .bool true], by simp [results, Tryz.results124, hl35, hlv, hl4, asAddr, Sem.run_bind], rfl, HGW3.out⟩
end
end Go.Proofs.YtgckhdepnmiejaaGreat
namespace Go.Proofs.YtgckhdepnmiejaaGreat
section
set_option maxRecDepth 100000
open Go.RowKit
theorem picks_of {w : World} {F T : Nat} {a pa pl port : Int} (hF : w.heap[F]? = some (.cells #[.pointer (some ⟨T, 0, none⟩)] 129 (0, 0)))
  (hC : ∀ x, Grow w x → Calls Tryz.prog 134 #[.pointer (some ⟨T, 0, none⟩), .int .u32 a] x (OneSeq x pa pl 3 port)) :
  PicksTo w (.pointer (some ⟨F, 0, none⟩)) a 3 port := by
 intro x hx n h0 h1
 obtain ⟨m, rfl⟩ : ∃ m : Nat, n = (m : Int) := ⟨n.toNat, by omega⟩
 exact pick_of (by omega) fun y hy => lookup_of (((hx.trans hy).block _ (lt_of_block hF)).trans hF) fun z hz => match_of fun u hu => hC u (((hx.trans hy).trans hz).trans hu)
theorem picks_one {w : World} {F : Nat} {port : Int} (h : Fib1 w F 184549376 3 port) : PicksTo w (.pointer (some ⟨F, 0, none⟩)) 184549381 3 port := by
 obtain ⟨T, N, hF, hT, hN⟩ := h
 refine picks_of (pa := 184549376) (pl := 8) hF fun x hx => ?_
 have hT' : TrieAtW x T (.pointer (some ⟨N, 0, none⟩)) 1 1 := (hx.block _ (lt_of_block (show w.heap[T]? = _ from hT))).trans hT
 have hN' : NodeAt x N 184549376 8 3 port true (.pointer none) (.pointer none) := (hx.block _ (lt_of_block (show w.heap[N]? = _ from hN))).trans hN
 exact covers_one hT' hN'
end
end Go.Proofs.YtgckhdepnmiejaaGreat
namespace Go.Proofs.YtgckhdepnmiejaaGreat
section
set_option maxRecDepth 100000
open Go.RowKit
/-- The chapter's table. -/
def Fib3 (w : World) (F : Nat) : Prop := ∃ T N X1 Y1 X2 Y2, w.heap[F]? = some (.cells #[.pointer (some ⟨T, 0, none⟩)] 129 (0, 0)) ∧ TrieAtW w T (.pointer (some ⟨X2, 0, none⟩)) 3 3 ∧
 NodeAt w X2 134217728 5 0 0 false (.pointer (some ⟨X1, 0, none⟩)) (.pointer (some ⟨Y2, 0, none⟩)) ∧ NodeAt w X1 167772160 7 0 0 false (.pointer (some ⟨N, 0, none⟩)) (.pointer (some ⟨Y1, 0, none⟩)) ∧
 NodeAt w Y1 184549376 8 3 0 true (.pointer none) (.pointer none) ∧ NodeAt w Y2 201326592 8 3 1 true (.pointer none) (.pointer none)
theorem Fib3.mono {w w' : World} {F : Nat} (h : Fib3 w F) (hg : Grow w w') : Fib3 w' F := by
 obtain ⟨T, N, X1, Y1, X2, Y2, h0, h1, h2, h3, h4, h5⟩ := h
 exact ⟨T, N, X1, Y1, X2, Y2, (hg.block _ (lt_of_block h0)).trans h0, (hg.block _ (lt_of_block h1)).trans h1, (hg.block _ (lt_of_block h2)).trans h2, (hg.block _ (lt_of_block h3)).trans h3, (hg.block _ (lt_of_block h4)).trans h4, (hg.block _ (lt_of_block h5)).trans h5⟩
def Rts (w : World) (rb nb1 nb2 : Nat) : Prop := w.heap[rb]? = some (.cells #[.int .u32 167772160, .int .i64 8, .bool true, .bool true, .int .i64 0, .slice none 0 0, .int .u32 184549376, .int .i64 8, .bool false, .bool true, .int .i64 3, .slice (some ⟨nb1, 0, none⟩) 1 1, .int .u32 201326592, .int .i64 8, .bool false, .bool true, .int .i64 3, .slice (some ⟨nb2, 0, none⟩) 1 1] 40 (0, 0)) ∧ w.heap[nb1]? = some (.cells #[.int .i64 0, .int .i64 3] 37 (0, 0)) ∧ w.heap[nb2]? = some (.cells #[.int .i64 1, .int .i64 3] 37 (0, 0))
theorem Rts.mono {w w' : World} {rb nb1 nb2 : Nat} (h : Rts w rb nb1 nb2) (hg : Grow w w') : Rts w' rb nb1 nb2 :=
 ⟨(hg.block _ (lt_of_block h.1)).trans h.1, (hg.block _ (lt_of_block h.2.1)).trans h.2.1, (hg.block _ (lt_of_block h.2.2)).trans h.2.2⟩
theorem blk18 {w : World} {B : Nat} {T : TypeId} {x0 x1 x2 x3 x4 x5 x6 x7 x8 x9 x10 x11 x12 x13 x14 x15 x16 x17 : Value} (hh : w.heap[B]? = some (.cells #[x0, x1, x2, x3, x4, x5, x6, x7, x8, x9, x10, x11, x12, x13, x14, x15, x16, x17] T (0, 0))) :
  (w.cell? ⟨B, 0, none⟩ = some x0 ∧ w.cell? ⟨B, 1, none⟩ = some x1 ∧ w.cell? ⟨B, 2, none⟩ = some x2 ∧ w.cell? ⟨B, 3, none⟩ = some x3 ∧ w.cell? ⟨B, 4, none⟩ = some x4 ∧ w.cell? ⟨B, 5, none⟩ = some x5) ∧
  (w.cell? ⟨B, 6, none⟩ = some x6 ∧ w.cell? ⟨B, 7, none⟩ = some x7 ∧ w.cell? ⟨B, 8, none⟩ = some x8 ∧ w.cell? ⟨B, 9, none⟩ = some x9 ∧ w.cell? ⟨B, 10, none⟩ = some x10 ∧ w.cell? ⟨B, 11, none⟩ = some x11) ∧
  w.cell? ⟨B, 12, none⟩ = some x12 ∧ w.cell? ⟨B, 13, none⟩ = some x13 ∧ w.cell? ⟨B, 14, none⟩ = some x14 ∧ w.cell? ⟨B, 15, none⟩ = some x15 ∧ w.cell? ⟨B, 16, none⟩ = some x16 ∧ w.cell? ⟨B, 17, none⟩ = some x17 := by
 refine ⟨⟨?_, ?_, ?_, ?_, ?_, ?_⟩, ⟨?_, ?_, ?_, ?_, ?_, ?_⟩, ?_, ?_, ?_, ?_, ?_, ?_⟩ <;> simp [World.cell?, hh]
/-- How the trie stands after each route. -/
def Tr0 (w : World) (T : Nat) : Prop := TrieAtW w T (.pointer none) 3 0
def Tr1 (w : World) (T : Nat) : Prop := ∃ N, TrieAtW w T (.pointer (some ⟨N, 0, none⟩)) 3 1 ∧ NodeAt w N 167772160 8 1 0 true (.pointer none) (.pointer none)
def Tr2 (w : World) (T : Nat) : Prop := ∃ N X Y, TrieAtW w T (.pointer (some ⟨X, 0, none⟩)) 3 2 ∧ NodeAt w X 167772160 7 0 0 false (.pointer (some ⟨N, 0, none⟩)) (.pointer (some ⟨Y, 0, none⟩)) ∧ NodeAt w Y 184549376 8 3 0 true (.pointer none) (.pointer none)
def Tr3 (w : World) (T : Nat) : Prop := ∃ N X1 Y1 X2 Y2, TrieAtW w T (.pointer (some ⟨X2, 0, none⟩)) 3 3 ∧
 NodeAt w X2 134217728 5 0 0 false (.pointer (some ⟨X1, 0, none⟩)) (.pointer (some ⟨Y2, 0, none⟩)) ∧ NodeAt w X1 167772160 7 0 0 false (.pointer (some ⟨N, 0, none⟩)) (.pointer (some ⟨Y1, 0, none⟩)) ∧
 NodeAt w Y1 184549376 8 3 0 true (.pointer none) (.pointer none) ∧ NodeAt w Y2 201326592 8 3 1 true (.pointer none) (.pointer none)
theorem Tr0.mono {w w' : World} {T : Nat} (h : Tr0 w T) (hg : Grow w w') : Tr0 w' T := (hg.block _ (lt_of_block h)).trans h
theorem Tr1.mono {w w' : World} {T : Nat} (h : Tr1 w T) (hg : Grow w w') : Tr1 w' T := by
 obtain ⟨N, h1, h2⟩ := h
 exact ⟨N, (hg.block _ (lt_of_block h1)).trans h1, (hg.block _ (lt_of_block h2)).trans h2⟩
theorem Tr2.mono {w w' : World} {T : Nat} (h : Tr2 w T) (hg : Grow w w') : Tr2 w' T := by
 obtain ⟨N, X, Y, h1, h2, h3⟩ := h
 exact ⟨N, X, Y, (hg.block _ (lt_of_block h1)).trans h1, (hg.block _ (lt_of_block h2)).trans h2, (hg.block _ (lt_of_block h3)).trans h3⟩
theorem Tr3.mono {w w' : World} {T : Nat} (h : Tr3 w T) (hg : Grow w w') : Tr3 w' T := by
 obtain ⟨N, X1, Y1, X2, Y2, h1, h2, h3, h4, h5⟩ := h
 exact ⟨N, X1, Y1, X2, Y2, (hg.block _ (lt_of_block h1)).trans h1, (hg.block _ (lt_of_block h2)).trans h2, (hg.block _ (lt_of_block h3)).trans h3, (hg.block _ (lt_of_block h4)).trans h4, (hg.block _ (lt_of_block h5)).trans h5⟩
theorem Tr0.lt {w : World} {T : Nat} (h : Tr0 w T) : T < w.heap.size := lt_of_block h
theorem Tr1.lt {w : World} {T : Nat} (h : Tr1 w T) : T < w.heap.size := by obtain ⟨N, h1, _⟩ := h; exact lt_of_block h1
theorem Tr2.lt {w : World} {T : Nat} (h : Tr2 w T) : T < w.heap.size := by obtain ⟨N, X, Y, h1, _⟩ := h; exact lt_of_block h1
theorem Tr3.lt {w : World} {T : Nat} (h : Tr3 w T) : T < w.heap.size := by obtain ⟨N, X1, Y1, X2, Y2, h1, _⟩ := h; exact lt_of_block h1
def GetNo (w : World) (T : Nat) (a : Int) : Prop := Calls Tryz.prog 56 #[.pointer (some ⟨T, 0, none⟩), .agg #[.int .u32 a, .int .i64 8]] w fun e w' => e = .returned (.tuple #[wayV 0 0, .bool false]) ∧ Grow w w'
def InsTo (w : World) (T : Nat) (a k p : Int) (P : World → Nat → Prop) : Prop := Calls Tryz.prog 57 #[.pointer (some ⟨T, 0, none⟩), .agg #[.int .u32 a, .int .i64 8], wayV k p] w fun e w' => e = .returned (.int .i64 0) ∧ P w' T ∧ GrowBut (Only T) w w'
theorem tr0_get {w : World} {T : Nat} (h : Tr0 w T) : GetNo w T 167772160 := get0W h may_167772160
theorem tr1_get {w : World} {T : Nat} (h : Tr1 w T) : GetNo w T 184549376 := by obtain ⟨N, h1, h2⟩ := h; exact get1_a h1 h2
theorem tr2_get {w : World} {T : Nat} (h : Tr2 w T) : GetNo w T 201326592 := by obtain ⟨N, X, Y, h1, h2, _⟩ := h; exact get1_b h1 h2
theorem node_ne {w : World} {T N : Nat} {r : Value} {lim n a l k p : Int} {has : Bool} {m0 m1 : Value} (e1 : TrieAtW w T r lim n) (e2 : NodeAt w N a l k p has m0 m1) : N ≠ T := by
 unfold TrieAtW at e1; unfold NodeAt at e2
 intro e
 rw [e, e1] at e2
 injection e2 with e2
 injection e2 with _ e2 _
 revert e2; decide
theorem node_but {w w' : World} {T N : Nat} {a l k p : Int} {has : Bool} {m0 m1 : Value} (h : NodeAt w N a l k p has m0 m1) (hn : N ≠ T) (hg : GrowBut (Only T) w w') : NodeAt w' N a l k p has m0 m1 := (hg.block _ (lt_of_block h) (fun e => hn e)).trans h
theorem tr0_ins {w : World} {T : Nat} (h : Tr0 w T) : InsTo w T 167772160 1 0 Tr1 := by
 unfold InsTo
 refine (insert0W (k := 1) (p := 0) h (by decide) may_167772160).mono ?_
 rintro e w' ⟨he, ⟨N, h0, h1, h2⟩, hg⟩
 exact ⟨he, ⟨N, h2, h1⟩, hg⟩
theorem tr1_ins {w : World} {T : Nat} (h : Tr1 w T) : InsTo w T 184549376 3 0 Tr2 := by
 obtain ⟨N, h1, h2⟩ := h
 unfold InsTo
 refine (insert1_a (k := 3) (p := 0) h1 h2).mono ?_
 rintro e w' ⟨he, ⟨X, Y, _, _, h3, h4, h5⟩, hg⟩
 exact ⟨he, ⟨N, X, Y, h5, h3, h4⟩, hg⟩
theorem tr2_ins {w : World} {T : Nat} (h : Tr2 w T) : InsTo w T 201326592 3 1 Tr3 := by
 obtain ⟨N, X1, Y1, h1, h2, h6⟩ := h
 unfold InsTo
 refine (insert1_b (k := 3) (p := 1) h1 h2).mono ?_
 rintro e w' ⟨he, ⟨X, Y, _, _, h3, h4, h5⟩, hg⟩
 exact ⟨he, ⟨N, X1, Y1, X, Y, h5, h3, node_but h2 (node_ne h1 h2) hg, node_but h6 (node_ne h1 h6) hg, h4⟩, hg⟩
set_option maxHeartbeats 4000000 in
theorem make3 {w : World} {rb nb1 nb2 : Nat} (hR : Rts w rb nb1 nb2) :
  Calls Tryz.prog 37 #[.slice (some ⟨rb, 0, none⟩) 3 3] w fun e w' => ∃ F, e = .returned (.tuple #[.pointer (some ⟨F, 0, none⟩), .int .i64 0]) ∧ Fib3 w' F ∧ w.heap.size ≤ F ∧ Grow w w' := by
 have HR := Lib.hid hR
 clear hR
 go_enter Tryz.func37, Tryz.ntmps37
 go_wp2_with fail
 have hq := newW 3 w (by omega)
 rw [show ((3 : Nat) : Int) = 3 from rfl] at hq
 with_reducible refine hq.mono ?_
 clear hq
 rintro e w1 ⟨T, rfl, ht, hsz, hg⟩
 have HT1 := Lib.hid ht
 have HS1 : Hid (w.heap.size ≤ T) := hsz
 have HG1 := Lib.hid hg
 clear ht hsz hg
 go_wp2_with fail
 obtain ⟨w2, hw2⟩ : ∃ x, w1.alloc (.cells #[.pointer (some ⟨T, 0, none⟩)] 129) = x := ⟨_, rfl⟩
 have hF := heap_alloc_new w1 (.cells #[.pointer (some ⟨T, 0, none⟩)] 129)
 have hg : Grow w1 (w1.alloc (.cells #[.pointer (some ⟨T, 0, none⟩)] 129)) := (Grow.refl w1).alloc _
 rw [hw2] at hF hg ⊢
 have HF2 := Lib.hid hF
 have HT2 : Hid (Tr0 w2 T) := (hg.block _ (lt_of_block HT1.out)).trans HT1.out
 have HLT : Hid (T < w1.heap.size) := lt_of_block HT1.out
 have HG2 := Lib.hid (HG1.out.trans hg)
 have HSF : Hid (w.heap.size ≤ w1.heap.size) := HG1.out.size
 obtain ⟨F, hFe⟩ : ∃ x, w1.heap.size = x := ⟨_, rfl⟩
 rw [hFe] at HF2 HLT HSF ⊢
 clear hF hg hw2 HT1 HG1 hFe
 refine wp_loop_rounds 4 ?_
 rw [rounds_succ]
 obtain ⟨⟨r0, r1, r2, r3, r4, r5⟩, ⟨r6, r7, r8, r9, r10, r11⟩, r12, r13, r14, r15, r16, r17⟩ := blk18 (HR.out.mono HG2.out).1
 go_wp2_with fail
 clear r0 r1 r2 r3 r4 r5 r6 r7 r8 r9 r10 r11 r12 r13 r14 r15 r16 r17
 obtain ⟨w3, hw3⟩ : ∃ x, w2.alloc (.cells #[.int .u32 167772160, .int .i64 8, .bool true, .bool true, .int .i64 0, .slice none 0 0] 40) = x := ⟨_, rfl⟩
 have hR := heap_alloc_new w2 (.cells #[.int .u32 167772160, .int .i64 8, .bool true, .bool true, .int .i64 0, .slice none 0 0] 40)
 have hg : Grow w2 (w2.alloc (.cells #[.int .u32 167772160, .int .i64 8, .bool true, .bool true, .int .i64 0, .slice none 0 0] 40)) := (Grow.refl w2).alloc _
 rw [hw3] at hR hg ⊢
 obtain ⟨R, hRe⟩ : ∃ x, w2.heap.size = x := ⟨_, rfl⟩
 rw [hRe] at hR ⊢
 have HE : Hid (∀ x, Grow w x → Calls Tryz.prog 55 #[.agg #[.int .u32 167772160, .int .i64 8, .bool true, .bool true, .int .i64 0, .slice none 0 0]] x fun e w' => e = .returned (.tuple #[wayV 1 0, .int .i64 0]) ∧ Grow x w') := fun x hx => entry_own may_167772160
 with_reducible refine (HE.out _ (HG2.out.trans hg)).mono ?_
 rintro e w4 ⟨rfl, hg4⟩
 have HR4 := Lib.hid ((hg4.block _ (lt_of_block hR)).trans hR)
 have HF4 := Lib.hid (((hg.trans hg4).block _ (lt_of_block HF2.out)).trans HF2.out)
 have HT4 : Hid (Tr0 _ T) := HT2.out.mono (hg.trans hg4)
 have HG4 := Lib.hid (HG2.out.trans (hg.trans hg4))
 clear hR hg hw3 hg4 hRe HE HF2 HT2 HG2
 unfold wayV
 have hst := run_storeCells_new (P := Tryz.prog) w4 127 Tryz.zeroCells127 (wayL 1 0).toArray (by simpa [wayL_length] using size127) (by rw [zero127]; simp [wayL_length]) (all_oneCell_toArray (wayL_one 1 0))
 try simp only [List.toList_toArray] at hst
 have HSt := Lib.hid hst
 clear hst
 go_wp2_with fail
 rw [HSt.out]
 obtain ⟨w5, hw5⟩ : ∃ x, w4.alloc (.cells (wayL 1 0).toArray 127) = x := ⟨_, rfl⟩
 have hW := heap_alloc_new w4 (.cells (wayL 1 0).toArray 127)
 have hg : Grow w4 (w4.alloc (.cells (wayL 1 0).toArray 127)) := (Grow.refl w4).alloc _
 rw [hw5] at hW hg ⊢
 obtain ⟨V, hVe⟩ : ∃ x, w4.heap.size = x := ⟨_, rfl⟩
 rw [hVe] at hW ⊢
 have HW5 := Lib.hid hW
 have HR5 := Lib.hid ((hg.block _ (lt_of_block HR4.out)).trans HR4.out)
 have HF5 := Lib.hid ((hg.block _ (lt_of_block HF4.out)).trans HF4.out)
 have HT5 : Hid (Tr0 _ T) := HT4.out.mono hg
 have HG5 := Lib.hid (HG4.out.trans hg)
 clear hW hg hw5 hVe HSt HR4 HF4 HT4 HG4
 go_wp2_with fail
 have HGt : Hid (∀ x, Grow w5 x → Calls Tryz.prog 56 #[.pointer (some ⟨T, 0, none⟩), .agg #[.int .u32 167772160, .int .i64 8]] x fun e w' => e = .returned (.tuple #[wayV 0 0, .bool false]) ∧ Grow x w') := fun x hx => tr0_get (HT5.out.mono hx)
 have HG55 : Hid (∀ x, GrowBut (fun i => w5.heap.size ≤ i) w5 x → Grow w5 x) := fun x hx => grow_of_but (Grow.refl _) hx (fun _ e => e)
 refine K.wp_region_grow 12 [10, 11] (fun i => w5.heap.size ≤ i) (fun _ => True) (by kernel_rfl) (by kernel_rfl) (by rfl) (fun _ _ _ _ => trivial) trivial ?_
 simp only [List.take_succ_cons, List.take_zero, List.drop_succ_cons, List.drop_zero]
 repeat (refine K.wpH_pure (by intro _ _ h; cases h) (by rfl) (by rfl) (fun K hK => ?_); go_simp; refine hK _ ?_; clear hK K)
 refine K.wpH_sdet' (.pointer (some ⟨T, 0, none⟩)) (by intro _ _ h; cases h) (by rfl) (by rfl) (by rfl) (fun ys w' hg hC => ?_) ?_
 ·have hf := ((HG55.out _ hg).block _ (lt_of_block HF5.out)).trans HF5.out
  have y0 : w'.cell? ⟨F, 0, none⟩ = some (.pointer (some ⟨T, 0, none⟩)) := by simp [World.cell?, hf]
  clear hg hf hC
  go_simp
  exact Below.refl _ _
 try go_simp
 repeat (refine K.wpH_pure (by intro _ _ h; cases h) (by rfl) (by rfl) (fun K hK => ?_); go_simp; refine hK _ ?_; clear hK K)
 refine K.wpH_sdet' (.agg #[.int .u32 167772160, .int .i64 8]) (by intro _ _ h; cases h) (by rfl) (by rfl) (by rfl) (fun ys w' hg hC => ?_) ?_
 ·obtain ⟨y0, y1, _⟩ := blkRt (((HG55.out _ hg).block _ (lt_of_block HR5.out)).trans HR5.out)
  clear hg hC
  go_simp
  exact Below.refl _ _
 try go_simp
 refine K.wpH_sdet' (.tuple #[wayV 0 0, .bool false]) (by intro _ _ h; cases h) (by rfl) (by rfl) (by rfl) (fun ys w' hg hC => ?_) ?_
 ·have h := HGt.out w' (HG55.out _ hg)
  clear hg hC
  go_simp
  with_reducible refine h.mono ?_
  rintro e w1 ⟨rfl, hg⟩
  exact ⟨_, rfl, rfl, hg⟩
 unfold wayV
 try go_simp
 repeat (refine K.wpH_pure (by intro _ _ h; cases h) (by rfl) (by rfl) (fun K hK => ?_); go_simp; refine hK _ ?_; clear hK K)
 refine K.wpH_chid (d := 9) (fun u _ => ∃ b, u = .pointer (some ⟨b, 0, none⟩)) (fun ys x => ∃ b, ys 9 = .pointer (some ⟨b, 0, none⟩) ∧ w5.heap.size ≤ b ∧ x.heap[b]? = some (.cells Tryz.zeroCells127 127 (0, 0))) rfl (by rfl) (fun u x x' hg h => h)
  (fun ys x x' hb hx => by obtain ⟨b, h1, h2, h3⟩ := hx; exact ⟨b, h1, h2, (hb.block _ (lt_of_block h3)).trans h3⟩) (fun ys zs x he hx => by have := he 10 _ 9 (by decide) (by decide) rfl rfl; dsimp only at hx ⊢; rw [← this]; exact hx) (fun xs => by rfl) (fun ys w' hg hC hf => ?_) ?_
 ·have hn := heap_alloc_new w' (.cells Tryz.zeroCells127 127)
  have HS : Hid (∃ b, K.upd ys (some 9) (.pointer (some ⟨w'.heap.size, 0, none⟩)) 9 = .pointer (some ⟨b, 0, none⟩) ∧ w5.heap.size ≤ b ∧ (w'.alloc (.cells Tryz.zeroCells127 127)).heap[b]? = some (.cells Tryz.zeroCells127 127 (0, 0))) := ⟨_, by unfold K.upd; simp, hg.size, hn⟩
  clear hg hC hf hn
  try simp only [fill]
  go_simp
  first | exact ⟨⟨⟨_, rfl⟩, HS.out⟩, only_of' ((Grow.refl _).alloc _)⟩ | exact ⟨HS.out, only_of' ((Grow.refl _).alloc _)⟩
 try go_simp
 refine K.wpH_cdet undef (fun _ _ => True) (by rfl) (fun _ _ _ _ _ => trivial) (fun _ _ _ _ _ => trivial) (fun xs => by rfl) (fun ys w' hg hC hf => ?_) ?_
 ·obtain ⟨b, h1, h2, h3⟩ := hC
  have h30 := h3
  rw [zero127] at h30
  have hw := (WayIn.of_heap h30).run (k' := 0) (p' := 0)
  have HX : Hid (GrowBut (fun i => w5.heap.size ≤ i) w' (w'.setCells b 0 (wayL 0 0))) := (GrowBut.refl _ _).setCells h2 0 _
  clear hf hg h30 h3 h2
  simp only [fill]
  try dsimp only at h1
  generalize ys 9 = y9 at *
  subst h1
  go_simp
  try rw [hw]
  try go_simp
  exact HX.out
 refine K.wpH_nil ?_
 intro ys w6 hg hC hx
 have HG6 := Lib.hid (HG5.out.trans (HG55.out _ hg))
 have HF6 := Lib.hid (((HG55.out _ hg).block _ (lt_of_block HF5.out)).trans HF5.out)
 have HT6 : Hid (Tr0 _ T) := HT5.out.mono (HG55.out _ hg)
 have HR6 := Lib.hid (((HG55.out _ hg).block _ (lt_of_block HR5.out)).trans HR5.out)
 have HW6 := Lib.hid (((HG55.out _ hg).block _ (lt_of_block HW5.out)).trans HW5.out)
 clear hg hC hx HGt HG55 HF5 HT5 HR5 HW5 HG5
 simp only [fill]
 generalize ys 9 = y9 at *
 go_simp
 go_wp2_with fail
 refine wpRg 7 ?_
 simp only [List.take_succ_cons, List.take_zero, List.drop_succ_cons, List.drop_zero]
 repeat (refine wpHp fun K hK => ?_; go_simp; refine hK _ ?_; clear hK K)
 refine wpHd (.pointer (some ⟨T, 0, none⟩)) (fun w' hg => ?_) ?_
 ·have hf := (hg.below.block _ (lt_of_block HF6.out)).trans HF6.out
  have y0 : w'.cell? ⟨F, 0, none⟩ = some (.pointer (some ⟨T, 0, none⟩)) := by simp [World.cell?, hf]
  clear hg hf
  go_simp
  exact Below.refl _ _
 try go_simp
 repeat (refine wpHp fun K hK => ?_; go_simp; refine hK _ ?_; clear hK K)
 refine wpHd (.agg #[.int .u32 167772160, .int .i64 8]) (fun w' hg => ?_) ?_
 ·obtain ⟨y0, y1, _⟩ := blkRt ((hg.below.block _ (lt_of_block HR6.out)).trans HR6.out)
  clear hg
  go_simp
  exact Below.refl _ _
 try go_simp
 refine wpHd (.agg (wayL 1 0).toArray) (fun w' hg => ?_) ?_
 ·exact mild_load_way _ (by rfl) (by rfl) (WayIn.of_heap ((hg.below.block _ (lt_of_block HW6.out)).trans HW6.out))
 try go_simp
 refine wpH_nil ?_
 intro xs w7 hg hx1 hx2
 have HF7 := Lib.hid ((hg.below.block _ (lt_of_block HF6.out)).trans HF6.out)
 have HT7 : Hid (Tr0 _ T) := HT6.out.mono hg.below
 have HG7 := Lib.hid (HG6.out.trans hg.below)
 clear hg hx1 hx2 HF6 HT6 HR6 HW6 HG6
 simp only [fill]
 go_simp
 go_wp2_with fail
 have hq := tr0_ins HT7.out
 unfold InsTo wayV at hq
 with_reducible refine hq.mono ?_
 clear hq
 rintro e w8 ⟨rfl, ht, hg⟩
 have HF8 := Lib.hid ((hg.block _ (lt_of_block HF7.out) (fun e => by have e : F = T := e; have := HLT.out; omega)).trans HF7.out)
 have HG8 := Lib.hid (grow_of_but HG7.out hg (fun i e => by rw [show i = T from e]; exact HS1.out))
 have HT8 : Hid (Tr1 w8 T) := ht
 clear hg ht HF7 HT7 HG7
 generalize w8 = w2 at *
 have HF2 := HF8
 have HG2 := HG8
 have HT2 := HT8
 clear HF8 HG8 HT8
 go_wp2_with fail
 rw [rounds_succ]
 obtain ⟨⟨r0, r1, r2, r3, r4, r5⟩, ⟨r6, r7, r8, r9, r10, r11⟩, r12, r13, r14, r15, r16, r17⟩ := blk18 (HR.out.mono HG2.out).1
 go_wp2_with fail
 clear r0 r1 r2 r3 r4 r5 r6 r7 r8 r9 r10 r11 r12 r13 r14 r15 r16 r17
 obtain ⟨w3, hw3⟩ : ∃ x, w2.alloc (.cells #[.int .u32 184549376, .int .i64 8, .bool false, .bool true, .int .i64 3, .slice (some ⟨nb1, 0, none⟩) 1 1] 40) = x := ⟨_, rfl⟩
 have hR := heap_alloc_new w2 (.cells #[.int .u32 184549376, .int .i64 8, .bool false, .bool true, .int .i64 3, .slice (some ⟨nb1, 0, none⟩) 1 1] 40)
 have hg : Grow w2 (w2.alloc (.cells #[.int .u32 184549376, .int .i64 8, .bool false, .bool true, .int .i64 3, .slice (some ⟨nb1, 0, none⟩) 1 1] 40)) := (Grow.refl w2).alloc _
 rw [hw3] at hR hg ⊢
 obtain ⟨R, hRe⟩ : ∃ x, w2.heap.size = x := ⟨_, rfl⟩
 rw [hRe] at hR ⊢
 have HE : Hid (∀ x, Grow w x → Calls Tryz.prog 55 #[.agg #[.int .u32 184549376, .int .i64 8, .bool false, .bool true, .int .i64 3, .slice (some ⟨nb1, 0, none⟩) 1 1]] x fun e w' => e = .returned (.tuple #[wayV 3 0, .int .i64 0]) ∧ Grow x w') := fun x hx => entry_one (nb := nb1) (no := 0) (nc := 1) (port := 0) (dist := 3) (d := 3) may_184549376 (blk2c (HR.out.mono hx).2.1).1 (blk2c (HR.out.mono hx).2.1).2 (by omega) (Or.inr rfl) (by omega)
 with_reducible refine (HE.out _ (HG2.out.trans hg)).mono ?_
 rintro e w4 ⟨rfl, hg4⟩
 have HR4 := Lib.hid ((hg4.block _ (lt_of_block hR)).trans hR)
 have HF4 := Lib.hid (((hg.trans hg4).block _ (lt_of_block HF2.out)).trans HF2.out)
 have HT4 : Hid (Tr1 _ T) := HT2.out.mono (hg.trans hg4)
 have HG4 := Lib.hid (HG2.out.trans (hg.trans hg4))
 clear hR hg hw3 hg4 hRe HE HF2 HT2 HG2
 unfold wayV
 have hst := run_storeCells_new (P := Tryz.prog) w4 127 Tryz.zeroCells127 (wayL 3 0).toArray (by simpa [wayL_length] using size127) (by rw [zero127]; simp [wayL_length]) (all_oneCell_toArray (wayL_one 3 0))
 try simp only [List.toList_toArray] at hst
 have HSt := Lib.hid hst
 clear hst
 go_wp2_with fail
 rw [HSt.out]
 obtain ⟨w5, hw5⟩ : ∃ x, w4.alloc (.cells (wayL 3 0).toArray 127) = x := ⟨_, rfl⟩
 have hW := heap_alloc_new w4 (.cells (wayL 3 0).toArray 127)
 have hg : Grow w4 (w4.alloc (.cells (wayL 3 0).toArray 127)) := (Grow.refl w4).alloc _
 rw [hw5] at hW hg ⊢
 obtain ⟨V, hVe⟩ : ∃ x, w4.heap.size = x := ⟨_, rfl⟩
 rw [hVe] at hW ⊢
 have HW5 := Lib.hid hW
 have HR5 := Lib.hid ((hg.block _ (lt_of_block HR4.out)).trans HR4.out)
 have HF5 := Lib.hid ((hg.block _ (lt_of_block HF4.out)).trans HF4.out)
 have HT5 : Hid (Tr1 _ T) := HT4.out.mono hg
 have HG5 := Lib.hid (HG4.out.trans hg)
 clear hW hg hw5 hVe HSt HR4 HF4 HT4 HG4
 go_wp2_with fail
 have HGt : Hid (∀ x, Grow w5 x → Calls Tryz.prog 56 #[.pointer (some ⟨T, 0, none⟩), .agg #[.int .u32 184549376, .int .i64 8]] x fun e w' => e = .returned (.tuple #[wayV 0 0, .bool false]) ∧ Grow x w') := fun x hx => tr1_get (HT5.out.mono hx)
 have HG55 : Hid (∀ x, GrowBut (fun i => w5.heap.size ≤ i) w5 x → Grow w5 x) := fun x hx => grow_of_but (Grow.refl _) hx (fun _ e => e)
 refine K.wp_region_grow 12 [10, 11] (fun i => w5.heap.size ≤ i) (fun _ => True) (by kernel_rfl) (by kernel_rfl) (by rfl) (fun _ _ _ _ => trivial) trivial ?_
 simp only [List.take_succ_cons, List.take_zero, List.drop_succ_cons, List.drop_zero]
 repeat (refine K.wpH_pure (by intro _ _ h; cases h) (by rfl) (by rfl) (fun K hK => ?_); go_simp; refine hK _ ?_; clear hK K)
 refine K.wpH_sdet' (.pointer (some ⟨T, 0, none⟩)) (by intro _ _ h; cases h) (by rfl) (by rfl) (by rfl) (fun ys w' hg hC => ?_) ?_
 ·have hf := ((HG55.out _ hg).block _ (lt_of_block HF5.out)).trans HF5.out
  have y0 : w'.cell? ⟨F, 0, none⟩ = some (.pointer (some ⟨T, 0, none⟩)) := by simp [World.cell?, hf]
  clear hg hf hC
  go_simp
  exact Below.refl _ _
 try go_simp
 repeat (refine K.wpH_pure (by intro _ _ h; cases h) (by rfl) (by rfl) (fun K hK => ?_); go_simp; refine hK _ ?_; clear hK K)
 refine K.wpH_sdet' (.agg #[.int .u32 184549376, .int .i64 8]) (by intro _ _ h; cases h) (by rfl) (by rfl) (by rfl) (fun ys w' hg hC => ?_) ?_
 ·obtain ⟨y0, y1, _⟩ := blkRt (((HG55.out _ hg).block _ (lt_of_block HR5.out)).trans HR5.out)
  clear hg hC
  go_simp
  exact Below.refl _ _
 try go_simp
 refine K.wpH_sdet' (.tuple #[wayV 0 0, .bool false]) (by intro _ _ h; cases h) (by rfl) (by rfl) (by rfl) (fun ys w' hg hC => ?_) ?_
 ·have h := HGt.out w' (HG55.out _ hg)
  clear hg hC
  go_simp
  with_reducible refine h.mono ?_
  rintro e w1 ⟨rfl, hg⟩
  exact ⟨_, rfl, rfl, hg⟩
 unfold wayV
 try go_simp
 repeat (refine K.wpH_pure (by intro _ _ h; cases h) (by rfl) (by rfl) (fun K hK => ?_); go_simp; refine hK _ ?_; clear hK K)
 refine K.wpH_chid (d := 9) (fun u _ => ∃ b, u = .pointer (some ⟨b, 0, none⟩)) (fun ys x => ∃ b, ys 9 = .pointer (some ⟨b, 0, none⟩) ∧ w5.heap.size ≤ b ∧ x.heap[b]? = some (.cells Tryz.zeroCells127 127 (0, 0))) rfl (by rfl) (fun u x x' hg h => h)
  (fun ys x x' hb hx => by obtain ⟨b, h1, h2, h3⟩ := hx; exact ⟨b, h1, h2, (hb.block _ (lt_of_block h3)).trans h3⟩) (fun ys zs x he hx => by have := he 10 _ 9 (by decide) (by decide) rfl rfl; dsimp only at hx ⊢; rw [← this]; exact hx) (fun xs => by rfl) (fun ys w' hg hC hf => ?_) ?_
 ·have hn := heap_alloc_new w' (.cells Tryz.zeroCells127 127)
  have HS : Hid (∃ b, K.upd ys (some 9) (.pointer (some ⟨w'.heap.size, 0, none⟩)) 9 = .pointer (some ⟨b, 0, none⟩) ∧ w5.heap.size ≤ b ∧ (w'.alloc (.cells Tryz.zeroCells127 127)).heap[b]? = some (.cells Tryz.zeroCells127 127 (0, 0))) := ⟨_, by unfold K.upd; simp, hg.size, hn⟩
  clear hg hC hf hn
  try simp only [fill]
  go_simp
  first | exact ⟨⟨⟨_, rfl⟩, HS.out⟩, only_of' ((Grow.refl _).alloc _)⟩ | exact ⟨HS.out, only_of' ((Grow.refl _).alloc _)⟩
 try go_simp
 refine K.wpH_cdet undef (fun _ _ => True) (by rfl) (fun _ _ _ _ _ => trivial) (fun _ _ _ _ _ => trivial) (fun xs => by rfl) (fun ys w' hg hC hf => ?_) ?_
 ·obtain ⟨b, h1, h2, h3⟩ := hC
  have h30 := h3
  rw [zero127] at h30
  have hw := (WayIn.of_heap h30).run (k' := 0) (p' := 0)
  have HX : Hid (GrowBut (fun i => w5.heap.size ≤ i) w' (w'.setCells b 0 (wayL 0 0))) := (GrowBut.refl _ _).setCells h2 0 _
  clear hf hg h30 h3 h2
  simp only [fill]
  try dsimp only at h1
  generalize ys 9 = y9 at *
  subst h1
  go_simp
  try rw [hw]
  try go_simp
  exact HX.out
 refine K.wpH_nil ?_
 intro ys w6 hg hC hx
 have HG6 := Lib.hid (HG5.out.trans (HG55.out _ hg))
 have HF6 := Lib.hid (((HG55.out _ hg).block _ (lt_of_block HF5.out)).trans HF5.out)
 have HT6 : Hid (Tr1 _ T) := HT5.out.mono (HG55.out _ hg)
 have HR6 := Lib.hid (((HG55.out _ hg).block _ (lt_of_block HR5.out)).trans HR5.out)
 have HW6 := Lib.hid (((HG55.out _ hg).block _ (lt_of_block HW5.out)).trans HW5.out)
 clear hg hC hx HGt HG55 HF5 HT5 HR5 HW5 HG5
 simp only [fill]
 generalize ys 9 = y9 at *
 go_simp
 go_wp2_with fail
 refine wpRg 7 ?_
 simp only [List.take_succ_cons, List.take_zero, List.drop_succ_cons, List.drop_zero]
 repeat (refine wpHp fun K hK => ?_; go_simp; refine hK _ ?_; clear hK K)
 refine wpHd (.pointer (some ⟨T, 0, none⟩)) (fun w' hg => ?_) ?_
 ·have hf := (hg.below.block _ (lt_of_block HF6.out)).trans HF6.out
  have y0 : w'.cell? ⟨F, 0, none⟩ = some (.pointer (some ⟨T, 0, none⟩)) := by simp [World.cell?, hf]
  clear hg hf
  go_simp
  exact Below.refl _ _
 try go_simp
 repeat (refine wpHp fun K hK => ?_; go_simp; refine hK _ ?_; clear hK K)
 refine wpHd (.agg #[.int .u32 184549376, .int .i64 8]) (fun w' hg => ?_) ?_
 ·obtain ⟨y0, y1, _⟩ := blkRt ((hg.below.block _ (lt_of_block HR6.out)).trans HR6.out)
  clear hg
  go_simp
  exact Below.refl _ _
 try go_simp
 refine wpHd (.agg (wayL 3 0).toArray) (fun w' hg => ?_) ?_
 ·exact mild_load_way _ (by rfl) (by rfl) (WayIn.of_heap ((hg.below.block _ (lt_of_block HW6.out)).trans HW6.out))
 try go_simp
 refine wpH_nil ?_
 intro xs w7 hg hx1 hx2
 have HF7 := Lib.hid ((hg.below.block _ (lt_of_block HF6.out)).trans HF6.out)
 have HT7 : Hid (Tr1 _ T) := HT6.out.mono hg.below
 have HG7 := Lib.hid (HG6.out.trans hg.below)
 clear hg hx1 hx2 HF6 HT6 HR6 HW6 HG6
 simp only [fill]
 go_simp
 go_wp2_with fail
 have hq := tr1_ins HT7.out
 unfold InsTo wayV at hq
 with_reducible refine hq.mono ?_
 clear hq
 rintro e w8 ⟨rfl, ht, hg⟩
 have HF8 := Lib.hid ((hg.block _ (lt_of_block HF7.out) (fun e => by have e : F = T := e; have := HLT.out; omega)).trans HF7.out)
 have HG8 := Lib.hid (grow_of_but HG7.out hg (fun i e => by rw [show i = T from e]; exact HS1.out))
 have HT8 : Hid (Tr2 w8 T) := ht
 clear hg ht HF7 HT7 HG7
 generalize w8 = w2 at *
 have HF2 := HF8
 have HG2 := HG8
 have HT2 := HT8
 clear HF8 HG8 HT8
 go_wp2_with fail
 rw [rounds_succ]
 obtain ⟨⟨r0, r1, r2, r3, r4, r5⟩, ⟨r6, r7, r8, r9, r10, r11⟩, r12, r13, r14, r15, r16, r17⟩ := blk18 (HR.out.mono HG2.out).1
 go_wp2_with fail
 clear r0 r1 r2 r3 r4 r5 r6 r7 r8 r9 r10 r11 r12 r13 r14 r15 r16 r17
 obtain ⟨w3, hw3⟩ : ∃ x, w2.alloc (.cells #[.int .u32 201326592, .int .i64 8, .bool false, .bool true, .int .i64 3, .slice (some ⟨nb2, 0, none⟩) 1 1] 40) = x := ⟨_, rfl⟩
 have hR := heap_alloc_new w2 (.cells #[.int .u32 201326592, .int .i64 8, .bool false, .bool true, .int .i64 3, .slice (some ⟨nb2, 0, none⟩) 1 1] 40)
 have hg : Grow w2 (w2.alloc (.cells #[.int .u32 201326592, .int .i64 8, .bool false, .bool true, .int .i64 3, .slice (some ⟨nb2, 0, none⟩) 1 1] 40)) := (Grow.refl w2).alloc _
 rw [hw3] at hR hg ⊢
 obtain ⟨R, hRe⟩ : ∃ x, w2.heap.size = x := ⟨_, rfl⟩
 rw [hRe] at hR ⊢
 have HE : Hid (∀ x, Grow w x → Calls Tryz.prog 55 #[.agg #[.int .u32 201326592, .int .i64 8, .bool false, .bool true, .int .i64 3, .slice (some ⟨nb2, 0, none⟩) 1 1]] x fun e w' => e = .returned (.tuple #[wayV 3 1, .int .i64 0]) ∧ Grow x w') := fun x hx => entry_one (nb := nb2) (no := 0) (nc := 1) (port := 1) (dist := 3) (d := 3) may_201326592 (blk2c (HR.out.mono hx).2.2).1 (blk2c (HR.out.mono hx).2.2).2 (by omega) (Or.inr rfl) (by omega)
 with_reducible refine (HE.out _ (HG2.out.trans hg)).mono ?_
 rintro e w4 ⟨rfl, hg4⟩
 have HR4 := Lib.hid ((hg4.block _ (lt_of_block hR)).trans hR)
 have HF4 := Lib.hid (((hg.trans hg4).block _ (lt_of_block HF2.out)).trans HF2.out)
 have HT4 : Hid (Tr2 _ T) := HT2.out.mono (hg.trans hg4)
 have HG4 := Lib.hid (HG2.out.trans (hg.trans hg4))
 clear hR hg hw3 hg4 hRe HE HF2 HT2 HG2
 unfold wayV
 have hst := run_storeCells_new (P := Tryz.prog) w4 127 Tryz.zeroCells127 (wayL 3 1).toArray (by simpa [wayL_length] using size127) (by rw [zero127]; simp [wayL_length]) (all_oneCell_toArray (wayL_one 3 1))
 try simp only [List.toList_toArray] at hst
 have HSt := Lib.hid hst
 clear hst
 go_wp2_with fail
 rw [HSt.out]
 obtain ⟨w5, hw5⟩ : ∃ x, w4.alloc (.cells (wayL 3 1).toArray 127) = x := ⟨_, rfl⟩
 have hW := heap_alloc_new w4 (.cells (wayL 3 1).toArray 127)
 have hg : Grow w4 (w4.alloc (.cells (wayL 3 1).toArray 127)) := (Grow.refl w4).alloc _
 rw [hw5] at hW hg ⊢
 obtain ⟨V, hVe⟩ : ∃ x, w4.heap.size = x := ⟨_, rfl⟩
 rw [hVe] at hW ⊢
 have HW5 := Lib.hid hW
 have HR5 := Lib.hid ((hg.block _ (lt_of_block HR4.out)).trans HR4.out)
 have HF5 := Lib.hid ((hg.block _ (lt_of_block HF4.out)).trans HF4.out)
 have HT5 : Hid (Tr2 _ T) := HT4.out.mono hg
 have HG5 := Lib.hid (HG4.out.trans hg)
 clear hW hg hw5 hVe HSt HR4 HF4 HT4 HG4
 go_wp2_with fail
 have HGt : Hid (∀ x, Grow w5 x → Calls Tryz.prog 56 #[.pointer (some ⟨T, 0, none⟩), .agg #[.int .u32 201326592, .int .i64 8]] x fun e w' => e = .returned (.tuple #[wayV 0 0, .bool false]) ∧ Grow x w') := fun x hx => tr2_get (HT5.out.mono hx)
 have HG55 : Hid (∀ x, GrowBut (fun i => w5.heap.size ≤ i) w5 x → Grow w5 x) := fun x hx => grow_of_but (Grow.refl _) hx (fun _ e => e)
 refine K.wp_region_grow 12 [10, 11] (fun i => w5.heap.size ≤ i) (fun _ => True) (by kernel_rfl) (by kernel_rfl) (by rfl) (fun _ _ _ _ => trivial) trivial ?_
 simp only [List.take_succ_cons, List.take_zero, List.drop_succ_cons, List.drop_zero]
 repeat (refine K.wpH_pure (by intro _ _ h; cases h) (by rfl) (by rfl) (fun K hK => ?_); go_simp; refine hK _ ?_; clear hK K)
 refine K.wpH_sdet' (.pointer (some ⟨T, 0, none⟩)) (by intro _ _ h; cases h) (by rfl) (by rfl) (by rfl) (fun ys w' hg hC => ?_) ?_
 ·have hf := ((HG55.out _ hg).block _ (lt_of_block HF5.out)).trans HF5.out
  have y0 : w'.cell? ⟨F, 0, none⟩ = some (.pointer (some ⟨T, 0, none⟩)) := by simp [World.cell?, hf]
  clear hg hf hC
  go_simp
  exact Below.refl _ _
 try go_simp
 repeat (refine K.wpH_pure (by intro _ _ h; cases h) (by rfl) (by rfl) (fun K hK => ?_); go_simp; refine hK _ ?_; clear hK K)
 refine K.wpH_sdet' (.agg #[.int .u32 201326592, .int .i64 8]) (by intro _ _ h; cases h) (by rfl) (by rfl) (by rfl) (fun ys w' hg hC => ?_) ?_
 ·obtain ⟨y0, y1, _⟩ := blkRt (((HG55.out _ hg).block _ (lt_of_block HR5.out)).trans HR5.out)
  clear hg hC
  go_simp
  exact Below.refl _ _
 try go_simp
 refine K.wpH_sdet' (.tuple #[wayV 0 0, .bool false]) (by intro _ _ h; cases h) (by rfl) (by rfl) (by rfl) (fun ys w' hg hC => ?_) ?_
 ·have h := HGt.out w' (HG55.out _ hg)
  clear hg hC
  go_simp
  with_reducible refine h.mono ?_
  rintro e w1 ⟨rfl, hg⟩
  exact ⟨_, rfl, rfl, hg⟩
 unfold wayV
 try go_simp
 repeat (refine K.wpH_pure (by intro _ _ h; cases h) (by rfl) (by rfl) (fun K hK => ?_); go_simp; refine hK _ ?_; clear hK K)
 refine K.wpH_chid (d := 9) (fun u _ => ∃ b, u = .pointer (some ⟨b, 0, none⟩)) (fun ys x => ∃ b, ys 9 = .pointer (some ⟨b, 0, none⟩) ∧ w5.heap.size ≤ b ∧ x.heap[b]? = some (.cells Tryz.zeroCells127 127 (0, 0))) rfl (by rfl) (fun u x x' hg h => h)
  (fun ys x x' hb hx => by obtain ⟨b, h1, h2, h3⟩ := hx; exact ⟨b, h1, h2, (hb.block _ (lt_of_block h3)).trans h3⟩) (fun ys zs x he hx => by have := he 10 _ 9 (by decide) (by decide) rfl rfl; dsimp only at hx ⊢; rw [← this]; exact hx) (fun xs => by rfl) (fun ys w' hg hC hf => ?_) ?_
 ·have hn := heap_alloc_new w' (.cells Tryz.zeroCells127 127)
  have HS : Hid (∃ b, K.upd ys (some 9) (.pointer (some ⟨w'.heap.size, 0, none⟩)) 9 = .pointer (some ⟨b, 0, none⟩) ∧ w5.heap.size ≤ b ∧ (w'.alloc (.cells Tryz.zeroCells127 127)).heap[b]? = some (.cells Tryz.zeroCells127 127 (0, 0))) := ⟨_, by unfold K.upd; simp, hg.size, hn⟩
  clear hg hC hf hn
  try simp only [fill]
  go_simp
  first | exact ⟨⟨⟨_, rfl⟩, HS.out⟩, only_of' ((Grow.refl _).alloc _)⟩ | exact ⟨HS.out, only_of' ((Grow.refl _).alloc _)⟩
 try go_simp
 refine K.wpH_cdet undef (fun _ _ => True) (by rfl) (fun _ _ _ _ _ => trivial) (fun _ _ _ _ _ => trivial) (fun xs => by rfl) (fun ys w' hg hC hf => ?_) ?_
 ·obtain ⟨b, h1, h2, h3⟩ := hC
  have h30 := h3
  rw [zero127] at h30
  have hw := (WayIn.of_heap h30).run (k' := 0) (p' := 0)
  have HX : Hid (GrowBut (fun i => w5.heap.size ≤ i) w' (w'.setCells b 0 (wayL 0 0))) := (GrowBut.refl _ _).setCells h2 0 _
  clear hf hg h30 h3 h2
  simp only [fill]
  try dsimp only at h1
  generalize ys 9 = y9 at *
  subst h1
  go_simp
  try rw [hw]
  try go_simp
  exact HX.out
 refine K.wpH_nil ?_
 intro ys w6 hg hC hx
 have HG6 := Lib.hid (HG5.out.trans (HG55.out _ hg))
 have HF6 := Lib.hid (((HG55.out _ hg).block _ (lt_of_block HF5.out)).trans HF5.out)
 have HT6 : Hid (Tr2 _ T) := HT5.out.mono (HG55.out _ hg)
 have HR6 := Lib.hid (((HG55.out _ hg).block _ (lt_of_block HR5.out)).trans HR5.out)
 have HW6 := Lib.hid (((HG55.out _ hg).block _ (lt_of_block HW5.out)).trans HW5.out)
 clear hg hC hx HGt HG55 HF5 HT5 HR5 HW5 HG5
 simp only [fill]
 generalize ys 9 = y9 at *
 go_simp
 go_wp2_with fail
 refine wpRg 7 ?_
 simp only [List.take_succ_cons, List.take_zero, List.drop_succ_cons, List.drop_zero]
 repeat (refine wpHp fun K hK => ?_; go_simp; refine hK _ ?_; clear hK K)
 refine wpHd (.pointer (some ⟨T, 0, none⟩)) (fun w' hg => ?_) ?_
 ·have hf := (hg.below.block _ (lt_of_block HF6.out)).trans HF6.out
  have y0 : w'.cell? ⟨F, 0, none⟩ = some (.pointer (some ⟨T, 0, none⟩)) := by simp [World.cell?, hf]
  clear hg hf
  go_simp
  exact Below.refl _ _
 try go_simp
 repeat (refine wpHp fun K hK => ?_; go_simp; refine hK _ ?_; clear hK K)
 refine wpHd (.agg #[.int .u32 201326592, .int .i64 8]) (fun w' hg => ?_) ?_
 ·obtain ⟨y0, y1, _⟩ := blkRt ((hg.below.block _ (lt_of_block HR6.out)).trans HR6.out)
  clear hg
  go_simp
  exact Below.refl _ _
 try go_simp
 refine wpHd (.agg (wayL 3 1).toArray) (fun w' hg => ?_) ?_
 ·exact mild_load_way _ (by rfl) (by rfl) (WayIn.of_heap ((hg.below.block _ (lt_of_block HW6.out)).trans HW6.out))
 try go_simp
 refine wpH_nil ?_
 intro xs w7 hg hx1 hx2
 have HF7 := Lib.hid ((hg.below.block _ (lt_of_block HF6.out)).trans HF6.out)
 have HT7 : Hid (Tr2 _ T) := HT6.out.mono hg.below
 have HG7 := Lib.hid (HG6.out.trans hg.below)
 clear hg hx1 hx2 HF6 HT6 HR6 HW6 HG6
 simp only [fill]
 go_simp
 go_wp2_with fail
 have hq := tr2_ins HT7.out
 unfold InsTo wayV at hq
 with_reducible refine hq.mono ?_
 clear hq
 rintro e w8 ⟨rfl, ht, hg⟩
 have HF8 := Lib.hid ((hg.block _ (lt_of_block HF7.out) (fun e => by have e : F = T := e; have := HLT.out; omega)).trans HF7.out)
 have HG8 := Lib.hid (grow_of_but HG7.out hg (fun i e => by rw [show i = T from e]; exact HS1.out))
 have HT8 : Hid (Tr3 w8 T) := ht
 clear hg ht HF7 HT7 HG7
 generalize w8 = w2 at *
 have HF2 := HF8
 have HG2 := HG8
 have HT2 := HT8
 clear HF8 HG8 HT8
 go_wp2_with fail
 rw [rounds_succ]
 go_wp2_with fail
 refine bodyPost_ret (v := .tuple #[.pointer (some ⟨F, 0, none⟩), .int .i64 0]) (by simp [results, Tryz.results37, go_sem]) rfl ?_
 obtain ⟨N, X1, Y1, X2, Y2, h1, h2, h3, h4, h5⟩ := HT2.out
 exact ⟨F, rfl, ⟨T, N, X1, Y1, X2, Y2, HF2.out, h1, h2, h3, h4, h5⟩, HSF.out, HG2.out⟩
end
end Go.Proofs.YtgckhdepnmiejaaGreat
namespace Go.Proofs.YtgckhdepnmiejaaGreat
section
set_option maxRecDepth 100000
open Go.RowKit
set_option maxHeartbeats 2000000 in
theorem laid_of {w : World} {rs ms : Value} {own tok : Int} (ht : 0 ≤ tok ∧ tok ≤ 64) (hrs : ∃ a n c, rs = .slice a n c) (hms : ∃ a n c, ms = .slice a n c) (T : World → Nat → Prop) (hM : ∀ x, Grow w x → Calls Tryz.prog 37 #[rs] x fun e w' => ∃ F, e = .returned (.tuple #[.pointer (some ⟨F, 0, none⟩), .int .i64 0]) ∧ T w' F ∧ Grow x w')
  (hT : ∀ F x x', T x F → Grow x x' → T x' F) :
  Calls Tryz.prog 16 #[.agg #[rs, .int .u32 own, ms, .int .i64 tok]] w fun e w' => ∃ F B, e = .returned (.tuple #[.pointer (some ⟨F, 0, none⟩), .pointer (some ⟨B, 0, none⟩), .bool true]) ∧ T w' F ∧ BucketAt w' B 64 1 tok 0 ∧ w.heap.size ≤ B ∧ Grow w w' := by
 have HM := Lib.hid hM
 have HT := Lib.hid hT
 obtain ⟨ra, rn, rc, rfl⟩ := hrs
 obtain ⟨ma, mn, mc, rfl⟩ := hms
 have hg0 : Grow w (w.alloc (.cells #[.slice ra rn rc, .int .u32 own, .slice ma mn mc, .int .i64 tok] 43)) := (Grow.refl w).alloc _
 have hn0 := heap_alloc_new w (.cells #[.slice ra rn rc, .int .u32 own, .slice ma mn mc, .int .i64 tok] 43)
 clear hM hT
 go_enter Tryz.func16, Tryz.ntmps16
 go_wp2_with fail
 obtain ⟨w0, hw0⟩ : ∃ x, w.alloc (.cells #[.slice ra rn rc, .int .u32 own, .slice ma mn mc, .int .i64 tok] 43) = x := ⟨_, rfl⟩
 rw [hw0] at hg0 hn0 ⊢
 with_reducible refine (HM.out _ hg0).mono ?_
 rintro e w1 ⟨F, rfl, hTF, hg⟩
 have HTF := Lib.hid hTF
 have HG1 := Lib.hid (hg0.trans hg)
 have HN1 := Lib.hid ((hg.block _ (lt_of_block hn0)).trans hn0)
 clear hg hTF hw0 hg0 hn0 HM
 go_wp2_with fail
 with_reducible refine (bnew_any _).mono ?_
 rintro e w2 ⟨B, rfl, hB, hsz, hg⟩
 have HB2 := Lib.hid hB
 have HSz := Lib.hid hsz
 have HG2 := Lib.hid hg
 have HN2 := Lib.hid ((hg.block _ (lt_of_block HN1.out)).trans HN1.out)
 obtain ⟨c0, c1, c2, c3⟩ := blkB HN2.out
 clear hB hsz hg
 go_wp2_with fail
 clear c0 c1 c2 c3
 go_loopw [9] (fun i wr => ∃ k : Nat, (k : Int) ≤ 64 - tok ∧ i = .int .i64 (tok + k) ∧ BucketAt wr B 64 1 (64 - k) 0 ∧ Grow w1 wr) (fun i _ => (64 - intOf i).toNat)
 case atStart => exact ⟨0, by omega, by simp, by simpa using HB2.out, HG2.out⟩
 case round =>
  obtain ⟨k, hk, rfl, hb, hgw⟩ := hrel
  have HB := Lib.hid hb
  have HGw := Lib.hid hgw
  clear hb hgw
  by_cases hlt : tok + (k : Int) < 64
  ·go_wp2_with fail
   with_reducible refine (btake_any HB.out (by omega)).mono ?_
   rintro e w3 ⟨rfl, hb, hg⟩
   have HB3 := Lib.hid hb
   have HG3 := Lib.hid (only_new HGw.out HSz.out hg)
   clear hb hg
   go_wp2_with fail
   go_roundw
   case rel => exact ⟨k + 1, by omega, by congr 1; omega, (by rw [show (64 : Int) - ((k + 1 : Nat) : Int) = 64 - k - 1 by omega]; exact HB3.out), HG3.out⟩
   case measure => simp [intOf]; omega
  ·have hke : (k : Int) = 64 - tok := by omega
   have HB' : Hid (BucketAt wr B 64 1 tok 0) := by have h := HB.out; rw [hke] at h; rw [show 64 - (64 - tok) = tok by omega] at h; exact h
   clear hke
   go_wp2_with fail
   refine bodyPost_ret (v := .tuple #[.pointer (some ⟨F, 0, none⟩), .pointer (some ⟨B, 0, none⟩), .bool true]) (by simp [results, Tryz.results16, go_sem]) rfl ?_
   exact ⟨F, B, rfl, HT.out _ _ _ HTF.out HGw.out, HB'.out, Nat.le_trans HG1.out.size HSz.out, HG1.out.trans HGw.out⟩
end
end Go.Proofs.YtgckhdepnmiejaaGreat
namespace Go.Proofs.YtgckhdepnmiejaaGreat
section
set_option maxRecDepth 100000
open Go.RowKit
def SimpleR (w : World) (e : Ending) (w' : World) : Prop := ∃ rb nb1 nb2 mb, e = .returned (.agg #[.slice (some ⟨rb, 0, none⟩) 3 3, .int .u32 167772161, .slice (some ⟨mb, 0, none⟩) 2 2, .int .i64 5]) ∧ Rts w' rb nb1 nb2 ∧ w'.heap[mb]? = some (.cells #[.int .i64 1500, .int .i64 600] 3 (0, 0)) ∧ Grow w w'
theorem five_alloc (w : World) (c0 c1 c2 c3 c4 : Array Value) (t0 t1 t2 t3 t4 : TypeId) :
  ((((((w.alloc (.cells c0 t0)).alloc (.cells c1 t1)).alloc (.cells c2 t2)).alloc (.cells c3 t3)).alloc (.cells c4 t4)).heap[w.heap.size]? = some (.cells c0 t0 (0, 0)) ∧
  (((((w.alloc (.cells c0 t0)).alloc (.cells c1 t1)).alloc (.cells c2 t2)).alloc (.cells c3 t3)).alloc (.cells c4 t4)).heap[w.heap.size + 1]? = some (.cells c1 t1 (0, 0)) ∧
  (((((w.alloc (.cells c0 t0)).alloc (.cells c1 t1)).alloc (.cells c2 t2)).alloc (.cells c3 t3)).alloc (.cells c4 t4)).heap[w.heap.size + 1 + 1]? = some (.cells c2 t2 (0, 0)) ∧
  (((((w.alloc (.cells c0 t0)).alloc (.cells c1 t1)).alloc (.cells c2 t2)).alloc (.cells c3 t3)).alloc (.cells c4 t4)).heap[w.heap.size + 1 + 1 + 1]? = some (.cells c3 t3 (0, 0)) ∧
  (((((w.alloc (.cells c0 t0)).alloc (.cells c1 t1)).alloc (.cells c2 t2)).alloc (.cells c3 t3)).alloc (.cells c4 t4)).heap[w.heap.size + 1 + 1 + 1 + 1]? = some (.cells c4 t4 (0, 0))) ∧
  Grow w (((((w.alloc (.cells c0 t0)).alloc (.cells c1 t1)).alloc (.cells c2 t2)).alloc (.cells c3 t3)).alloc (.cells c4 t4)) := by
 have S : ∀ (x : World) (c : Array Value) (t : TypeId), (x.alloc (.cells c t)).heap.size = x.heap.size + 1 := fun x c t => World.size_alloc _ _
 have N : ∀ (x : World) (c : Array Value) (t : TypeId) (k : Nat), k = x.heap.size → (x.alloc (.cells c t)).heap[k]? = some (.cells c t (0, 0)) := fun x c t k hk => by rw [hk]; exact heap_alloc_new x _
 have O : ∀ (x : World) (c : Array Value) (t : TypeId) (k : Nat) (r : Option Obj), k < x.heap.size → x.heap[k]? = r → (x.alloc (.cells c t)).heap[k]? = r := fun x c t k r hk h => (Below.heap_alloc _ _ _ hk).trans h
 refine ⟨⟨?_, ?_, ?_, ?_, ?_⟩, (((((Grow.refl w).alloc _).alloc _).alloc _).alloc _).alloc _⟩
 ·refine O _ _ _ _ _ (by simp only [S]; omega) (O _ _ _ _ _ (by simp only [S]; omega) (O _ _ _ _ _ (by simp only [S]; omega) (O _ _ _ _ _ (by simp only [S]; omega) (N _ _ _ _ rfl))))
 ·refine O _ _ _ _ _ (by simp only [S]; omega) (O _ _ _ _ _ (by simp only [S]; omega) (O _ _ _ _ _ (by simp only [S]; omega) (N _ _ _ _ (by simp only [S]))))
 ·refine O _ _ _ _ _ (by simp only [S]; omega) (O _ _ _ _ _ (by simp only [S]; omega) (N _ _ _ _ (by simp only [S])))
 ·refine O _ _ _ _ _ (by simp only [S]; omega) (N _ _ _ _ (by simp only [S]))
 ·exact N _ _ _ _ (by simp only [S])
set_option maxHeartbeats 1000000 in
theorem simple_any (w : World) : Calls Tryz.prog 17 #[] w (SimpleR w) := by
 go_enter Tryz.func17, Tryz.ntmps17
 go_wp2_with fail
 have HF := Lib.hid (five_alloc w #[Value.slice (some { block := w.heap.size + 1 + 1 + 1, off := 0 }) 3 3, Value.int IntKind.u32 167772161, Value.slice (some { block := w.heap.size + 1 + 1 + 1 + 1, off := 0 }) 2 2, Value.int IntKind.i64 5] #[Value.int IntKind.i64 0, Value.int IntKind.i64 3] #[Value.int IntKind.i64 1, Value.int IntKind.i64 3]
  #[Value.int IntKind.u32 167772160, Value.int IntKind.i64 8, Value.bool true, Value.bool true, Value.int IntKind.i64 0, Value.slice none 0 0, Value.int IntKind.u32 184549376, Value.int IntKind.i64 8, Value.bool false, Value.bool true, Value.int IntKind.i64 3, Value.slice (some { block := w.heap.size + 1, off := 0 }) 1 1, Value.int IntKind.u32 201326592, Value.int IntKind.i64 8, Value.bool false, Value.bool true, Value.int IntKind.i64 3, Value.slice (some { block := w.heap.size + 1 + 1, off := 0 }) 1 1]
  #[Value.int IntKind.i64 1500, Value.int IntKind.i64 600] 43 37 37 40 3)
 generalize hW : (((((w.alloc _).alloc _).alloc _).alloc _).alloc _) = W at HF ⊢
 obtain ⟨s, hs⟩ : ∃ s, w.heap.size = s := ⟨_, rfl⟩
 rw [hs] at HF ⊢
 obtain ⟨c0, c1, c2, c3⟩ := blkB HF.out.1.1
 refine bodyPost_ret (v := .agg #[.slice (some ⟨s + 1 + 1 + 1, 0, none⟩) 3 3, .int .u32 167772161, .slice (some ⟨s + 1 + 1 + 1 + 1, 0, none⟩) 2 2, .int .i64 5]) (by simp [results, Tryz.results17, go_sem, c0, c1, c2, c3]) rfl ?_
 exact ⟨_, _, _, _, rfl, ⟨HF.out.1.2.2.2.1, HF.out.1.2.1, HF.out.1.2.2.1⟩, HF.out.1.2.2.2.2, HF.out.2⟩
theorem picks3_a {w : World} {F : Nat} (h : Fib3 w F) : PicksTo w (.pointer (some ⟨F, 0, none⟩)) 184549381 3 0 := by
 obtain ⟨T, N, X1, Y1, X2, Y2, h0, h1, h2, h3, h4, h5⟩ := h
 exact picks_of h0 (fun x hx => covers_a ((hx.block _ (lt_of_block h1)).trans h1) ((hx.block _ (lt_of_block h2)).trans h2) ((hx.block _ (lt_of_block h3)).trans h3) ((hx.block _ (lt_of_block h4)).trans h4))
theorem picks3_b {w : World} {F : Nat} (h : Fib3 w F) : PicksTo w (.pointer (some ⟨F, 0, none⟩)) 201326597 3 1 := by
 obtain ⟨T, N, X1, Y1, X2, Y2, h0, h1, h2, h3, h4, h5⟩ := h
 exact picks_of h0 (fun x hx => covers_b ((hx.block _ (lt_of_block h1)).trans h1) ((hx.block _ (lt_of_block h2)).trans h2) ((hx.block _ (lt_of_block h5)).trans h5))
/-- The chapter's table, and its bucket. -/
theorem laid3 {w : World} {rb nb1 nb2 mb : Nat} (h : Rts w rb nb1 nb2) :
  Calls Tryz.prog 16 #[.agg #[.slice (some ⟨rb, 0, none⟩) 3 3, .int .u32 167772161, .slice (some ⟨mb, 0, none⟩) 2 2, .int .i64 5]] w fun e w' => ∃ F B, e = .returned (.tuple #[.pointer (some ⟨F, 0, none⟩), .pointer (some ⟨B, 0, none⟩), .bool true]) ∧ Fib3 w' F ∧ BucketAt w' B 64 1 5 0 ∧ w.heap.size ≤ B ∧ Grow w w' :=
 laid_of (by omega) ⟨_, _, _, rfl⟩ ⟨_, _, _, rfl⟩ Fib3 (fun x hx => (make3 (h.mono hx)).mono (by rintro e w' ⟨F, h1, h2, _, h4⟩; exact ⟨F, h1, h2, h4⟩)) (fun F x x' h hg => h.mono hg)
end
end Go.Proofs.YtgckhdepnmiejaaGreat
