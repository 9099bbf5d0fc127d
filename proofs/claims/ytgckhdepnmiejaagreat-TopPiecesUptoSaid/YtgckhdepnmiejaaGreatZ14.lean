/- One way alone has all shares: split.Shares (and what stands on it). -/
import Derived.Laws.EntriesVeiled
import Derived.Deep.MidRow
import Derived.Deep.WholeRow
import Derived.Laws.Tables
import Derived.Test.YtgckhdepnmiejaaGreatZ07
import Derived.Test.YtgckhdepnmiejaaGreatZ13
set_option linter.unusedVariables false
set_option linter.unusedSimpArgs false
namespace Go.Proofs.YtgckhdepnmiejaaGreat
section
set_option maxRecDepth 100000
open Go.RowKit
set_option maxHeartbeats 1000000 in
theorem insort_one {v c : Value} (w : World) : Calls Tryz.prog 136 #[v, .int .i64 0, .int .i64 1, c] w fun e w' => (∃ u, e = .returned u) ∧ w' = w := by
 go_enter Tryz.func136, Tryz.ntmps136
 go_wp2_with fail
 refine wp_loop_rounds 1 ?_
 rw [rounds_succ]
 go_wp2_with fail
 go_end0
 exact ⟨⟨_, rfl⟩, rfl⟩
set_option maxHeartbeats 1000000 in
theorem stable_one {v c : Value} (w : World) : Calls Tryz.prog 132 #[v, .int .i64 1, c] w fun e w' => (∃ u, e = .returned u) ∧ w' = w := by
 go_enter Tryz.func132, Tryz.ntmps132
 go_wp2_with fail
 refine wp_loop_rounds 1 ?_
 rw [rounds_succ]
 go_wp2_with fail
 with_reducible refine (insort_one _).mono ?_
 rintro e w1 ⟨⟨u, rfl⟩, rfl⟩
 go_wp2_with fail
 refine wp_loop_rounds 1 ?_
 rw [rounds_succ]
 go_wp2_with fail
 go_end0
 exact ⟨⟨_, rfl⟩, rfl⟩
set_option maxHeartbeats 1000000 in
theorem sort_one {a : Option Addr} {c : Nat} {f : Value} (w : World) : Calls Tryz.prog 119 #[.slice a 1 c, f] w fun e w' => (∃ u, e = .returned u) ∧ w' = w := by
 go_enter Tryz.func119, Tryz.ntmps119
 go_wp2_with fail
 with_reducible refine (stable_one _).mono ?_
 rintro e w1 ⟨⟨u, rfl⟩, rfl⟩
 go_wp2_with fail
 go_end0
 exact ⟨⟨_, rfl⟩, rfl⟩
def HI (zs : List Int) (u : Value) (x : World) : Prop := IntsV .i64 x u zs
def OI (base : Nat) (zs : List Int) (u : Value) (x : World) : Prop := x.ownsRow base 3 1 u zs.length (zs.map (Value.int .i64))
theorem infoInt : (Tryz.prog.info? 3).map (fun i => (i.zero, i.size, i.bytes)) = some (some (.int .i64 0), 1, 8) := by kernel_rfl
set_option maxHeartbeats 8000000 in
theorem shares_one {w : World} {nb no nc : Nat} {port dist : Int} (hc0 : w.cell? ⟨nb, no, none⟩ = some (.int .i64 port)) (hc1 : w.cell? ⟨nb, no + 1, none⟩ = some (.int .i64 dist)) (hp : 0 ≤ port ∧ port < 8) (hd : dist = 1 ∨ dist = 3) (hnc : 1 ≤ nc) :
  Calls Tryz.prog 102 #[.slice (some ⟨nb, no, none⟩) 1 nc] w fun e w' => (∃ u, e = .returned (.tuple #[u, .int .i64 0]) ∧ IntsV .i64 w' u [256]) ∧ Grow w w' := by
 obtain ⟨i0, hi, hz0, hz1, hz2⟩ := info_parts infoInt
 have HW : Hid (∀ x, Calls Tryz.prog 117 #[.agg #[.int .i64 port, .int .i64 dist]] x fun e w' => e = .returned (.int .i64 (65536 / (dist + 1))) ∧ Grow x w') := fun x => weight_one x hd
 have HMay : Hid (∀ x, Grow w x → Calls Tryz.prog 101 #[.slice (some ⟨nb, no, none⟩) 1 nc] x fun e w' => e = .returned (.bool true) ∧ Grow x w') := fun x hx => splitmay_one ((hx.cell (block_lt hc0)).trans hc0) ((hx.cell (block_lt hc1)).trans hc1) hp hd hnc
 obtain ⟨wt, hwt⟩ : ∃ x, 65536 / (dist + 1) = x := ⟨_, rfl⟩
 have hw1 : wt = 32768 ∨ wt = 16384 := by rcases hd with rfl | rfl <;> (subst hwt; decide)
 rw [hwt] at HW
 have HC0 := Lib.hid hc0
 have HC1 := Lib.hid hc1
 have hw2 : IntKind.i64.wrap wt = wt := IntWalk.i64_in _ (by omega)
 have hw3 : IntKind.i64.wrap (256 * wt) = 256 * wt := IntWalk.i64_in _ (by omega)
 have hw4 : (256 * wt).tdiv wt = 256 := by rcases hw1 with rfl | rfl <;> decide
 have hw5 : (wt == 0) = false := by rcases hw1 with rfl | rfl <;> decide
 have hw6 : ¬ wt = 0 := by rcases hw1 with rfl | rfl <;> decide
 have hw7 : (256 * wt) / wt = 256 := by rcases hw1 with rfl | rfl <;> decide
 have hmf : ∀ (fn : Fn) (first cap : Array Value) (w : World), (Instr.makeFunc fn first cap).run Tryz.prog w = .ok (.func fn first cap) w := fun _ _ _ _ => rfl
 have HG0 : Hid (Grow w (w.alloc (.cells #[.slice (some ⟨nb, no, none⟩) 1 nc] 38))) := (Grow.refl w).alloc _
 have HN0 := Lib.hid (heap_alloc_new w (.cells #[.slice (some ⟨nb, no, none⟩) 1 nc] 38))
 clear hc0 hc1 hp hd hwt hw1
 go_enter Tryz.func102, Tryz.ntmps102
 go_wp2_with fail
 with_reducible refine (HMay.out _ HG0.out).mono ?_
 rintro e w1 ⟨rfl, hg⟩
 have HG1 := Lib.hid (HG0.out.trans hg)
 have HN1 := Lib.hid ((hg.block _ (lt_of_block HN0.out)).trans HN0.out)
 have HA := Lib.hid (heap_alloc_new w1 (.cells #[.int .i64 0] 3))
 have HGA : Hid (Grow w1 (w1.alloc (.cells #[.int .i64 0] 3))) := (Grow.refl w1).alloc _
 have c1 := cell_of_one ((HGA.out.block _ (lt_of_block HN1.out)).trans HN1.out)
 have hsz : (w1.alloc (.cells #[.int .i64 0] 3)).heap.size = w1.heap.size + 1 := World.size_alloc _ _
 clear hg HMay HG0 HN0
 go_wp2_with fail
 clear c1
 generalize hw2' : w1.alloc (.cells #[.int .i64 0] 3) = w2 at *
 refine wp_loop_rounds 2 ?_
 rw [rounds_succ]
 have x0 := ((HG1.out.trans HGA.out).cell (block_lt HC0.out)).trans HC0.out
 have x1 := ((HG1.out.trans HGA.out).cell (block_lt HC1.out)).trans HC1.out
 go_wp2_with fail
 obtain ⟨A, hAA⟩ : ∃ x, w1.heap.size = x := ⟨_, rfl⟩
 rw [hAA] at HA hsz ⊢
 have HA2 : Hid (w2.heap[A]? = some (.cells #[.int .i64 0] 3 (0, 0))) := HA.out
 have HAne : Hid (w.heap.size ≠ A) := by have := lt_of_block HN1.out; show _ ≠ _; omega
 have HN2 := Lib.hid ((HGA.out.block _ (lt_of_block HN1.out)).trans HN1.out)
 have HG2 := Lib.hid (HG1.out.trans HGA.out)
 have HAge : Hid (w.heap.size ≤ A) := by have := HG1.out.size; show _ ≤ _; omega
 have hE := heap_alloc_new w2 (.cells #[.int .i64 port, .int .i64 dist] 37)
 rw [hsz] at hE
 have HE := Lib.hid hE
 clear hE
 have HG3 : Hid (Grow w2 (w2.alloc (.cells #[.int .i64 port, .int .i64 dist] 37))) := (Grow.refl w2).alloc _
 have HA3 := Lib.hid ((HG3.out.block _ (lt_of_block HA2.out)).trans HA2.out)
 generalize hw3' : w2.alloc (.cells #[.int .i64 port, .int .i64 dist] 37) = w3 at *
 clear hw3' hw2' HA hAA hsz x0 x1 HN1 HG1 HGA
 refine wpRg 4 ?_
 simp only [List.take_succ_cons, List.take_zero, List.drop_succ_cons, List.drop_zero]
 repeat (refine wpHp fun K hK => ?_; go_simp; refine hK _ ?_; clear hK K)
 refine wpHd (.int .i64 0) (fun w' hg => ?_) ?_
 ·have hx := cell_of_one ((hg.below.block _ (lt_of_block HA3.out)).trans HA3.out)
  clear hg
  go_simp
  exact Below.refl _ _
 try go_simp
 repeat (refine wpHp fun K hK => ?_; go_simp; refine hK _ ?_; clear hK K)
 refine wpHd (.agg #[.int .i64 port, .int .i64 dist]) (fun w' hg => ?_) ?_
 ·obtain ⟨y0, y1⟩ := blk2c ((hg.below.block _ (lt_of_block HE.out)).trans HE.out)
  clear hg
  go_simp
  exact Below.refl _ _
 try go_simp
 repeat (refine wpHp fun K hK => ?_; go_simp; refine hK _ ?_; clear hK K)
 refine wpHd (.int .i64 wt) (fun w' hg => ?_) ?_
 ·have h := HW.out w'
  clear hg
  go_simp
  with_reducible refine h.mono ?_
  rintro e w1 ⟨rfl, hg⟩
  exact ⟨_, rfl, rfl, hg⟩
 try go_simp
 repeat (refine wpHp fun K hK => ?_; go_simp; refine hK _ ?_; clear hK K)
 refine wpH_nil ?_
 intro xs w4 hg hx1 hx2
 have hA4 := (hg.below.block _ (lt_of_block HA3.out)).trans HA3.out
 have HA4 := Lib.hid hA4
 have HG4 := Lib.hid (HG3.out.trans hg.below)
 have ca := cell_of_one hA4
 have cz : w4.frozen? ⟨A, 0, none⟩ = false := by simp [World.frozen?, hA4]
 clear hg hx1 hx2 hA4 HE
 simp only [fill]
 go_simp
 go_wp2_with fail
 generalize hw5' : w4.setCell ⟨A, 0, none⟩ (.int .i64 wt) = w5 at *
 have HA5 : Hid (w5.heap[A]? = some (.cells #[.int .i64 wt] 3 (0, 0))) := by rw [← hw5']; exact heap_setCell_same _ _ 0 _ _ _ HA4.out
 have HG5 : Hid (GrowBut (Only A) w2 w5) := by rw [← hw5']; exact (only_of HG4.out).trans (only_set _)
 have HGw5 := Lib.hid (only_new HG2.out HAge.out HG5.out)
 have c5 := cell_of_one ((HG5.out.block _ (lt_of_block HN2.out) (fun e => HAne.out (show w.heap.size = A from e))).trans HN2.out)
 have x0 := (HGw5.out.cell (block_lt HC0.out)).trans HC0.out
 have x1 := (HGw5.out.cell (block_lt HC1.out)).trans HC1.out
 clear hw5' ca cz HG3 HA3 HA4 HG4 HA2
 rw [rounds_succ]
 go_wp2_with fail
 refine wp_loop_rounds 2 ?_
 rw [rounds_succ]
 go_wp2_with fail
 have HE6 := Lib.hid (heap_alloc_new w5 (.cells #[.int .i64 port, .int .i64 dist] 37))
 have HG6 : Hid (Grow w5 (w5.alloc (.cells #[.int .i64 port, .int .i64 dist] 37))) := (Grow.refl w5).alloc _
 have HA6 := Lib.hid ((HG6.out.block _ (lt_of_block HA5.out)).trans HA5.out)
 have HGw6 := Lib.hid (HGw5.out.trans HG6.out)
 generalize hw6' : w5.alloc (.cells #[.int .i64 port, .int .i64 dist] 37) = w6 at *
 clear hw6' x0 x1 HA5
 refine wpRg 12 ?_
 simp only [List.take_succ_cons, List.take_zero, List.drop_succ_cons, List.drop_zero]
 repeat (refine wpHp fun K hK => ?_; go_simp; refine hK _ ?_; clear hK K)
 refine wpHd (.agg #[.int .i64 port, .int .i64 dist]) (fun w' hg => ?_) ?_
 ·obtain ⟨y0, y1⟩ := blk2c ((hg.below.block _ (lt_of_block HE6.out)).trans HE6.out)
  clear hg
  go_simp
  exact Below.refl _ _
 try go_simp
 repeat (refine wpHp fun K hK => ?_; go_simp; refine hK _ ?_; clear hK K)
 refine wpHd (.int .i64 wt) (fun w' hg => ?_) ?_
 ·have h := HW.out w'
  clear hg
  go_simp
  with_reducible refine h.mono ?_
  rintro e w1 ⟨rfl, hg⟩
  exact ⟨_, rfl, rfl, hg⟩
 try go_simp
 repeat (refine wpHp fun K hK => ?_; go_simp; refine hK _ ?_; clear hK K)
 refine wpHd (.int .i64 wt) (fun w' hg => ?_) ?_
 ·have hx := cell_of_one ((hg.below.block _ (lt_of_block HA6.out)).trans HA6.out)
  clear hg
  go_simp
  exact Below.refl _ _
 try go_simp
 repeat (refine wpHp fun K hK => ?_; go_simp; refine hK _ ?_; clear hK K)
 refine wpH_hid' (HI [256]) (by intro _ _ h; cases h) rfl (by rfl) (fun u x x' hg h => IntsV.mono h hg.below) (by rfl) (by rfl) (fun w' hg => ?_) ?_
 ·have hh : IntsV .i64 (w'.alloc (.cells #[.int .i64 256] 3)) (.slice (some ⟨w'.heap.size, 0, none⟩) 1 1) [256] := by
   refine Or.inr ⟨w'.heap.size, 0, 1, rfl, Nat.le_refl _, by unfold maxLen; omega, fun i hi => ?_⟩
   have h0 : i = 0 := by simp at hi; exact hi
   subst h0
   exact cell_new w' [.int .i64 256] 3 0 _ rfl
  have HH := Lib.hid hh
  clear hg hh
  go_simp
  exact ⟨HH.out, (Below.refl _ _).alloc (Nat.le_refl _) _⟩
 try go_simp
 refine wpH_hid (OI w.heap.size [256]) rfl (by rfl) (fun u x x' hg h => own_grow h hg.below) (fun xs => by rfl) (fun xs w' hg hf => ?_) ?_
 ·have h1 := hf _ (List.Mem.head _) (by rfl)
  try dsimp only at h1
  have hsz' : w.heap.size ≤ w'.heap.size := Nat.le_trans HGw6.out.size hg.size
  refine mild_append_nil _ _ _ (by rfl) w.heap.size 3 i0 8 Tryz.underlying28 hi hz0 hz1 hz2 (by rfl) (xs 42) [256] (by rfl) h1 (by simp [maxLen]) (by simp) hsz' (fun v' w1 ho hb => ⟨ho, hb⟩)
 try go_simp
 repeat (refine wpHp fun K hK => ?_; go_simp; refine hK _ ?_; clear hK K)
 refine wpH_hid' (HI [0]) (by intro _ _ h; cases h) rfl (by rfl) (fun u x x' hg h => IntsV.mono h hg.below) (by rfl) (by rfl) (fun w' hg => ?_) ?_
 ·have hh : IntsV .i64 (w'.alloc (.cells #[.int .i64 0] 3)) (.slice (some ⟨w'.heap.size, 0, none⟩) 1 1) [0] := by
   refine Or.inr ⟨w'.heap.size, 0, 1, rfl, Nat.le_refl _, by unfold maxLen; omega, fun i hi => ?_⟩
   have h0 : i = 0 := by simp at hi; exact hi
   subst h0
   exact cell_new w' [.int .i64 0] 3 0 _ rfl
  have HH := Lib.hid hh
  clear hg hh
  go_simp
  exact ⟨HH.out, (Below.refl _ _).alloc (Nat.le_refl _) _⟩
 try go_simp
 refine wpH_hid (OI w.heap.size [0]) rfl (by rfl) (fun u x x' hg h => own_grow h hg.below) (fun xs => by rfl) (fun xs w' hg hf => ?_) ?_
 ·have h1 := hf _ (List.Mem.head _) (by rfl)
  try dsimp only at h1
  have hsz' : w.heap.size ≤ w'.heap.size := Nat.le_trans HGw6.out.size hg.size
  refine mild_append_nil _ _ _ (by rfl) w.heap.size 3 i0 8 Tryz.underlying28 hi hz0 hz1 hz2 (by rfl) (xs 46) [0] (by rfl) h1 (by simp [maxLen]) (by simp) hsz' (fun v' w1 ho hb => ⟨ho, hb⟩)
 try go_simp
 refine wpH_nil ?_
 intro xs w7 hg hc hx
 have h47 := hx _ _ (List.Mem.head _)
 have h43 := hx _ _ (List.Mem.tail _ (List.Mem.tail _ (List.Mem.head _)))
 try dsimp only at h47 h43
 have HGw7 := Lib.hid (HGw6.out.trans hg.below)
 have HA7 := Lib.hid ((hg.below.block _ (lt_of_block HA6.out)).trans HA6.out)
 have HO := Lib.hid (And.intro h43 h47)
 clear hg hc hx h43 h47
 simp only [fill]
 generalize xs 43 = y43 at *
 generalize xs 47 = y47 at *
 generalize xs 42 = y42 at *
 generalize xs 46 = y46 at *
 have hi43 : IntsV .i64 w7 y43 [256] := ints_of_owns HO.out.1
 have hi47 : IntsV .i64 w7 y47 [0] := ints_of_owns HO.out.2
 obtain ⟨b3, o3, q3, rfl, hq3, _⟩ := hi43.solid (by simp)
 obtain ⟨b7, o7, q7, rfl, hq7, _⟩ := hi47.solid (by simp)
 have z3 : w7.cell? ⟨b3, o3, none⟩ = some (.int .i64 256) := by have := hi43.cells 0 (by simp); simpa using this
 simp only [List.length_cons, List.length_nil, Nat.zero_add] at hi43 hi47 ⊢
 have HI3 := Lib.hid hi43
 clear hi43 hi47
 go_simp
 go_wp2_with fail
 rw [rounds_succ]
 go_wp2_with fail
 with_reducible refine (sort_one _).mono ?_
 rintro e w8 ⟨⟨u, rfl⟩, rfl⟩
 go_wp2_with fail
 refine wp_loop_rounds 1 ?_
 rw [rounds_succ]
 go_wp2_with fail
 refine bodyPost_ret (v := .tuple #[.slice (some ⟨b3, o3, none⟩) 1 q3, .int .i64 0]) (by simp [results, Tryz.results102, go_sem]) rfl ?_
 exact ⟨⟨_, rfl, HI3.out.mono ((Grow.refl _).alloc _)⟩, HGw7.out.trans ((Grow.refl _).alloc _)⟩
end
end Go.Proofs.YtgckhdepnmiejaaGreat
namespace Go.Proofs.YtgckhdepnmiejaaGreat
section
set_option maxRecDepth 100000
open Go.RowKit
/-- Cells of one number. -/
def sames (n : Nat) (p : Int) : List Value := List.replicate n (.int .i64 p)
theorem grow_of_but {M : Nat → Prop} {w x y : World} (h : Grow w x) (k : GrowBut M x y) (hm : ∀ i, M i → w.heap.size ≤ i) : Grow w y :=
 ⟨k.os.trans h.os, k.tape.trans h.tape, k.output.trans h.output, Nat.le_trans h.size k.size, fun i hi => (k.block i (Nat.lt_of_lt_of_le hi h.size) (fun e => absurd (hm i e) (Nat.not_le.2 hi))).trans (h.block i hi)⟩
theorem sames_one (n : Nat) (p : Int) : ∀ v ∈ sames n p, v.oneCell' = true := fun v hv => by
 obtain ⟨_, rfl⟩ := List.mem_replicate.1 hv; rfl
theorem zero125 : Tryz.zeroCells125 = (sames 256 0).toArray := by kernel_rfl
theorem sames_length (n : Nat) (p : Int) : (sames n p).length = n := by simp [sames]
def halves (k : Nat) (p : Int) : List Value := sames k p ++ sames (256 - k) 0
theorem halves_zero (p : Int) : halves 0 p = sames 256 0 := by simp [halves, sames]
theorem halves_all (p : Int) : halves 256 p = sames 256 p := by simp [halves, sames]
theorem halves_at {k : Nat} (hk : k < 256) (p : Int) : (halves k p)[k]? = some (.int .i64 0) := by
 unfold halves sames
 rw [List.getElem?_append_right (by simp), List.getElem?_replicate, List.length_replicate, if_pos (by omega)]
theorem halves_set {k : Nat} (hk : k < 256) (p : Int) : (halves k p).set k (.int .i64 p) = halves (k + 1) p := by
 unfold halves sames
 rw [List.set_append_right _ _ (by simp)]
 simp only [List.length_replicate, Nat.sub_self]
 rw [show 256 - k = (255 - k) + 1 by omega, List.replicate_succ, List.set_cons_zero, show 256 - (k + 1) = 255 - k by omega, List.replicate_succ', List.append_assoc]
 rfl
set_option maxHeartbeats 4000000 in
theorem buckets_one {w : World} {nb no nc : Nat} {port dist : Int} (hc0 : w.cell? ⟨nb, no, none⟩ = some (.int .i64 port)) (hc1 : w.cell? ⟨nb, no + 1, none⟩ = some (.int .i64 dist)) (hp : 0 ≤ port ∧ port < 8) (hd : dist = 1 ∨ dist = 3) (hnc : 1 ≤ nc) :
  Calls Tryz.prog 78 #[.slice (some ⟨nb, no, none⟩) 1 nc] w fun e w' => e = .returned (.tuple #[.agg (sames 256 port).toArray, .int .i64 0]) ∧ Grow w w' := by
 have HSh : Hid (∀ x, Grow w x → Calls Tryz.prog 102 #[.slice (some ⟨nb, no, none⟩) 1 nc] x fun e w' => (∃ u, e = .returned (.tuple #[u, .int .i64 0]) ∧ IntsV .i64 w' u [256]) ∧ Grow x w') := fun x hx => shares_one ((hx.cell (block_lt hc0)).trans hc0) ((hx.cell (block_lt hc1)).trans hc1) hp hd hnc
 have HC0 := Lib.hid hc0
 clear hc0 hc1 hp hd
 go_enter Tryz.func78, Tryz.ntmps78
 go_wp2_with fail
 obtain ⟨w0, hw0⟩ : ∃ x, (w.alloc (.cells Tryz.zeroCells125 125)).alloc (.cells Tryz.zeroCells125 125) = x := ⟨_, rfl⟩
 have hsA : (w.alloc (.cells Tryz.zeroCells125 125)).heap.size = w.heap.size + 1 := World.size_alloc _ _
 have hB := heap_alloc_new (w.alloc (.cells Tryz.zeroCells125 125)) (.cells Tryz.zeroCells125 125)
 have hA : ((w.alloc (.cells Tryz.zeroCells125 125)).alloc (.cells Tryz.zeroCells125 125)).heap[w.heap.size]? = some (.cells Tryz.zeroCells125 125 (0, 0)) := (Below.heap_alloc _ _ _ (by rw [hsA]; exact Nat.lt_succ_self _)).trans (heap_alloc_new w _)
 have hG0 : Grow w ((w.alloc (.cells Tryz.zeroCells125 125)).alloc (.cells Tryz.zeroCells125 125)) := ((Grow.refl w).alloc _).alloc _
 rw [hsA] at hB
 rw [hw0] at hA hB hG0 ⊢
 rw [zero125] at hA hB
 have HA0 := Lib.hid hA
 have HB0 := Lib.hid hB
 have HG0 := Lib.hid hG0
 clear hw0 hsA hA hB hG0
 with_reducible refine (HSh.out _ HG0.out).mono ?_
 rintro e w1 ⟨⟨u, rfl, hu⟩, hg⟩
 have HG1 := Lib.hid (HG0.out.trans hg)
 have HA1 := Lib.hid ((hg.block _ (lt_of_block HA0.out)).trans HA0.out)
 have HB1 := Lib.hid ((hg.block _ (lt_of_block HB0.out)).trans HB0.out)
 obtain ⟨sb, so, sc, rfl, hsc, _⟩ := hu.solid (by simp)
 have z0 : w1.cell? ⟨sb, so, none⟩ = some (.int .i64 256) := by have := hu.cells 0 (by simp); simpa using this
 simp only [List.length_cons, List.length_nil, Nat.zero_add] at hsc ⊢
 clear hg hu HB0 HG0 HSh HA0
 go_wp2_with fail
 refine wp_loop_rounds 2 ?_
 rw [rounds_succ]
 go_wp2_with fail
 clear z0
 have HNB : Hid (nb ≠ w.heap.size + 1) := by have := block_lt HC0.out; show _ ≠ _; simp at this; omega
 go_loopw [23, 7] (fun i a wr => ∃ k : Nat, k ≤ 256 ∧ i = .int .i64 k ∧ a = .int .i64 k ∧ Hid (wr.heap[w.heap.size + 1]? = some (.cells (halves k port).toArray 125 (0, 0)) ∧ GrowBut (Only (w.heap.size + 1)) w1 wr)) (fun i _ _ => 256 - (intOf i).toNat)
 case atStart => exact ⟨0, Nat.zero_le _, rfl, rfl, by rw [halves_zero]; exact HB1.out, GrowBut.refl _ _⟩
 case round =>
  obtain ⟨k, hk, rfl, rfl, HI⟩ := hrel
  by_cases hlt : k < 256
  ·have hk1 : (k : Int) < 256 := by omega
   have hwk : IntKind.i64.wrap ((k : Int) + 1) = (k : Int) + 1 := IntWalk.i64_in _ (by omega)
   have x0 := (HI.out.2.cell (p := ⟨nb, no, none⟩) ((HG1.out.cell (block_lt HC0.out)).trans HC0.out) (fun e => HNB.out e))
   have ck : wr.cell? ⟨w.heap.size + 1, k, none⟩ = some (.int .i64 0) := by simp [World.cell?, HI.out.1, halves_at hlt]
   have cz : wr.frozen? ⟨w.heap.size + 1, k, none⟩ = false := by simp [World.frozen?, HI.out.1]
   go_wp2_with fail
   go_roundw
   case rel => exact ⟨k + 1, by omega, by simp, by simp, by
    have h := heap_setCell_same wr (w.heap.size + 1) k _ _ (.int .i64 port) HI.out.1
    rw [h, List.setIfInBounds_toArray, halves_set hlt], HI.out.2.trans (only_set _)⟩
   case measure => simp [intOf]; omega
  ·have hk2 : k = 256 := by omega
   subst hk2
   go_wp2_with fail
   rw [rounds_succ]
   go_wp2_with fail
   rename_i hK
   have hz := halves_all port
   rw [hz] at HI
   have hr : wr.rangeAt (w.heap.size + 1) 0 (sames 256 port) := fun j v hv => by
    simp [World.cell?, HI.out.1, hv]
   refine wp_load_mid 125 (.tmp 4) rfl (w.heap.size + 1) 0 rfl (sames 256 port) (.array 256 3) hr (by kernel_rfl) rfl (by rw [sames_length]; kernel_rfl) ?_
   refine hK _ _ ?_
   go_wp2_with fail
   have hA : wr.heap[w.heap.size]? = some (.cells (sames 256 0).toArray 125 (0, 0)) := (HI.out.2.block _ (lt_of_block HA1.out) (fun e => by have : w.heap.size = w.heap.size + 1 := e; omega)).trans HA1.out
   have htA : wr.there w.heap.size 0 256 := fun j hj => by
    constructor
    ·simp [World.cell?, hA, sames_length, hj]
    ·simp [World.frozen?, hA]
   have hst := run_storeCells_cells (P := Tryz.prog) w.heap.size 0 (sames 256 port) 0 wr (fun j hj => by simpa using (htA j (by simpa [sames_length] using hj)).1) (fun j hj => by simpa using (htA j (by simpa [sames_length] using hj)).2) (sames_one 256 port)
   rw [hst]
   have hgw : Grow w (wr.setCells w.heap.size 0 (sames 256 port)) := grow_of_but HG1.out (M := fun i => w.heap.size ≤ i) ((HI.out.2.weaken (fun i e => by have : i = w.heap.size + 1 := e; omega)).setCells (Nat.le_refl _) 0 _) (fun i e => e)
   have hr2 : (wr.setCells w.heap.size 0 (sames 256 port)).rangeAt w.heap.size 0 (sames 256 port) := World.rangeAt_setCells_same wr _ 0 _ (by rw [sames_length]; exact htA)
   obtain ⟨wz, hwz⟩ : ∃ x, wr.setCells w.heap.size 0 (sames 256 port) = x := ⟨_, rfl⟩
   simp only [Nat.zero_add]
   rw [hwz] at hgw hr2 ⊢
   go_wp2_with fail
   have hlv := run_loadVar_mid (P := Tryz.prog) wz w.heap.size 0 125 (sames 256 port) (.array 256 3) hr2 (by kernel_rfl) rfl (by rw [sames_length]; kernel_rfl)
   refine bodyPost_ret (v := .tuple #[.agg (sames 256 port).toArray, .int .i64 0]) (by simp [results, Tryz.results78, hlv, asAddr, Sem.run_bind]) rfl ⟨rfl, hgw⟩
end
end Go.Proofs.YtgckhdepnmiejaaGreat
namespace Go.Proofs.YtgckhdepnmiejaaGreat
section
set_option maxRecDepth 100000
open Go.RowKit
theorem blkRt {w : World} {B : Nat} {T : TypeId} {c0 c1 c2 c3 c4 c5 : Value} (hh : w.heap[B]? = some (.cells #[c0, c1, c2, c3, c4, c5] T (0, 0))) :
  w.cell? ⟨B, 0, none⟩ = some c0 ∧ w.cell? ⟨B, 1, none⟩ = some c1 ∧ w.cell? ⟨B, 2, none⟩ = some c2 ∧ w.cell? ⟨B, 3, none⟩ = some c3 ∧ w.cell? ⟨B, 4, none⟩ = some c4 ∧ w.cell? ⟨B, 5, none⟩ = some c5 := by
 refine ⟨?_, ?_, ?_, ?_, ?_, ?_⟩ <;> simp [World.cell?, hh]
set_option maxHeartbeats 4000000 in
theorem fibmay_own {w : World} {a dist : Int} {own taken : Bool} (hm : ∀ x : World, Calls Tryz.prog 80 #[.agg #[.int .u32 a, .int .i64 8]] x fun e w' => e = .returned (.bool true) ∧ Grow x w') :
  Calls Tryz.prog 77 #[.agg #[.int .u32 a, .int .i64 8, .bool own, .bool taken, .int .i64 dist, .slice none 0 0]] w fun e w' => e = .returned (.bool true) ∧ Grow w w' := by
 have HM := Lib.hid hm
 have HN := Lib.hid (heap_alloc_new w (.cells #[.int .u32 a, .int .i64 8, .bool own, .bool taken, .int .i64 dist, .slice none 0 0] 40))
 have HG : Hid (Grow w (w.alloc (.cells #[.int .u32 a, .int .i64 8, .bool own, .bool taken, .int .i64 dist, .slice none 0 0] 40))) := (Grow.refl w).alloc _
 clear hm
 go_enter Tryz.func77, Tryz.ntmps77
 go_wp2_with fail
 have hq := newB 1 (w.alloc (.cells #[.int .u32 a, .int .i64 8, .bool own, .bool taken, .int .i64 dist, .slice none 0 0] 40)) (by omega)
 rw [show ((1 : Nat) : Int) = 1 from rfl] at hq
 with_reducible refine hq.mono ?_
 clear hq
 rintro e w1 ⟨T, rfl, ht, hsz, hg⟩
 have HT := Lib.hid ht
 have HSz : Hid (w.heap.size ≤ T) := Nat.le_trans HG.out.size hsz
 have HN1 := Lib.hid ((hg.block _ (lt_of_block HN.out)).trans HN.out)
 have HG1 := Lib.hid (HG.out.trans hg)
 have HNe : Hid (w.heap.size ≠ T) := by have := Lib.hid hsz; rw [World.size_alloc] at hsz; show _ ≠ _; omega
 obtain ⟨d0, d1, d2, d3, d4, d5⟩ := blkRt HN1.out
 clear hg ht hsz HN HG
 go_wp2_with fail
 have hq := insertB HT.out HM.out
 with_reducible refine hq.mono ?_
 clear hq
 rintro e w2 ⟨rfl, _, hg⟩
 have HG2 := Lib.hid (grow_of_but HG1.out hg (fun i e => by rw [show i = T from e]; exact HSz.out))
 obtain ⟨d0, d1, d2, d3, d4, d5⟩ := blkRt ((hg.block _ (lt_of_block HN1.out) HNe.out).trans HN1.out)
 clear hg
 go_wp2_with fail
 go_ret
 exact ⟨by first | rfl | simp, HG2.out⟩
set_option maxHeartbeats 4000000 in
theorem fibmay_one {w : World} {a dist port d : Int} {own taken : Bool} {nb no nc : Nat} (hm : ∀ x : World, Calls Tryz.prog 80 #[.agg #[.int .u32 a, .int .i64 8]] x fun e w' => e = .returned (.bool true) ∧ Grow x w')
  (hc0 : w.cell? ⟨nb, no, none⟩ = some (.int .i64 port)) (hc1 : w.cell? ⟨nb, no + 1, none⟩ = some (.int .i64 d)) (hp : 0 ≤ port ∧ port < 8) (hd : d = 1 ∨ d = 3) (hnc : 1 ≤ nc) :
  Calls Tryz.prog 77 #[.agg #[.int .u32 a, .int .i64 8, .bool own, .bool taken, .int .i64 dist, .slice (some ⟨nb, no, none⟩) 1 nc]] w fun e w' => e = .returned (.bool true) ∧ Grow w w' := by
 have HM := Lib.hid hm
 have HN := Lib.hid (heap_alloc_new w (.cells #[.int .u32 a, .int .i64 8, .bool own, .bool taken, .int .i64 dist, .slice (some ⟨nb, no, none⟩) 1 nc] 40))
 have HG : Hid (Grow w (w.alloc (.cells #[.int .u32 a, .int .i64 8, .bool own, .bool taken, .int .i64 dist, .slice (some ⟨nb, no, none⟩) 1 nc] 40))) := (Grow.refl w).alloc _
 have HS : Hid (∀ x, Grow w x → Calls Tryz.prog 101 #[.slice (some ⟨nb, no, none⟩) 1 nc] x fun e w' => e = .returned (.bool true) ∧ Grow x w') := fun x hx => splitmay_one ((hx.cell (block_lt hc0)).trans hc0) ((hx.cell (block_lt hc1)).trans hc1) hp hd hnc
 clear hm hc0 hc1 hp hd hnc
 go_enter Tryz.func77, Tryz.ntmps77
 go_wp2_with fail
 have hq := newB 1 (w.alloc (.cells #[.int .u32 a, .int .i64 8, .bool own, .bool taken, .int .i64 dist, .slice (some ⟨nb, no, none⟩) 1 nc] 40)) (by omega)
 rw [show ((1 : Nat) : Int) = 1 from rfl] at hq
 with_reducible refine hq.mono ?_
 clear hq
 rintro e w1 ⟨T, rfl, ht, hsz, hg⟩
 have HT := Lib.hid ht
 have HSz : Hid (w.heap.size ≤ T) := Nat.le_trans HG.out.size hsz
 have HN1 := Lib.hid ((hg.block _ (lt_of_block HN.out)).trans HN.out)
 have HG1 := Lib.hid (HG.out.trans hg)
 have HNe : Hid (w.heap.size ≠ T) := by rw [World.size_alloc] at hsz; show _ ≠ _; omega
 obtain ⟨d0, d1, d2, d3, d4, d5⟩ := blkRt HN1.out
 clear hg ht hsz HN HG
 go_wp2_with fail
 have hq := insertB HT.out HM.out
 with_reducible refine hq.mono ?_
 clear hq
 rintro e w2 ⟨rfl, _, hg⟩
 have HG2 := Lib.hid (grow_of_but HG1.out hg (fun i e => by rw [show i = T from e]; exact HSz.out))
 obtain ⟨d0, d1, d2, d3, d4, d5⟩ := blkRt ((hg.block _ (lt_of_block HN1.out) HNe.out).trans HN1.out)
 clear hg HN1 HG1
 go_wp2_with fail
 with_reducible refine (HS.out _ HG2.out).mono ?_
 rintro e w3 ⟨rfl, hg⟩
 have HG3 := Lib.hid (HG2.out.trans hg)
 clear hg HG2
 go_wp2_with fail
 go_ret
 exact ⟨by first | rfl | simp, HG3.out⟩
end
end Go.Proofs.YtgckhdepnmiejaaGreat
namespace Go.Proofs.YtgckhdepnmiejaaGreat
section
set_option maxRecDepth 100000
open Go.RowKit
/-- A way's cells. -/
def wayL (k p : Int) : List Value := .int .i64 k :: sames 256 p
def wayV (k p : Int) : Value := .agg (wayL k p).toArray
theorem wayL_length (k p : Int) : (wayL k p).length = 257 := by simp [wayL, sames_length]
theorem zero127 : Tryz.zeroCells127 = (wayL 0 0).toArray := by kernel_rfl
theorem wayL_one (k p : Int) : ∀ v ∈ wayL k p, v.oneCell' = true := fun v hv => by
 rcases List.mem_cons.1 hv with rfl | hv
 ·rfl
 ·exact sames_one _ _ v hv
theorem row127 : ∃ d, Tryz.prog.underlying 127 = some d ∧ d.isRow = true := ⟨_, Tryz.underlying127, rfl⟩
theorem size127 : (Tryz.prog.info? 127).map (·.size) = some 257 := by kernel_rfl
theorem size125 : (Tryz.prog.info? 125).map (·.size) = some 256 := by kernel_rfl
/-- A way in a variable of its own block. -/
def WayIn (w : World) (A : Nat) (k p : Int) : Prop := w.rangeAt A 0 (wayL k p) ∧ w.there A 0 257
theorem WayIn.of_heap {w : World} {A : Nat} {T : TypeId} {k p : Int} (h : w.heap[A]? = some (.cells (wayL k p).toArray T (0, 0))) : WayIn w A k p :=
 ⟨fun j v hv => by simp [World.cell?, h, hv], fun j hj => by constructor <;> simp [World.cell?, World.frozen?, h, wayL_length, hj]⟩
theorem WayIn.load {w : World} {A : Nat} {k p : Int} (h : WayIn w A k p) : (loadVar 127 ⟨A, 0, none⟩).run Tryz.prog w = .ok (wayV k p) w := by
 obtain ⟨d, hd, hr⟩ := row127
 exact run_loadVar_mid (P := Tryz.prog) w A 0 127 (wayL k p) d h.1 hd hr (by rw [wayL_length]; exact size127)
theorem WayIn.grow {w w' : World} {A : Nat} {k p : Int} (h : WayIn w A k p) (hb : w'.heap[A]? = w.heap[A]?) : WayIn w' A k p := by
 have hc : ∀ j, w'.cell? ⟨A, j, none⟩ = w.cell? ⟨A, j, none⟩ := fun j => by unfold World.cell?; rw [hb]
 have hf : ∀ j, w'.frozen? ⟨A, j, none⟩ = w.frozen? ⟨A, j, none⟩ := fun j => by unfold World.frozen?; rw [hb]
 exact ⟨fun j v hv => by rw [hc]; exact h.1 j v hv, fun j hj => by rw [hc, hf]; exact h.2 j hj⟩
theorem WayIn.back {w : World} {A : Nat} {k p k' p' : Int} (h : WayIn w A k p) : WayIn (w.setCells A 0 (wayL k' p')) A k' p' :=
 ⟨World.rangeAt_setCells_same w _ 0 _ (by rw [wayL_length]; exact h.2), World.there_setCells h.2 _ _ _⟩
theorem WayIn.run {w : World} {A : Nat} {k p k' p' : Int} (h : WayIn w A k p) : (storeCells ⟨A, 0, none⟩ (wayL k' p')).run Tryz.prog w = .ok () (w.setCells A 0 (wayL k' p')) := by
 have := run_storeCells_cells (P := Tryz.prog) A 0 (wayL k' p') 0 w (fun j hj => by simpa using (h.2 j (by simpa [wayL_length] using hj)).1) (fun j hj => by simpa using (h.2 j (by simpa [wayL_length] using hj)).2) (wayL_one k' p')
 simpa using this
theorem WayIn.kind {w : World} {A : Nat} {k p k' : Int} (h : WayIn w A k p) : WayIn (w.setCell ⟨A, 0, none⟩ (.int .i64 k')) A k' p := by
 have c0 : w.cell? ⟨A, 0, none⟩ = some (.int .i64 k) := by simpa using h.1 0 _ rfl
 have e : w.setCell ⟨A, 0, none⟩ (.int .i64 k') = w.setCells A 0 [.int .i64 k'] := rfl
 refine ⟨fun j v hv => ?_, by rw [e]; exact World.there_setCells h.2 _ _ _⟩
 cases j with
 | zero =>
  have : v = .int .i64 k' := by simpa [wayL] using hv.symm
  subst this
  exact World.cell?_setCell_same _ _ _ c0
 | succ j =>
  rw [World.cell?_setCell_other _ _ _ _ (by simp)]
  exact h.1 (j + 1) v (by simpa [wayL] using hv)
theorem WayIn.put {w : World} {A : Nat} {k p p' : Int} (h : WayIn w A k p) : WayIn (w.setCells A 1 (sames 256 p')) A k p' := by
 refine ⟨fun j v hv => ?_, World.there_setCells h.2 _ _ _⟩
 cases j with
 | zero =>
  rw [World.cell?_setCells_out _ _ _ _ _ (fun _ _ => Or.inl (by show (0 + 0 : Nat) < 1; omega))]
  exact h.1 0 v (by simpa [wayL] using hv)
 | succ j =>
  have hs := World.rangeAt_setCells_same w A 1 (sames 256 p') (fun j hj => by rw [Nat.add_comm 1 j]; simpa using h.2 (j + 1) (by rw [sames_length] at hj; omega))
  have := hs j v (by simpa [wayL] using hv)
  rw [show 0 + (j + 1) = 1 + j by omega]
  exact this
theorem WayIn.run1 {w : World} {A : Nat} {k p p' : Int} (h : WayIn w A k p) : (storeCells ⟨A, 1, none⟩ (sames 256 p')).run Tryz.prog w = .ok () (w.setCells A 1 (sames 256 p')) := by
 have ht : ∀ j, j < 256 → (w.cell? ⟨A, 1 + j, none⟩).isSome = true ∧ w.frozen? ⟨A, 1 + j, none⟩ = false := fun j hj => by rw [Nat.add_comm 1 j]; simpa using h.2 (j + 1) (by omega)
 have := run_storeCells_cells (P := Tryz.prog) A 1 (sames 256 p') 0 w (fun j hj => (ht j (by simpa [sames_length] using hj)).1) (fun j hj => (ht j (by simpa [sames_length] using hj)).2) (sames_one 256 p')
 simpa using this
set_option maxHeartbeats 4000000 in
theorem entry_own {w : World} {a : Int} (hm : ∀ x : World, Calls Tryz.prog 80 #[.agg #[.int .u32 a, .int .i64 8]] x fun e w' => e = .returned (.bool true) ∧ Grow x w') :
  Calls Tryz.prog 55 #[.agg #[.int .u32 a, .int .i64 8, .bool true, .bool true, .int .i64 0, .slice none 0 0]] w fun e w' => e = .returned (.tuple #[wayV 1 0, .int .i64 0]) ∧ Grow w w' := by
 have HM : Hid (∀ x : World, Calls Tryz.prog 77 #[.agg #[.int .u32 a, .int .i64 8, .bool true, .bool true, .int .i64 0, .slice none 0 0]] x fun e w' => e = .returned (.bool true) ∧ Grow x w') := fun x => fibmay_own hm
 clear hm
 go_enter Tryz.func55, Tryz.ntmps55
 go_wp2_with fail
 obtain ⟨w0, hw0⟩ : ∃ x, (w.alloc (.cells #[.int .u32 a, .int .i64 8, .bool true, .bool true, .int .i64 0, .slice none 0 0] 40)).alloc (.cells Tryz.zeroCells127 127) = x := ⟨_, rfl⟩
 have hsA : (w.alloc (.cells #[.int .u32 a, .int .i64 8, .bool true, .bool true, .int .i64 0, .slice none 0 0] 40)).heap.size = w.heap.size + 1 := World.size_alloc _ _
 have hB := heap_alloc_new (w.alloc (.cells #[.int .u32 a, .int .i64 8, .bool true, .bool true, .int .i64 0, .slice none 0 0] 40)) (.cells Tryz.zeroCells127 127)
 have hA : ((w.alloc (.cells #[.int .u32 a, .int .i64 8, .bool true, .bool true, .int .i64 0, .slice none 0 0] 40)).alloc (.cells Tryz.zeroCells127 127)).heap[w.heap.size]? = some (.cells #[.int .u32 a, .int .i64 8, .bool true, .bool true, .int .i64 0, .slice none 0 0] 40 (0, 0)) := (Below.heap_alloc _ _ _ (by rw [hsA]; exact Nat.lt_succ_self _)).trans (heap_alloc_new w _)
 have hG0 : Grow w ((w.alloc (.cells #[.int .u32 a, .int .i64 8, .bool true, .bool true, .int .i64 0, .slice none 0 0] 40)).alloc (.cells Tryz.zeroCells127 127)) := ((Grow.refl w).alloc _).alloc _
 rw [hsA] at hB
 rw [hw0] at hA hB hG0 ⊢
 rw [zero127] at hB
 have HA0 := Lib.hid hA
 have HB0 := Lib.hid hB
 have HG0 := Lib.hid hG0
 clear hw0 hsA hA hB hG0
 with_reducible refine (HM.out _).mono ?_
 rintro e w1 ⟨rfl, hg⟩
 have HG1 := Lib.hid (HG0.out.trans hg)
 obtain ⟨d0, d1, d2, d3, d4, d5⟩ := blkRt ((hg.block _ (lt_of_block HA0.out)).trans HA0.out)
 have HA1 := Lib.hid (hg.block _ (lt_of_block HA0.out))
 have hb1 := (hg.block _ (lt_of_block HB0.out)).trans HB0.out
 have HW1 := Lib.hid (WayIn.of_heap hb1)
 have ck : w1.cell? ⟨w.heap.size + 1, 0, none⟩ = some (.int .i64 0) := by simpa using HW1.out.1 0 _ rfl
 have cz : w1.frozen? ⟨w.heap.size + 1, 0, none⟩ = false := (by simpa using HW1.out.2 0 (by omega) : _ ∧ _).2
 clear hg hb1
 go_wp2_with fail
 obtain ⟨w2, hw2⟩ : ∃ x, w1.setCell ⟨w.heap.size + 1, 0, none⟩ (.int .i64 1) = x := ⟨_, rfl⟩
 have hk2 := HW1.out.kind (k' := 1)
 have hg2 : GrowBut (fun i => w.heap.size ≤ i) w1 (w1.setCell ⟨w.heap.size + 1, 0, none⟩ (.int .i64 1)) := (GrowBut.refl _ w1).setCell (a := ⟨w.heap.size + 1, 0, none⟩) (show w.heap.size ≤ w.heap.size + 1 by omega) _
 rw [hw2] at hk2 hg2 ⊢
 have HW2 := Lib.hid hk2
 have HG2 := Lib.hid (grow_of_but HG1.out hg2 (fun _ e => e))
 clear hw2 hk2 hg2 ck cz HW1 HG1 d0 d1 d2 d3 d4 d5
 rename_i hK
 obtain ⟨dd, hdd, hrr⟩ := row127
 refine wp_load_mid 127 (.tmp 2) rfl (w.heap.size + 1) 0 rfl (wayL 1 0) dd HW2.out.1 hdd hrr (by rw [wayL_length]; exact size127) ?_
 refine hK _ _ ?_
 clear hK hdd hrr
 go_wp2_with fail
 rw [HW2.out.run]
 have hk3 := HW2.out.back (k' := 1) (p' := 0)
 have hg3 := (GrowBut.refl (fun i => w.heap.size ≤ i) w2).setCells (b := w.heap.size + 1) (by show w.heap.size ≤ _; omega) 0 (wayL 1 0)
 obtain ⟨wz, hwz⟩ : ∃ x, w2.setCells (w.heap.size + 1) 0 (wayL 1 0) = x := ⟨_, rfl⟩
 rw [hwz] at hk3 hg3 ⊢
 have HW3 := Lib.hid hk3
 have HG3 := Lib.hid (grow_of_but HG2.out hg3 (fun _ e => e))
 clear hk3 hg3 hwz
 go_wp2_with fail
 have hlv := HW3.out.load
 refine bodyPost_ret (v := .tuple #[wayV 1 0, .int .i64 0]) (by simp [results, Tryz.results55, hlv, asAddr, Sem.run_bind]) rfl ⟨rfl, HG3.out⟩
set_option maxHeartbeats 4000000 in
theorem entry_one {w : World} {a port dist d : Int} {nb no nc : Nat} (hm : ∀ x : World, Calls Tryz.prog 80 #[.agg #[.int .u32 a, .int .i64 8]] x fun e w' => e = .returned (.bool true) ∧ Grow x w')
  (hc0 : w.cell? ⟨nb, no, none⟩ = some (.int .i64 port)) (hc1 : w.cell? ⟨nb, no + 1, none⟩ = some (.int .i64 d)) (hp : 0 ≤ port ∧ port < 8) (hd : d = 1 ∨ d = 3) (hnc : 1 ≤ nc) :
  Calls Tryz.prog 55 #[.agg #[.int .u32 a, .int .i64 8, .bool false, .bool true, .int .i64 dist, .slice (some ⟨nb, no, none⟩) 1 nc]] w fun e w' => e = .returned (.tuple #[wayV 3 port, .int .i64 0]) ∧ Grow w w' := by
 have HM : Hid (∀ x : World, Grow w x → Calls Tryz.prog 77 #[.agg #[.int .u32 a, .int .i64 8, .bool false, .bool true, .int .i64 dist, .slice (some ⟨nb, no, none⟩) 1 nc]] x fun e w' => e = .returned (.bool true) ∧ Grow x w') := fun x hx => fibmay_one hm ((hx.cell (block_lt hc0)).trans hc0) ((hx.cell (block_lt hc1)).trans hc1) hp hd hnc
 have HBk : Hid (∀ x : World, Grow w x → Calls Tryz.prog 78 #[.slice (some ⟨nb, no, none⟩) 1 nc] x fun e w' => e = .returned (.tuple #[.agg (sames 256 port).toArray, .int .i64 0]) ∧ Grow x w') := fun x hx => buckets_one ((hx.cell (block_lt hc0)).trans hc0) ((hx.cell (block_lt hc1)).trans hc1) hp hd hnc
 clear hm hc0 hc1 hp hd hnc
 go_enter Tryz.func55, Tryz.ntmps55
 go_wp2_with fail
 obtain ⟨w0, hw0⟩ : ∃ x, (w.alloc (.cells #[.int .u32 a, .int .i64 8, .bool false, .bool true, .int .i64 dist, .slice (some ⟨nb, no, none⟩) 1 nc] 40)).alloc (.cells Tryz.zeroCells127 127) = x := ⟨_, rfl⟩
 have hsA : (w.alloc (.cells #[.int .u32 a, .int .i64 8, .bool false, .bool true, .int .i64 dist, .slice (some ⟨nb, no, none⟩) 1 nc] 40)).heap.size = w.heap.size + 1 := World.size_alloc _ _
 have hB := heap_alloc_new (w.alloc (.cells #[.int .u32 a, .int .i64 8, .bool false, .bool true, .int .i64 dist, .slice (some ⟨nb, no, none⟩) 1 nc] 40)) (.cells Tryz.zeroCells127 127)
 have hA : ((w.alloc (.cells #[.int .u32 a, .int .i64 8, .bool false, .bool true, .int .i64 dist, .slice (some ⟨nb, no, none⟩) 1 nc] 40)).alloc (.cells Tryz.zeroCells127 127)).heap[w.heap.size]? = some (.cells #[.int .u32 a, .int .i64 8, .bool false, .bool true, .int .i64 dist, .slice (some ⟨nb, no, none⟩) 1 nc] 40 (0, 0)) := (Below.heap_alloc _ _ _ (by rw [hsA]; exact Nat.lt_succ_self _)).trans (heap_alloc_new w _)
 have hG0 : Grow w ((w.alloc (.cells #[.int .u32 a, .int .i64 8, .bool false, .bool true, .int .i64 dist, .slice (some ⟨nb, no, none⟩) 1 nc] 40)).alloc (.cells Tryz.zeroCells127 127)) := ((Grow.refl w).alloc _).alloc _
 rw [hsA] at hB
 rw [hw0] at hA hB hG0 ⊢
 rw [zero127] at hB
 have HA0 := Lib.hid hA
 have HB0 := Lib.hid hB
 have HG0 := Lib.hid hG0
 clear hw0 hsA hA hB hG0
 with_reducible refine (HM.out _ HG0.out).mono ?_
 rintro e w1 ⟨rfl, hg⟩
 have HG1 := Lib.hid (HG0.out.trans hg)
 obtain ⟨d0, d1, d2, d3, d4, d5⟩ := blkRt ((hg.block _ (lt_of_block HA0.out)).trans HA0.out)
 have HA1 := Lib.hid (hg.block _ (lt_of_block HA0.out))
 have hb1 := (hg.block _ (lt_of_block HB0.out)).trans HB0.out
 have HW1 := Lib.hid (WayIn.of_heap hb1)
 have ck : w1.cell? ⟨w.heap.size + 1, 0, none⟩ = some (.int .i64 0) := by simpa using HW1.out.1 0 _ rfl
 have cz : w1.frozen? ⟨w.heap.size + 1, 0, none⟩ = false := (by simpa using HW1.out.2 0 (by omega) : _ ∧ _).2
 clear hg hb1
 go_wp2_with fail
 obtain ⟨w2, hw2⟩ : ∃ x, w1.setCell ⟨w.heap.size + 1, 0, none⟩ (.int .i64 3) = x := ⟨_, rfl⟩
 have hk2 := HW1.out.kind (k' := 3)
 have hg2 : GrowBut (fun i => w.heap.size ≤ i) w1 (w1.setCell ⟨w.heap.size + 1, 0, none⟩ (.int .i64 3)) := (GrowBut.refl _ w1).setCell (a := ⟨w.heap.size + 1, 0, none⟩) (show w.heap.size ≤ w.heap.size + 1 by omega) _
 have ha2 : (w1.setCell ⟨w.heap.size + 1, 0, none⟩ (.int .i64 3)).heap[w.heap.size]? = w1.heap[w.heap.size]? := Below.heap_setCell _ _ _ _ (by show _ ≠ _; simp)
 rw [hw2] at hk2 hg2 ha2 ⊢
 have HA2 := Lib.hid (ha2.trans (HA1.out.trans HA0.out))
 have HW2' := Lib.hid hk2
 have HG2' := Lib.hid (grow_of_but HG1.out hg2 (fun _ e => e))
 clear hw2 hk2 hg2 ha2 ck cz HW1 HG1 d0 d1 d2 d3 d4 d5 HA1
 try obtain ⟨d0, d1, d2, d3, d4, d5⟩ := blkRt HA2.out
 go_wp2_with fail
 with_reducible refine (HBk.out _ HG2'.out).mono ?_
 rintro e w3 ⟨rfl, hg⟩
 have HG3' := Lib.hid (HG2'.out.trans hg)
 have HW3' := Lib.hid (HW2'.out.grow (hg.block _ (by have := HW2'.out.2 0 (by omega); obtain ⟨v, hv⟩ := Option.isSome_iff_exists.1 this.1; exact block_lt hv)))
 clear hg HG2' HW2' d0 d1 d2 d3 d4 d5 HBk
 go_wp2_with fail
 rw [HW3'.out.run1]
 have hk2 := HW3'.out.put (p' := port)
 have hg2 := (GrowBut.refl (fun i => w.heap.size ≤ i) w3).setCells (b := w.heap.size + 1) (by show w.heap.size ≤ _; omega) 1 (sames 256 port)
 obtain ⟨w2, hw2⟩ : ∃ x, w3.setCells (w.heap.size + 1) 1 (sames 256 port) = x := ⟨_, rfl⟩
 rw [hw2] at hk2 hg2 ⊢
 have HW2 := Lib.hid hk2
 have HG2 := Lib.hid (grow_of_but HG3'.out hg2 (fun _ e => e))
 clear hk2 hg2 hw2
 go_wp2_with fail
 rename_i hK
 obtain ⟨dd, hdd, hrr⟩ := row127
 refine wp_load_mid 127 (.tmp 2) rfl (w.heap.size + 1) 0 rfl (wayL 3 port) dd HW2.out.1 hdd hrr (by rw [wayL_length]; exact size127) ?_
 refine hK _ _ ?_
 clear hK hdd hrr
 go_wp2_with fail
 rw [HW2.out.run]
 have hk3 := HW2.out.back (k' := 3) (p' := port)
 have hg3 := (GrowBut.refl (fun i => w.heap.size ≤ i) w2).setCells (b := w.heap.size + 1) (by show w.heap.size ≤ _; omega) 0 (wayL 3 port)
 obtain ⟨wz, hwz⟩ : ∃ x, w2.setCells (w.heap.size + 1) 0 (wayL 3 port) = x := ⟨_, rfl⟩
 rw [hwz] at hk3 hg3 ⊢
 have HW3 := Lib.hid hk3
 have HG3 := Lib.hid (grow_of_but HG2.out hg3 (fun _ e => e))
 clear hk3 hg3 hwz
 go_wp2_with fail
 have hlv := HW3.out.load
 refine bodyPost_ret (v := .tuple #[wayV 3 port, .int .i64 0]) (by simp [results, Tryz.results55, hlv, asAddr, Sem.run_bind]) rfl ⟨rfl, HG3.out⟩
end
end Go.Proofs.YtgckhdepnmiejaaGreat
namespace Go.Proofs.YtgckhdepnmiejaaGreat
section
set_option maxRecDepth 100000
open Go.RowKit
/-- A node's cells: its prefix, its way, whether it has one, the two below. -/
def nodeL (a l k p : Int) (has : Bool) (n0 n1 : Value) : List Value := .int .u32 a :: .int .i64 l :: (wayL k p ++ [.bool has, n0, n1])
def NodeAt (w : World) (N : Nat) (a l k p : Int) (has : Bool) (n0 n1 : Value) : Prop := w.heap[N]? = some (.cells (nodeL a l k p has n0 n1).toArray 168 (0, 0))
theorem built168 (a l k p : Int) : Tryz.prog.built 168 [(0, .agg #[.int .u32 a, .int .i64 l]), (1, .agg (wayL k p).toArray), (2, .bool true)] = some (nodeL a l k p true (.pointer none) (.pointer none)).toArray := by kernel_rfl
theorem built168f (a l : Int) : Tryz.prog.built 168 [(0, .agg #[.int .u32 a, .int .i64 l])] = some (nodeL a l 0 0 false (.pointer none) (.pointer none)).toArray := by kernel_rfl
@[go_sem] theorem build168 (a l k p : Int) (w : World) : (Instr.build 168 #[(0, .agg #[.int .u32 a, .int .i64 l]), (1, .agg (wayL k p).toArray), (2, .bool true)]).run Tryz.prog w = .ok (.agg (nodeL a l k p true (.pointer none) (.pointer none)).toArray) w := run_build w 168 _ _ (built168 a l k p)
@[go_sem] theorem build168f (a l : Int) (w : World) : (Instr.build 168 #[(0, .agg #[.int .u32 a, .int .i64 l])]).run Tryz.prog w = .ok (.agg (nodeL a l 0 0 false (.pointer none) (.pointer none)).toArray) w := run_build w 168 _ _ (built168f a l)
theorem wpList_build_as {P : Program} {ops : Array Oper} {rest : List Oper} {o : Oper} {a : Act} {w : World} {Q : Exit → Act → World → Prop} (hg : o.guard = none) (t : TypeId) (parts : Array (Nat × Operand)) (ho : o.op = .build t parts)
  (vs : List (Nat × Value)) (cells : Array Value) (hc : P.built t vs = some cells) (hv : (parts.map fun (i, x) => (i, a.eval x)).toList = vs)
  (h : wpList P ops Q rest (a.put o.dst (.agg cells)) w) : wpList P ops Q (o :: rest) a w := by
 subst hv
 refine wpList_build hg t parts ho (by rw [hc]; rfl) ?_
 rw [hc]
 exact h
end
end Go.Proofs.YtgckhdepnmiejaaGreat
namespace Go.Proofs.YtgckhdepnmiejaaGreat
section
set_option maxRecDepth 100000
open Go.RowKit
set_option maxHeartbeats 1000000 in
theorem insert0W {w : World} {T : Nat} {a k p lim : Int} (h : TrieAtW w T (.pointer none) lim 0) (hl : 0 < lim) (hm : ∀ x : World, Calls Tryz.prog 80 #[.agg #[.int .u32 a, .int .i64 8]] x fun e w' => e = .returned (.bool true) ∧ Grow x w') :
  Calls Tryz.prog 57 #[.pointer (some ⟨T, 0, none⟩), .agg #[.int .u32 a, .int .i64 8], wayV k p] w fun e w' => e = .returned (.int .i64 0) ∧ (∃ N, w.heap.size ≤ N ∧ NodeAt w' N a 8 k p true (.pointer none) (.pointer none) ∧ TrieAtW w' T (.pointer (some ⟨N, 0, none⟩)) lim 1) ∧ GrowBut (Only T) w w' := by
 have hlim : ¬ (lim ≤ 0) := by omega
 have hlim2 : decide (lim ≤ 0) = false := decide_eq_false hlim
 have hlim3 : (lim == 0) = false := by simp; omega
 have HM := Lib.hid hm
 have HT : Hid (w.heap[T]? = some (.cells #[.pointer none, .int .i64 lim, .int .i64 0, .bool true] 159 (0, 0))) := h
 have hsA : (w.alloc (.cells #[.int .u32 a, .int .i64 8] 35)).heap.size = w.heap.size + 1 := World.size_alloc _ _
 have hV := heap_alloc_new (w.alloc (.cells #[.int .u32 a, .int .i64 8] 35)) (.cells (wayL k p).toArray 127)
 rw [hsA] at hV
 have hN : ((w.alloc (.cells #[.int .u32 a, .int .i64 8] 35)).alloc (.cells (wayL k p).toArray 127)).heap[w.heap.size]? = some (.cells #[.int .u32 a, .int .i64 8] 35 (0, 0)) := (Below.heap_alloc _ _ _ (by rw [hsA]; exact Nat.lt_succ_self _)).trans (heap_alloc_new w _)
 have hG : Grow w ((w.alloc (.cells #[.int .u32 a, .int .i64 8] 35)).alloc (.cells (wayL k p).toArray 127)) := ((Grow.refl w).alloc _).alloc _
 unfold wayV
 clear h hm hl hsA
 go_enter Tryz.func57, Tryz.ntmps57
 go_wp2_with fail
 obtain ⟨w0, hw0⟩ : ∃ x, (w.alloc (.cells #[.int .u32 a, .int .i64 8] 35)).alloc (.cells (wayL k p).toArray 127) = x := ⟨_, rfl⟩
 rw [hw0] at hV hN hG ⊢
 have HV0 := Lib.hid hV
 have HN0 := Lib.hid hN
 have HG0 := Lib.hid hG
 have HT0 := Lib.hid ((hG.block _ (lt_of_block HT.out)).trans HT.out)
 clear hw0 hV hN hG
 have hq := thereW (root := .pointer none) (limit := lim) (n := 0) HT0.out
 with_reducible refine hq.mono ?_
 clear hq
 rintro e w1 ⟨rfl, rfl⟩
 obtain ⟨d0, d1⟩ := blk2c HN0.out
 go_wp2_with fail
 with_reducible refine (HM.out _).mono ?_
 rintro e w2 ⟨rfl, hg⟩
 have HT1 := Lib.hid ((hg.block _ (lt_of_block HT0.out)).trans HT0.out)
 have HN1 := Lib.hid ((hg.block _ (lt_of_block HN0.out)).trans HN0.out)
 have HV1 := Lib.hid ((hg.block _ (lt_of_block HV0.out)).trans HV0.out)
 have HG1 := Lib.hid (HG0.out.trans hg)
 clear hg HT0 HN0 HV0 HG0 HM d0 d1
 obtain ⟨d0, d1⟩ := blk2c HN1.out
 go_wp2_with fail
 have hq := place0W (a := a) (l := 8) (limit := lim) (n := 0) HT1.out
 with_reducible refine hq.mono ?_
 clear hq
 rintro e w3 ⟨rfl, hg⟩
 have HT2 := Lib.hid ((hg.block _ (lt_of_block HT1.out)).trans HT1.out)
 have HN2 := Lib.hid ((hg.block _ (lt_of_block HN1.out)).trans HN1.out)
 have HV2 := Lib.hid ((hg.block _ (lt_of_block HV1.out)).trans HV1.out)
 have HG2 := Lib.hid (HG1.out.trans hg)
 clear hg HT1 HN1 HV1 HG1 d0 d1
 obtain ⟨⟨c0, c1, c2, c3⟩, _⟩ := blk4 HT2.out
 go_wp2_with fail
 clear c0 c1 c2 c3
 refine wpRg 16 ?_
 simp only [List.take_succ_cons, List.take_zero, List.drop_succ_cons, List.drop_zero]
 repeat (refine wpHp fun K hK => ?_; go_simp; refine hK _ ?_; clear hK K)
 refine wpH_nil ?_
 intro xs w4 hg hx1 hx2
 have HT3 := Lib.hid ((hg.below.block _ (lt_of_block HT2.out)).trans HT2.out)
 have HN3 := Lib.hid ((hg.below.block _ (lt_of_block HN2.out)).trans HN2.out)
 have HV3 := Lib.hid ((hg.below.block _ (lt_of_block HV2.out)).trans HV2.out)
 have HG3 := Lib.hid (HG2.out.trans hg.below)
 clear hg hx1 hx2 HT2 HN2 HV2 HG2
 simp only [fill]
 go_simp
 go_wp2_with fail
 refine wpRg 9 ?_
 simp only [List.take_succ_cons, List.take_zero, List.drop_succ_cons, List.drop_zero]
 repeat (refine wpHp fun K hK => ?_; go_simp; refine hK _ ?_; clear hK K)
 refine wpHd (.int .i64 0) (fun w' hg => ?_) ?_
 ·obtain ⟨⟨y0, y1, y2, y3⟩, _⟩ := blk4 ((hg.below.block _ (lt_of_block HT3.out)).trans HT3.out)
  clear hg
  go_simp
  exact Below.refl _ _
 try go_simp
 repeat (refine wpHp fun K hK => ?_; go_simp; refine hK _ ?_; clear hK K)
 refine wpHd (.int .i64 lim) (fun w' hg => ?_) ?_
 ·obtain ⟨⟨y0, y1, y2, y3⟩, _⟩ := blk4 ((hg.below.block _ (lt_of_block HT3.out)).trans HT3.out)
  clear hg
  go_simp
  exact Below.refl _ _
 try go_simp
 repeat (refine wpHp fun K hK => ?_; go_simp; refine hK _ ?_; clear hK K)
 refine wpH_nil ?_
 intro xs w5 hg hx1 hx2
 have HT4 := Lib.hid ((hg.below.block _ (lt_of_block HT3.out)).trans HT3.out)
 have HN4 := Lib.hid ((hg.below.block _ (lt_of_block HN3.out)).trans HN3.out)
 have HV4 := Lib.hid ((hg.below.block _ (lt_of_block HV3.out)).trans HV3.out)
 have HG4 := Lib.hid (HG3.out.trans hg.below)
 clear hg hx1 hx2 HT3 HN3 HV3 HG3
 simp only [fill]
 go_simp
 obtain ⟨⟨c0, c1, c2, c3⟩, cz⟩ := blk4 HT4.out
 have cz2 := cz 2
 have HLT : Hid (T < w.heap.size) := lt_of_block HT.out
 go_wp2_with fail
 obtain ⟨w6, hw6⟩ : ∃ x, w5.setCell ⟨T, 2, none⟩ (.int .i64 1) = x := ⟨_, rfl⟩
 have hT5 : (w5.setCell ⟨T, 2, none⟩ (.int .i64 1)).heap[T]? = some (.cells #[.pointer none, .int .i64 lim, .int .i64 1, .bool true] 159 (0, 0)) := heap_setCell_same _ _ 2 _ _ _ HT4.out
 have hN5 := (Below.heap_setCell w5 ⟨T, 2, none⟩ (.int .i64 1) w.heap.size (show w.heap.size ≠ T by have := HLT.out; omega)).trans HN4.out
 have hV5 := (Below.heap_setCell w5 ⟨T, 2, none⟩ (.int .i64 1) (w.heap.size + 1) (show w.heap.size + 1 ≠ T by have := HLT.out; omega)).trans HV4.out
 have hG5 : GrowBut (Only T) w (w5.setCell ⟨T, 2, none⟩ (.int .i64 1)) := (only_of HG4.out).trans (only_set _)
 rw [hw6] at hT5 hN5 hV5 hG5 ⊢
 have HT5 := Lib.hid hT5
 have HN5 := Lib.hid hN5
 have HV5 := Lib.hid hV5
 have HG5 := Lib.hid hG5
 clear hw6 hT5 hN5 hV5 hG5 c0 c1 c2 c3 cz cz2 HT4 HN4 HV4 HG4
 refine wpRg 10 ?_
 simp only [List.take_succ_cons, List.take_zero, List.drop_succ_cons, List.drop_zero]
 repeat (refine wpHp fun K hK => ?_; go_simp; refine hK _ ?_; clear hK K)
 refine wpH_nil ?_
 intro xs w7 hg hx1 hx2
 have HT6 := Lib.hid ((hg.below.block _ (lt_of_block HT5.out)).trans HT5.out)
 have HN6 := Lib.hid ((hg.below.block _ (lt_of_block HN5.out)).trans HN5.out)
 have HV6 := Lib.hid ((hg.below.block _ (lt_of_block HV5.out)).trans HV5.out)
 have HG6 : Hid (GrowBut (Only T) w w7) := HG5.out.trans (GrowBut.of_below hg.below)
 clear hg hx1 hx2 HT5 HN5 HV5 HG5
 simp only [fill]
 go_simp
 obtain ⟨d0, d1⟩ := blk2c HN6.out
 have HW6 := Lib.hid (WayIn.of_heap HV6.out)
 have HLT6 : Hid (T < w7.heap.size) := lt_of_block HT6.out
 go_wp2_with fail
 rename_i hK
 obtain ⟨dd, hdd, hrr⟩ := row127
 refine wp_load_mid 127 (.tmp 5) rfl (w.heap.size + 1) 0 rfl (wayL k p) dd HW6.out.1 hdd hrr (by rw [wayL_length]; exact size127) ?_
 refine hK _ _ ?_
 clear hK hdd hrr
 refine wpList_build_as rfl 168 _ rfl _ _ (built168 a 8 k p) (by simp only [Act.eval, List.map_toArray, List.map]; simp only [go_sem]; try rfl) ?_
 obtain ⟨nd, hnd⟩ : ∃ x, x = Obj.cells (nodeL a 8 k p true (.pointer none) (.pointer none)).toArray 168 := ⟨_, rfl⟩
 have hN8 := heap_alloc_new w7 nd
 have hT8 := (Below.heap_alloc w7 nd T HLT6.out).trans HT6.out
 rw [hnd] at hT8 hN8
 have HN8 := Lib.hid hN8
 have HT8 := Lib.hid hT8
 obtain ⟨⟨c0, c1, c2, c3⟩, cz⟩ := blk4 hT8
 have cz0 := cz 0
 clear hnd hN8 hT8 cz
 go_wp2_with fail
 have hne : w7.heap.size ≠ T := by have := HLT6.out; omega
 have hsz : w.heap.size ≤ w7.heap.size := HG6.out.size
 have hN9 := (Below.heap_setCell (w7.alloc (Obj.cells (nodeL a 8 k p true (.pointer none) (.pointer none)).toArray 168)) ⟨T, 0, none⟩ (.pointer (some ⟨w7.heap.size, 0, none⟩)) w7.heap.size hne).trans HN8.out
 have hT9 := heap_setCell_same _ _ 0 _ _ (.pointer (some ⟨w7.heap.size, 0, none⟩)) HT8.out
 have hG9 : GrowBut (Only T) w ((w7.alloc (Obj.cells (nodeL a 8 k p true (.pointer none) (.pointer none)).toArray 168)).setCell ⟨T, 0, none⟩ (.pointer (some ⟨w7.heap.size, 0, none⟩))) := (HG6.out.trans (only_of ((Grow.refl _).alloc _))).trans (only_set _)
 refine bodyPost_ret (v := .int .i64 0) (by simp [results, Tryz.results57, go_sem]) rfl ?_
 exact ⟨rfl, ⟨_, hsz, hN9, hT9⟩, hG9⟩
end
end Go.Proofs.YtgckhdepnmiejaaGreat
namespace Go.Proofs.YtgckhdepnmiejaaGreat
section
set_option maxRecDepth 100000
open Go.RowKit
set_option maxHeartbeats 1000000 in
theorem get0W {w : World} {T : Nat} {a lim n : Int} (h : TrieAtW w T (.pointer none) lim n) (hm : ∀ x : World, Calls Tryz.prog 80 #[.agg #[.int .u32 a, .int .i64 8]] x fun e w' => e = .returned (.bool true) ∧ Grow x w') :
  Calls Tryz.prog 56 #[.pointer (some ⟨T, 0, none⟩), .agg #[.int .u32 a, .int .i64 8]] w fun e w' => e = .returned (.tuple #[wayV 0 0, .bool false]) ∧ Grow w w' := by
 have HM := Lib.hid hm
 have HT : Hid (w.heap[T]? = some (.cells #[.pointer none, .int .i64 lim, .int .i64 n, .bool true] 159 (0, 0))) := h
 have hsA : (w.alloc (.cells #[.int .u32 a, .int .i64 8] 35)).heap.size = w.heap.size + 1 := World.size_alloc _ _
 have hV := heap_alloc_new (w.alloc (.cells #[.int .u32 a, .int .i64 8] 35)) (.cells Tryz.zeroCells127 127)
 rw [hsA] at hV
 have hN : ((w.alloc (.cells #[.int .u32 a, .int .i64 8] 35)).alloc (.cells Tryz.zeroCells127 127)).heap[w.heap.size]? = some (.cells #[.int .u32 a, .int .i64 8] 35 (0, 0)) := (Below.heap_alloc _ _ _ (by rw [hsA]; exact Nat.lt_succ_self _)).trans (heap_alloc_new w _)
 have hG : Grow w ((w.alloc (.cells #[.int .u32 a, .int .i64 8] 35)).alloc (.cells Tryz.zeroCells127 127)) := ((Grow.refl w).alloc _).alloc _
 clear h hm hsA
 go_enter Tryz.func56, Tryz.ntmps56
 go_wp2_with fail
 obtain ⟨w0, hw0⟩ : ∃ x, (w.alloc (.cells #[.int .u32 a, .int .i64 8] 35)).alloc (.cells Tryz.zeroCells127 127) = x := ⟨_, rfl⟩
 rw [hw0] at hV hN hG ⊢
 rw [zero127] at hV
 have HV0 := Lib.hid hV
 have HN0 := Lib.hid hN
 have HG0 := Lib.hid hG
 have HT0 := Lib.hid ((hG.block _ (lt_of_block HT.out)).trans HT.out)
 clear hw0 hV hN hG
 have hq := thereW (root := .pointer none) (limit := lim) (n := n) HT0.out
 with_reducible refine hq.mono ?_
 clear hq
 rintro e w1 ⟨rfl, rfl⟩
 obtain ⟨d0, d1⟩ := blk2c HN0.out
 go_wp2_with fail
 with_reducible refine (HM.out _).mono ?_
 rintro e w2 ⟨rfl, hg⟩
 have HT1 := Lib.hid ((hg.block _ (lt_of_block HT0.out)).trans HT0.out)
 have HN1 := Lib.hid ((hg.block _ (lt_of_block HN0.out)).trans HN0.out)
 have HV1 := Lib.hid ((hg.block _ (lt_of_block HV0.out)).trans HV0.out)
 have HG1 := Lib.hid (HG0.out.trans hg)
 clear hg HT0 HN0 HV0 HG0 HM d0 d1
 obtain ⟨d0, d1⟩ := blk2c HN1.out
 go_wp2_with fail
 have hq := place0W (a := a) (l := 8) (limit := lim) (n := n) HT1.out
 with_reducible refine hq.mono ?_
 clear hq
 rintro e w3 ⟨rfl, hg⟩
 have HT2 := Lib.hid ((hg.block _ (lt_of_block HT1.out)).trans HT1.out)
 have HN2 := Lib.hid ((hg.block _ (lt_of_block HN1.out)).trans HN1.out)
 have HV2 := Lib.hid ((hg.block _ (lt_of_block HV1.out)).trans HV1.out)
 have HG2 := Lib.hid (HG1.out.trans hg)
 clear hg HT1 HN1 HV1 HG1 d0 d1
 obtain ⟨⟨c0, c1, c2, c3⟩, _⟩ := blk4 HT2.out
 go_wp2_with fail
 clear c0 c1 c2 c3
 refine wpRg 17 ?_
 simp only [List.take_succ_cons, List.take_zero, List.drop_succ_cons, List.drop_zero]
 repeat (refine wpHp fun K hK => ?_; go_simp; refine hK _ ?_; clear hK K)
 refine wpH_nil ?_
 intro xs w4 hg hx1 hx2
 have HV3 := Lib.hid ((hg.below.block _ (lt_of_block HV2.out)).trans HV2.out)
 have HG3 := Lib.hid (HG2.out.trans hg.below)
 clear hg hx1 hx2 HT2 HN2 HV2 HG2
 simp only [fill]
 go_simp
 have HW3 := Lib.hid (WayIn.of_heap HV3.out)
 go_wp2_with fail
 rename_i hK
 obtain ⟨dd, hdd, hrr⟩ := row127
 refine wp_load_mid 127 (.tmp 4) rfl (w.heap.size + 1) 0 rfl (wayL 0 0) dd HW3.out.1 hdd hrr (by rw [wayL_length]; exact size127) ?_
 refine hK _ _ ?_
 clear hK hdd hrr
 go_wp2_with fail
 rw [HW3.out.run]
 have hk3 := HW3.out.back (k' := 0) (p' := 0)
 have hg3 := (GrowBut.refl (fun i => w.heap.size ≤ i) w4).setCells (b := w.heap.size + 1) (by show w.heap.size ≤ _; omega) 0 (wayL 0 0)
 obtain ⟨wz, hwz⟩ : ∃ x, w4.setCells (w.heap.size + 1) 0 (wayL 0 0) = x := ⟨_, rfl⟩
 rw [hwz] at hk3 hg3 ⊢
 have HW4 := Lib.hid hk3
 have HG4 := Lib.hid (grow_of_but HG3.out hg3 (fun _ e => e))
 clear hk3 hg3 hwz
 go_wp2_with fail
 have hlv := HW4.out.load
 refine bodyPost_ret (v := .tuple #[wayV 0 0, .bool false]) (by simp [results, Tryz.results56, hlv, asAddr, Sem.run_bind]) rfl ⟨rfl, HG4.out⟩
end
end Go.Proofs.YtgckhdepnmiejaaGreat
namespace Go.Proofs.YtgckhdepnmiejaaGreat
section
set_option maxRecDepth 100000
open Go.RowKit
theorem only_of' {M : Nat → Prop} {w w' : World} (h : Grow w w') : GrowBut M w w' := GrowBut.of_below h
theorem mild_load_way {o : Oper} {a : Act} {w : World} {A : Nat} {k p : Int} (x : Operand) (ho : o.op = .load 127 x) (hx : a.eval x = .pointer (some ⟨A, 0, none⟩)) (h : WayIn w A k p) : mildAt Tryz.prog o a w (fun u _ => u = .agg (wayL k p).toArray) (fun w' => Below w.heap.size w w') := by
 unfold mildAt execOp
 simp only [ho, hx, Instr.loadAt, Instr.sureAddr, Sem.run_bind, Sem.run_pure, Result.andThen_ok, h.load]
 exact ⟨rfl, Below.refl _ _⟩
/-- A table of one entry. -/
def Fib1 (w : World) (F : Nat) (a k p : Int) : Prop := ∃ T N, w.heap[F]? = some (.cells #[.pointer (some ⟨T, 0, none⟩)] 129 (0, 0)) ∧ TrieAtW w T (.pointer (some ⟨N, 0, none⟩)) 1 1 ∧ NodeAt w N a 8 k p true (.pointer none) (.pointer none)
set_option maxHeartbeats 1000000 in
theorem make1 {w : World} {a port dist d : Int} {nb no nc rb ro rc : Nat} (hm : ∀ x : World, Calls Tryz.prog 80 #[.agg #[.int .u32 a, .int .i64 8]] x fun e w' => e = .returned (.bool true) ∧ Grow x w')
  (hc0 : w.cell? ⟨nb, no, none⟩ = some (.int .i64 port)) (hc1 : w.cell? ⟨nb, no + 1, none⟩ = some (.int .i64 d)) (hp : 0 ≤ port ∧ port < 8) (hd : d = 1 ∨ d = 3) (hnc : 1 ≤ nc) (hrc : 1 ≤ rc)
  (r0 : w.cell? ⟨rb, ro, none⟩ = some (.int .u32 a)) (r1 : w.cell? ⟨rb, ro + 1, none⟩ = some (.int .i64 8)) (r2 : w.cell? ⟨rb, ro + 2, none⟩ = some (.bool false)) (r3 : w.cell? ⟨rb, ro + 3, none⟩ = some (.bool true)) (r4 : w.cell? ⟨rb, ro + 4, none⟩ = some (.int .i64 dist)) (r5 : w.cell? ⟨rb, ro + 5, none⟩ = some (.slice (some ⟨nb, no, none⟩) 1 nc)) :
  Calls Tryz.prog 37 #[.slice (some ⟨rb, ro, none⟩) 1 rc] w fun e w' => ∃ F, e = .returned (.tuple #[.pointer (some ⟨F, 0, none⟩), .int .i64 0]) ∧ Fib1 w' F a 3 port ∧ w.heap.size ≤ F ∧ Grow w w' := by
 have HM := Lib.hid hm
 have HE : Hid (∀ x, Grow w x → Calls Tryz.prog 55 #[.agg #[.int .u32 a, .int .i64 8, .bool false, .bool true, .int .i64 dist, .slice (some ⟨nb, no, none⟩) 1 nc]] x fun e w' => e = .returned (.tuple #[wayV 3 port, .int .i64 0]) ∧ Grow x w') := fun x hx => entry_one hm ((hx.cell (block_lt hc0)).trans hc0) ((hx.cell (block_lt hc1)).trans hc1) hp hd hnc
 have HR : Hid (∀ x, Grow w x → (x.cell? ⟨rb, ro, none⟩ = some (.int .u32 a) ∧ x.cell? ⟨rb, ro + 1, none⟩ = some (.int .i64 8) ∧ x.cell? ⟨rb, ro + 2, none⟩ = some (.bool false)) ∧ x.cell? ⟨rb, ro + 3, none⟩ = some (.bool true) ∧ x.cell? ⟨rb, ro + 4, none⟩ = some (.int .i64 dist) ∧ x.cell? ⟨rb, ro + 5, none⟩ = some (.slice (some ⟨nb, no, none⟩) 1 nc)) := fun x hx => ⟨⟨(hx.cell (block_lt r0)).trans r0, (hx.cell (block_lt r1)).trans r1, (hx.cell (block_lt r2)).trans r2⟩, (hx.cell (block_lt r3)).trans r3, (hx.cell (block_lt r4)).trans r4, (hx.cell (block_lt r5)).trans r5⟩
 clear hm hc0 hc1 hp hd hnc r0 r1 r2 r3 r4 r5
 go_enter Tryz.func37, Tryz.ntmps37
 go_wp2_with fail
 have hq := newW 1 w (by omega)
 rw [show ((1 : Nat) : Int) = 1 from rfl] at hq
 with_reducible refine hq.mono ?_
 clear hq
 rintro e w1 ⟨T, rfl, ht, hsz, hg⟩
 have HT1 := Lib.hid ht
 have HS1 : Hid (w.heap.size ≤ T) := hsz
 have HG1 := Lib.hid hg
 clear ht hsz hg
 go_wp2_with fail
 obtain ⟨w2, hw2⟩ : ∃ x, w1.alloc (.cells #[.pointer (some ⟨T, 0, none⟩)] 129) = x := ⟨_, rfl⟩
 have hF := heap_alloc_new w1 (.cells #[.pointer (some ⟨T, 0, none⟩)] 129)
 have hg : Grow w1 (w1.alloc (.cells #[.pointer (some ⟨T, 0, none⟩)] 129)) := (Grow.refl w1).alloc _
 rw [hw2] at hF hg ⊢
 have HF2 := Lib.hid hF
 have HT2 : Hid (w2.heap[T]? = _) := (hg.block _ (lt_of_block HT1.out)).trans HT1.out
 have HLT : Hid (T < w1.heap.size) := lt_of_block HT1.out
 have HG2 := Lib.hid (HG1.out.trans hg)
 have HSF : Hid (w.heap.size ≤ w1.heap.size) := HG1.out.size
 obtain ⟨F, hFe⟩ : ∃ x, w1.heap.size = x := ⟨_, rfl⟩
 rw [hFe] at HF2 HLT HSF ⊢
 clear hF hg hw2 HT1 HG1 hFe
 obtain ⟨⟨r0, r1, r2⟩, r3, r4, r5⟩ := HR.out _ HG2.out
 clear HR
 refine wp_loop_rounds 2 ?_
 rw [rounds_succ]
 go_wp2_with fail
 obtain ⟨w3, hw3⟩ : ∃ x, w2.alloc (.cells #[.int .u32 a, .int .i64 8, .bool false, .bool true, .int .i64 dist, .slice (some ⟨nb, no, none⟩) 1 nc] 40) = x := ⟨_, rfl⟩
 have hR := heap_alloc_new w2 (.cells #[.int .u32 a, .int .i64 8, .bool false, .bool true, .int .i64 dist, .slice (some ⟨nb, no, none⟩) 1 nc] 40)
 have hg : Grow w2 (w2.alloc (.cells #[.int .u32 a, .int .i64 8, .bool false, .bool true, .int .i64 dist, .slice (some ⟨nb, no, none⟩) 1 nc] 40)) := (Grow.refl w2).alloc _
 rw [hw3] at hR hg ⊢
 obtain ⟨R, hRe⟩ : ∃ x, w2.heap.size = x := ⟨_, rfl⟩
 have HLF : Hid (F < R ∧ T < R) := by rw [← hRe]; exact ⟨lt_of_block HF2.out, lt_of_block HT2.out⟩
 rw [hRe] at hR ⊢
 with_reducible refine (HE.out _ (HG2.out.trans hg)).mono ?_
 rintro e w4 ⟨rfl, hg4⟩
 have HR4 := Lib.hid ((hg4.block _ (lt_of_block hR)).trans hR)
 have HF4 := Lib.hid (((hg.trans hg4).block _ (lt_of_block HF2.out)).trans HF2.out)
 have HT4 := Lib.hid (((hg.trans hg4).block _ (lt_of_block HT2.out)).trans HT2.out)
 have HG4 := Lib.hid (HG2.out.trans (hg.trans hg4))
 clear hR hg hw3 hg4 hRe HE HF2 HT2 HG2 r0 r1 r2 r3 r4 r5
 unfold wayV
 have hst := run_storeCells_new (P := Tryz.prog) w4 127 Tryz.zeroCells127 (wayL 3 port).toArray (by simpa [wayL_length] using size127) (by rw [zero127]; simp [wayL_length]) (all_oneCell_toArray (wayL_one 3 port))
 try simp only [List.toList_toArray] at hst
 have HSt := Lib.hid hst
 clear hst
 go_wp2_with fail
 rw [HSt.out]
 obtain ⟨w5, hw5⟩ : ∃ x, w4.alloc (.cells (wayL 3 port).toArray 127) = x := ⟨_, rfl⟩
 have hW := heap_alloc_new w4 (.cells (wayL 3 port).toArray 127)
 have hg : Grow w4 (w4.alloc (.cells (wayL 3 port).toArray 127)) := (Grow.refl w4).alloc _
 rw [hw5] at hW hg ⊢
 obtain ⟨V, hVe⟩ : ∃ x, w4.heap.size = x := ⟨_, rfl⟩
 rw [hVe] at hW ⊢
 have HW5 := Lib.hid hW
 have HR5 := Lib.hid ((hg.block _ (lt_of_block HR4.out)).trans HR4.out)
 have HF5 := Lib.hid ((hg.block _ (lt_of_block HF4.out)).trans HF4.out)
 have HT5 := Lib.hid ((hg.block _ (lt_of_block HT4.out)).trans HT4.out)
 have HG5 := Lib.hid (HG4.out.trans hg)
 clear hW hg hw5 hVe HSt HR4 HF4 HT4 HG4
 go_wp2_with fail
 have HGt : Hid (∀ x, Grow w5 x → Calls Tryz.prog 56 #[.pointer (some ⟨T, 0, none⟩), .agg #[.int .u32 a, .int .i64 8]] x fun e w' => e = .returned (.tuple #[wayV 0 0, .bool false]) ∧ Grow x w') := fun x hx => get0W (lim := 1) (n := 0) ((hx.block _ (lt_of_block HT5.out)).trans HT5.out) HM.out
 have HG55 : Hid (∀ x, GrowBut (fun i => w5.heap.size ≤ i) w5 x → Grow w5 x) := fun x hx => grow_of_but (Grow.refl _) hx (fun _ e => e)
 refine K.wp_region_grow 12 [10, 11] (fun i => w5.heap.size ≤ i) (fun _ => True) (by kernel_rfl) (by kernel_rfl) (by rfl) (fun _ _ _ _ => trivial) trivial ?_
 simp only [List.take_succ_cons, List.take_zero, List.drop_succ_cons, List.drop_zero]
 repeat (refine K.wpH_pure (by intro _ _ h; cases h) (by rfl) (by rfl) (fun K hK => ?_); go_simp; refine hK _ ?_; clear hK K)
 refine K.wpH_sdet' (.pointer (some ⟨T, 0, none⟩)) (by intro _ _ h; cases h) (by rfl) (by rfl) (by rfl) (fun ys w' hg hC => ?_) ?_
 ·have hf := ((HG55.out _ hg).block _ (lt_of_block HF5.out)).trans HF5.out
  have y0 : w'.cell? ⟨F, 0, none⟩ = some (.pointer (some ⟨T, 0, none⟩)) := by simp [World.cell?, hf]
  clear hg hf hC
  go_simp
  exact Below.refl _ _
 try go_simp
 repeat (refine K.wpH_pure (by intro _ _ h; cases h) (by rfl) (by rfl) (fun K hK => ?_); go_simp; refine hK _ ?_; clear hK K)
 refine K.wpH_sdet' (.agg #[.int .u32 a, .int .i64 8]) (by intro _ _ h; cases h) (by rfl) (by rfl) (by rfl) (fun ys w' hg hC => ?_) ?_
 ·obtain ⟨y0, y1, _⟩ := blkRt (((HG55.out _ hg).block _ (lt_of_block HR5.out)).trans HR5.out)
  clear hg hC
  go_simp
  exact Below.refl _ _
 try go_simp
 refine K.wpH_sdet' (.tuple #[wayV 0 0, .bool false]) (by intro _ _ h; cases h) (by rfl) (by rfl) (by rfl) (fun ys w' hg hC => ?_) ?_
 ·have h := HGt.out w' (HG55.out _ hg)
  clear hg hC
  go_simp
  with_reducible refine h.mono ?_
  rintro e w1 ⟨rfl, hg⟩
  exact ⟨_, rfl, rfl, hg⟩
 unfold wayV
 try go_simp
 repeat (refine K.wpH_pure (by intro _ _ h; cases h) (by rfl) (by rfl) (fun K hK => ?_); go_simp; refine hK _ ?_; clear hK K)
 refine K.wpH_chid (d := 9) (fun u _ => ∃ b, u = .pointer (some ⟨b, 0, none⟩)) (fun ys x => ∃ b, ys 9 = .pointer (some ⟨b, 0, none⟩) ∧ w5.heap.size ≤ b ∧ x.heap[b]? = some (.cells Tryz.zeroCells127 127 (0, 0))) rfl (by rfl) (fun u x x' hg h => h)
  (fun ys x x' hb hx => by obtain ⟨b, h1, h2, h3⟩ := hx; exact ⟨b, h1, h2, (hb.block _ (lt_of_block h3)).trans h3⟩) (fun ys zs x he hx => by have := he 10 _ 9 (by decide) (by decide) rfl rfl; dsimp only at hx ⊢; rw [← this]; exact hx) (fun xs => by rfl) (fun ys w' hg hC hf => ?_) ?_
 ·have hn := heap_alloc_new w' (.cells Tryz.zeroCells127 127)
  have HS : Hid (∃ b, K.upd ys (some 9) (.pointer (some ⟨w'.heap.size, 0, none⟩)) 9 = .pointer (some ⟨b, 0, none⟩) ∧ w5.heap.size ≤ b ∧ (w'.alloc (.cells Tryz.zeroCells127 127)).heap[b]? = some (.cells Tryz.zeroCells127 127 (0, 0))) := ⟨_, by unfold K.upd; simp, hg.size, hn⟩
  clear hg hC hf hn
  try simp only [fill]
  go_simp
  first | exact ⟨⟨⟨_, rfl⟩, HS.out⟩, only_of' ((Grow.refl _).alloc _)⟩ | exact ⟨HS.out, only_of' ((Grow.refl _).alloc _)⟩
 try go_simp
 refine K.wpH_cdet undef (fun _ _ => True) (by rfl) (fun _ _ _ _ _ => trivial) (fun _ _ _ _ _ => trivial) (fun xs => by rfl) (fun ys w' hg hC hf => ?_) ?_
 ·obtain ⟨b, h1, h2, h3⟩ := hC
  have h30 := h3
  rw [zero127] at h30
  have hw := (WayIn.of_heap h30).run (k' := 0) (p' := 0)
  have HX : Hid (GrowBut (fun i => w5.heap.size ≤ i) w' (w'.setCells b 0 (wayL 0 0))) := (GrowBut.refl _ _).setCells h2 0 _
  clear hf hg h30 h3 h2
  simp only [fill]
  try dsimp only at h1
  generalize ys 9 = y9 at *
  subst h1
  go_simp
  try rw [hw]
  try go_simp
  exact HX.out
 refine K.wpH_nil ?_
 intro ys w6 hg hC hx
 have HG6 := Lib.hid (HG5.out.trans (HG55.out _ hg))
 have HF6 := Lib.hid (((HG55.out _ hg).block _ (lt_of_block HF5.out)).trans HF5.out)
 have HT6 := Lib.hid (((HG55.out _ hg).block _ (lt_of_block HT5.out)).trans HT5.out)
 have HR6 := Lib.hid (((HG55.out _ hg).block _ (lt_of_block HR5.out)).trans HR5.out)
 have HW6 := Lib.hid (((HG55.out _ hg).block _ (lt_of_block HW5.out)).trans HW5.out)
 clear hg hC hx HGt HG55 HF5 HT5 HR5 HW5 HG5
 simp only [fill]
 generalize ys 9 = y9 at *
 go_simp
 go_wp2_with fail
 refine wpRg 7 ?_
 simp only [List.take_succ_cons, List.take_zero, List.drop_succ_cons, List.drop_zero]
 repeat (refine wpHp fun K hK => ?_; go_simp; refine hK _ ?_; clear hK K)
 refine wpHd (.pointer (some ⟨T, 0, none⟩)) (fun w' hg => ?_) ?_
 ·have hf := (hg.below.block _ (lt_of_block HF6.out)).trans HF6.out
  have y0 : w'.cell? ⟨F, 0, none⟩ = some (.pointer (some ⟨T, 0, none⟩)) := by simp [World.cell?, hf]
  clear hg hf
  go_simp
  exact Below.refl _ _
 try go_simp
 repeat (refine wpHp fun K hK => ?_; go_simp; refine hK _ ?_; clear hK K)
 refine wpHd (.agg #[.int .u32 a, .int .i64 8]) (fun w' hg => ?_) ?_
 ·obtain ⟨y0, y1, _⟩ := blkRt ((hg.below.block _ (lt_of_block HR6.out)).trans HR6.out)
  clear hg
  go_simp
  exact Below.refl _ _
 try go_simp
 refine wpHd (.agg (wayL 3 port).toArray) (fun w' hg => ?_) ?_
 ·exact mild_load_way _ (by rfl) (by rfl) (WayIn.of_heap ((hg.below.block _ (lt_of_block HW6.out)).trans HW6.out))
 try go_simp
 refine wpH_nil ?_
 intro xs w7 hg hx1 hx2
 have HF7 := Lib.hid ((hg.below.block _ (lt_of_block HF6.out)).trans HF6.out)
 have HT7 := Lib.hid ((hg.below.block _ (lt_of_block HT6.out)).trans HT6.out)
 have HG7 := Lib.hid (HG6.out.trans hg.below)
 clear hg hx1 hx2 HF6 HT6 HR6 HW6 HG6
 simp only [fill]
 go_simp
 go_wp2_with fail
 have hq := insert0W (lim := 1) (k := 3) (p := port) HT7.out (by omega) HM.out
 unfold wayV at hq
 with_reducible refine hq.mono ?_
 clear hq
 rintro e w8 ⟨rfl, ⟨N, hN, hn, ht⟩, hg⟩
 have HF8 := Lib.hid ((hg.block _ (lt_of_block HF7.out) (fun e => by have e : F = T := e; have := HLT.out; omega)).trans HF7.out)
 have HG8 := Lib.hid (grow_of_but HG7.out hg (fun i e => by rw [show i = T from e]; exact HS1.out))
 have HT8 := Lib.hid ht
 have HN8 := Lib.hid hn
 clear hg ht hn hN HF7 HT7 HG7
 go_wp2_with fail
 rw [rounds_succ]
 go_wp2_with fail
 refine bodyPost_ret (v := .tuple #[.pointer (some ⟨F, 0, none⟩), .int .i64 0]) (by simp [results, Tryz.results37, go_sem]) rfl ?_
 exact ⟨F, rfl, ⟨T, N, HF8.out, HT8.out, HN8.out⟩, HSF.out, HG8.out⟩
end
end Go.Proofs.YtgckhdepnmiejaaGreat
namespace Go.Proofs.YtgckhdepnmiejaaGreat
section
set_option maxRecDepth 100000
open Go.RowKit
set_option maxHeartbeats 1000000 in
theorem fibthere {w : World} {F : Nat} {T : Nat} (h : w.heap[F]? = some (.cells #[.pointer (some ⟨T, 0, none⟩)] 129 (0, 0))) : Calls Tryz.prog 123 #[.pointer (some ⟨F, 0, none⟩)] w fun e w' => e = .returned (.bool true) ∧ w' = w := by
 have c0 : w.cell? ⟨F, 0, none⟩ = some (.pointer (some ⟨T, 0, none⟩)) := by simp [World.cell?, h]
 clear h
 go_enter Tryz.func123, Tryz.ntmps123
 go_wp2_with fail
 go_ret
 exact ⟨by first | rfl | simp, rfl⟩
theorem sames_at {k : Nat} (hk : k < 256) (p : Int) : (sames 256 p)[k]? = some (.int .i64 p) := by unfold sames; rw [List.getElem?_replicate, if_pos hk]
set_option maxHeartbeats 1000000 in
theorem splitpick {w : World} {n : Nat} {port : Int} (hn : n < 4294967296) : Calls Tryz.prog 107 #[.agg (sames 256 port).toArray, .int .u32 n] w fun e w' => e = .returned (.int .i64 port) ∧ Grow w w' := by
 have hG : Hid (Grow w (w.alloc (.cells (sames 256 port).toArray 125))) := (Grow.refl w).alloc _
 have hV := heap_alloc_new w (.cells (sames 256 port).toArray 125)
 have HC : Hid (∀ k, k < 256 → (w.alloc (.cells (sames 256 port).toArray 125)).cell? ⟨w.heap.size, k, none⟩ = some (.int .i64 port)) := fun k hk => (cell_of_row _ _ k _ _ _ hV).trans (by simpa using sames_at hk port)
 have hlt : n % 256 < 256 := Nat.mod_lt _ (by decide)
 have hw1 : IntKind.u32.wrap ((n : Int) % 256) = ((n % 256 : Nat) : Int) := by rw [IntWalk.u32_in _ (by omega)]; omega
 have hw2 : (n : Int).tmod 256 = ((n % 256 : Nat) : Int) := by rw [Int.tmod_eq_emod_of_nonneg (by omega)]; omega
 have ck := HC.out _ hlt
 obtain ⟨m, hm⟩ : ∃ x, n % 256 = x := ⟨_, rfl⟩
 rw [hm] at ck hw1 hw2 hlt
 clear hV HC
 go_enter Tryz.func107, Tryz.ntmps107
 go_wp2_with fail
 go_ret
 exact ⟨by first | rfl | simp, hG.out⟩
end
end Go.Proofs.YtgckhdepnmiejaaGreat
