/- Packets go out, cut, if need be: run.out (and what stands on it). -/
import Derived.Laws.EntriesVeiled
import Derived.Test.YtgckhdepnmiejaaGreatZ04
import Derived.Test.YtgckhdepnmiejaaGreatZ05
import Derived.Test.YtgckhdepnmiejaaGreatZ06
import Derived.Test.YtgckhdepnmiejaaGreatZ07
import Derived.Test.YtgckhdepnmiejaaGreatZ10
set_option linter.unusedVariables false
set_option linter.unusedSimpArgs false
namespace Go.Proofs.YtgckhdepnmiejaaGreat
section
set_option maxRecDepth 100000
open Go.RowKit
def sentCells (port : Nat) (vs : List Value) : List Value := vs.flatMap fun x => [.int .i64 port, x]
theorem sentCells_snoc (port : Nat) (vs : List Value) (x : Value) : sentCells port (vs ++ [x]) = sentCells port vs ++ [.int .i64 port, x] := by simp [sentCells]
/-- Packets that go out by a port. -/
def OutRow (w : World) (base : Nat) (v : Value) (port : Nat) (rows : List (List Int)) : Prop :=
 ∃ vs : List Value, vs.length = rows.length ∧ w.ownsRow base 52 2 v vs.length (sentCells port vs) ∧ ∀ i, i < rows.length → w.ownsRow base 5 1 (vs.getD i undef) (rows.getD i []).length ((rows.getD i []).map (Value.int .u8)) ∧ Bytes (rows.getD i [])
theorem OutRow.but {M : Nat → Prop} {w w' : World} {base port : Nat} {v : Value} {rows : List (List Int)} (h : OutRow w base v port rows) (hg : GrowBut M w w') (hm : ∀ k, M k → k < base) : OutRow w' base v port rows := by
 obtain ⟨vs, h1, h2, h3⟩ := h
 exact ⟨vs, h1, own_but h2 hg hm, fun i hi => ⟨own_but (h3 i hi).1 hg hm, (h3 i hi).2⟩⟩
theorem OutRow.mono {w w' : World} {base port : Nat} {v : Value} {rows : List (List Int)} (h : OutRow w base v port rows) (hg : Grow w w') : OutRow w' base v port rows := by
 obtain ⟨vs, h1, h2, h3⟩ := h
 exact ⟨vs, h1, own_grow h2 hg, fun i hi => ⟨own_grow (h3 i hi).1 hg, (h3 i hi).2⟩⟩
theorem OutRow.shape {w : World} {base port : Nat} {v : Value} {rows : List (List Int)} (h : OutRow w base v port rows) : ∃ a c, v = .slice a rows.length c := by
 obtain ⟨vs, h1, h2, h3⟩ := h
 rcases h2.2 with ⟨rfl, h0⟩ | ⟨g, cap, cur, rfl, _⟩
 ·exact ⟨none, 0, by rw [← h1, h0]⟩
 ·exact ⟨_, cap, by rw [h1]⟩
theorem frags_long {h : Hd} (r : Raw h) (pl : List Int) (M : Nat) : ∀ i, i < (frags h pl M).length → 20 ≤ ((frags h pl M).getD i []).length := by
 intro i hi
 have hm : (frags h pl M).getD i [] ∈ frags h pl M := by
  rw [List.getD_eq_getElem?_getD, List.getElem?_eq_getElem hi]; exact List.getElem_mem hi
 generalize (frags h pl M).getD i [] = z at hm ⊢
 unfold frags at hm
 split at hm
 ·rw [List.mem_singleton.1 hm, pkt_length]; omega
 ·obtain ⟨k, _, rfl⟩ := List.mem_map.1 hm
  unfold pieceB; rw [pkt_length]; omega
theorem cutsF_length (M L : Nat) (os : List Int) : ∀ f k, (cutsF M L os f k).length ≤ f := by
 intro f
 induction f with
 | zero => intro k; simp [cutsF]
 | succ f ih =>
  intro k
  rw [cutsF]
  split
  ·have := ih (k + pieceN M L os k); simp; omega
  ·simp
theorem frags_count (h : Hd) (pl : List Int) (M : Nat) (hl : pl.length ≤ 10000) : (frags h pl M).length ≤ 10000 := by
 unfold frags
 split
 ·simp
 ·rw [List.length_map]; have := cutsF_length M pl.length h.os (pl.length - 0) 0; unfold cuts cutsFrom; omega
theorem outs_only {R base n : Nat} {w2 wr w' : World} {v : Value} {xs : List Value} (h : GrowBut (Only R) w2 wr) (ho : wr.ownsRow base 52 2 v n xs) (hb : w2.heap.size ≤ base) (hg : GrowBut (Outs R v) wr w') : GrowBut (Only R) w2 w' :=
 ⟨hg.os.trans h.os, hg.tape.trans h.tape, hg.output.trans h.output, Nat.le_trans h.size hg.size, fun k hk hn => (hg.block k (Nat.lt_of_lt_of_le hk h.size) (fun e => by
  rcases e with e | e
  ·exact hn e
  ·have := (ho.lt k e).1; omega)).trans (h.block k hk hn)⟩
/-- Where j packets have gone out. -/
def OutLoop (w2 wr : World) (R : Nat) (r : Rn) (base port : Nat) (ws : List Value) (j : Nat) : Prop :=
 ∃ ov, RunAt wr R { r with out := ov } ∧ wr.ownsRow base 52 2 ov j (sentCells port (ws.take j)) ∧ GrowBut (Only R) w2 wr
def TupR (b0 : Nat) (rows : List (List Int)) (u : Value) (x : World) : Prop := ∃ v, u = .tuple #[v, .int .i64 0] ∧ RowsN x b0 v rows
theorem TupR.mono {b0 : Nat} {rows : List (List Int)} {u : Value} {x x' : World} (h : TupR b0 rows u x) (hg : Grow x x') : TupR b0 rows u x' := by
 obtain ⟨v, e, hr⟩ := h
 exact ⟨v, e, hr.mono hg⟩
def HeldRows (b0 : Nat) (rows : List (List Int)) (u : Value) (x : World) : Prop := RowsN x b0 u rows
set_option maxHeartbeats 8000000 in
theorem out_any {w : World} {b off L cap Z S : Nat} {zs : List Int} {h : Hd} {pl : List Int} (p : PktAt w b off L cap Z S zs h pl) (hL : L ≤ 10000) {R : Nat} {r : Rn} (hR : RunAt w R r) (hout : r.out = .slice none 0 0)
  {mb mo mn mc port M : Nat} (hm : r.mtus = .slice (some ⟨mb, mo, none⟩) mn mc) (hp : port < mn) (hmc : mn ≤ mc) (hcM : w.cell? ⟨mb, mo + port, none⟩ = some (.int .i64 M)) (hM : 68 ≤ M ∧ M ≤ 65535) (hdf : h.df = false) (hof : h.off + pl.length ≤ 8000) :
  Calls Tryz.prog 68 #[.pointer (some ⟨R, 0, none⟩), .int .i64 port, .slice (some ⟨b, off, none⟩) L cap] w fun e w' => e = .returned (.bool true) ∧ ∃ ov, RunAt w' R { r with out := ov } ∧ OutRow w' w.heap.size ov port (frags h pl M) ∧ GrowBut (Only R) w w' := by
 have HCut : Hid (∀ x, Grow w x → Calls Tryz.prog 93 #[.slice (some ⟨b, off, none⟩) L cap, .int .i64 M] x fun e w' => ∃ v, e = .returned (.tuple #[v, .int .i64 0]) ∧ RowsN w' x.heap.size v (frags h pl M) ∧ Grow x w') := fun x hx => cut_any (p.mono hx) hL M hM hdf hof
 have HLong := Lib.hid (frags_long p.raw pl M)
 have HCount := Lib.hid (frags_count h pl M (by have := p.lz; omega))
 have HR := Lib.hid hR
 have HRs : Hid (∀ w' ov, RunAt w' R { r with out := ov } → OutRow w' w.heap.size ov port (frags h pl M) → GrowBut (Only R) w w' → ∃ ov, RunAt w' R { r with out := ov } ∧ OutRow w' w.heap.size ov port (frags h pl M) ∧ GrowBut (Only R) w w') := fun w' ov a1 a2 a3 => ⟨ov, a1, a2, a3⟩
 have HRm := Lib.hid (And.intro hm hout)
 have hRm : ∃ r0 : Rn, r0 = r := ⟨_, rfl⟩
 clear p hM hdf hof hL
 generalize frags h pl M = rows at *
 have hmt := (blkR hR).1.2.2.1
 rw [hm] at hmt
 have HMt := Lib.hid hmt
 have HcM := Lib.hid hcM
 have hp1 : (port : Int) < (mn : Int) := by omega
 have hp2 : (0 : Int) ≤ (port : Int) := by omega
 have hmf : ∀ (fn : Fn) (first cap : Array Value) (w : World), (Instr.makeFunc fn first cap).run Tryz.prog w = .ok (.func fn first cap) w := fun _ _ _ _ => rfl
 clear hR hmt hcM hm hout hRm hmc
 go_enter Tryz.func68, Tryz.ntmps68
 go_wp2_with fail
 obtain ⟨w1, hw1⟩ : ∃ x, (w.alloc (.cells #[.pointer (some ⟨R, 0, none⟩)] 111)).alloc (.cells #[.int .i64 port] 3) = x := ⟨_, rfl⟩
 have hsA : (w.alloc (.cells #[.pointer (some ⟨R, 0, none⟩)] 111)).heap.size = w.heap.size + 1 := World.size_alloc _ _
 have hB := heap_alloc_new (w.alloc (.cells #[.pointer (some ⟨R, 0, none⟩)] 111)) (.cells #[.int .i64 port] 3)
 have hA : ((w.alloc (.cells #[.pointer (some ⟨R, 0, none⟩)] 111)).alloc (.cells #[.int .i64 port] 3)).heap[w.heap.size]? = some (.cells #[.pointer (some ⟨R, 0, none⟩)] 111 (0, 0)) := (Below.heap_alloc _ _ _ (by rw [hsA]; exact Nat.lt_succ_self _)).trans (heap_alloc_new w _)
 have hG1 : Grow w ((w.alloc (.cells #[.pointer (some ⟨R, 0, none⟩)] 111)).alloc (.cells #[.int .i64 port] 3)) := ((Grow.refl w).alloc _).alloc _
 rw [hsA] at hB
 rw [hw1] at hA hB hG1 ⊢
 have HA := Lib.hid hA
 have HB := Lib.hid hB
 have HG1 := Lib.hid hG1
 clear hw1 hsA hA hB hG1
 refine wpRg 14 ?_
 simp only [List.take_succ_cons, List.take_zero, List.drop_succ_cons, List.drop_zero]
 repeat (refine wpHp fun K hK => ?_; go_simp; refine hK _ ?_; clear hK K)
 refine wpHd (.pointer (some ⟨R, 0, none⟩)) (fun w' hg => ?_) ?_
 ·have hx := cell_of_one ((hg.below.block _ (lt_of_block HA.out)).trans HA.out)
  clear hg
  go_simp
  exact Below.refl _ _
 try go_simp
 repeat (refine wpHp fun K hK => ?_; go_simp; refine hK _ ?_; clear hK K)
 refine wpHd (.slice (some ⟨mb, mo, none⟩) mn mc) (fun w' hg => ?_) ?_
 ·have hx := ((HG1.out.trans hg.below).cell (block_lt HMt.out)).trans HMt.out
  clear hg
  go_simp
  exact Below.refl _ _
 try go_simp
 repeat (refine wpHp fun K hK => ?_; go_simp; refine hK _ ?_; clear hK K)
 refine wpHd (.int .i64 port) (fun w' hg => ?_) ?_
 ·have hx := cell_of_one ((hg.below.block _ (lt_of_block HB.out)).trans HB.out)
  clear hg
  go_simp
  exact Below.refl _ _
 try go_simp
 repeat (refine wpHp fun K hK => ?_; go_simp; refine hK _ ?_; clear hK K)
 refine wpHd (.int .i64 M) (fun w' hg => ?_) ?_
 ·have hx := ((HG1.out.trans hg.below).cell (block_lt HcM.out)).trans HcM.out
  clear hg
  go_simp
  exact Below.refl _ _
 try go_simp
 repeat (refine wpHp fun K hK => ?_; go_simp; refine hK _ ?_; clear hK K)
 refine wpH_hid' (TupR w1.heap.size rows) (by intro _ _ h; cases h) rfl (by rfl) (fun u x x' hg h => h.mono hg.below) (by rfl) (by rfl) (fun w' hg => ?_) ?_
 ·have h := HCut.out w' (HG1.out.trans hg.below)
  have HS := Lib.hid hg.below.size
  clear hg
  go_simp
  with_reducible refine h.mono ?_
  rintro e w1 ⟨v, rfl, hr, hg⟩
  exact ⟨_, rfl, ⟨v, rfl, hr.less HS.out⟩, hg⟩
 try go_simp
 refine wpH_hid (TupR w1.heap.size rows) rfl (by rfl) (fun u x x' hg h => h.mono hg.below) (fun xs => by rfl) (fun xs w' hg hf => ?_) ?_
 ·have h1 := hf _ (List.Mem.head _) (by rfl)
  try dsimp only at h1
  simp only [fill]
  generalize xs 21 = y at *
  clear hf hg
  obtain ⟨u, rfl, ho⟩ := h1
  have HO := Lib.hid ho
  clear ho
  go_simp
  exact ⟨⟨u, rfl, HO.out⟩, Below.refl _ _⟩
 try go_simp
 refine wpH_hid (HeldRows w1.heap.size rows) rfl (by rfl) (fun u x x' hg h => RowsN.mono h hg.below) (fun xs => by rfl) (fun xs w' hg hf => ?_) ?_
 ·have h1 := hf _ (List.Mem.head _) (by rfl)
  try dsimp only at h1
  simp only [fill]
  generalize xs 12 = y at *
  clear hf hg
  obtain ⟨u, rfl, ho⟩ := h1
  have HO := Lib.hid ho
  clear ho
  go_simp
  exact ⟨HO.out, Below.refl _ _⟩
 try go_simp
 refine wpH_det (.int .i64 0) (by rfl) (fun xs => by rfl) (fun xs w' hg hf => ?_) ?_
 ·have h1 := hf _ (List.Mem.tail _ (List.Mem.head _)) (by rfl)
  try dsimp only at h1
  simp only [fill]
  generalize xs 12 = y at *
  clear hf hg
  obtain ⟨u, rfl, ho⟩ := h1
  clear ho
  go_simp
  exact Below.refl _ _
 try go_simp
 refine wpH_hid (HeldRows w1.heap.size rows) rfl (by rfl) (fun u x x' hg h => RowsN.mono h hg.below) (fun xs => by rfl) (fun xs w' hg hf => ?_) ?_
 ·have h1 := hf _ (List.Mem.head _) (by rfl)
  try dsimp only at h1
  simp only [fill]
  generalize xs 22 = y at *
  clear hf hg
  have HO := Lib.hid h1
  clear h1
  go_simp
  exact ⟨HO.out, Below.refl _ _⟩
 try go_simp
 repeat (refine wpHp fun K hK => ?_; go_simp; refine hK _ ?_; clear hK K)
 refine wpH_nil ?_
 intro xs w2 hg hc hx2
 have h7 := hx2 _ _ (List.Mem.head _)
 try dsimp only at h7
 have HG2 := Lib.hid (HG1.out.trans hg.below)
 have HSz1 := Lib.hid HG1.out.size
 have HA2 := Lib.hid ((hg.below.block _ (lt_of_block HA.out)).trans HA.out)
 have HB2 := Lib.hid ((hg.below.block _ (lt_of_block HB.out)).trans HB.out)
 have h7' : RowsN w2 w1.heap.size (xs 7) rows := h7
 have HRw := Lib.hid h7'
 clear hx2 hc hg h7 h7'
 simp only [fill]
 generalize xs 7 = y7 at *
 generalize xs 12 = y12 at *
 generalize xs 21 = y21 at *
 generalize xs 22 = y22 at *
 obtain ⟨la, lc, rfl, hl1, hl2⟩ := rowsV_shape HRw.out.rows
 unfold maxLen at hl2
 have HR2 := Lib.hid ((HG2.out.block _ (lt_of_block HR.out)).trans HR.out)
 have HBRn : Hid (w.heap.size ≠ R ∧ w.heap.size + 1 ≠ R) := by have := lt_of_block HR.out; exact ⟨by omega, by omega⟩
 clear HA HB HG1 HCut
 go_simp
 go_wp2_with fail
 have HRO : Hid (r.out = .slice none 0 0) := HRm.out.2
 have hR2' : RunAt w2 R { r with out := .slice none 0 0 } := by
  have := HR2.out
  rw [← HRO.out]; exact this
 have HR2' := Lib.hid hR2'
 have HS1 : Hid (w.heap.size ≤ w1.heap.size ∧ R < w1.heap.size ∧ w.heap.size + 1 < w2.heap.size) := ⟨HSz1.out, Nat.lt_of_lt_of_le (lt_of_block HR.out) HSz1.out, lt_of_block HB2.out⟩
 clear hR2' HR2
 obtain ⟨ws, g1, g2, g3⟩ := HRw.out
 have HW1 : Hid (ws.length = rows.length) := g1
 have HW2 := Lib.hid g2
 have HW3 := Lib.hid g3
 clear g1 g2 g3 HRw
 go_loopw [36] (fun i wr => ∃ j : Nat, j ≤ rows.length ∧ i = .int .i64 j ∧ Hid (OutLoop w2 wr R r w2.heap.size port ws j)) (fun i _ => rows.length - (intOf i).toNat)
 case atStart => exact ⟨0, Nat.zero_le _, rfl, ⟨_, HR2'.out, World.ownsRow_nil _ _ _ _, GrowBut.refl _ _⟩⟩
 case round =>
  obtain ⟨j, hj, rfl, HI⟩ := hrel
  have hRlt : ∀ k, Only R k → k < w1.heap.size := fun k hk => by have : k = R := hk; have := HS1.out.2.1; omega
  have HRlt := Lib.hid hRlt
  clear hRlt
  by_cases hlt : j < rows.length
  ·obtain ⟨ov, hv1, hv3, hv5⟩ := HI.out
   have hcells := fun g hg => (own_but HW2.out hv5 HRlt.out).cells (g := g) hg
   obtain ⟨rb, hla⟩ : ∃ rb, la = some ⟨rb, 0, none⟩ := by
    rcases HW2.out.2 with ⟨e, h0⟩ | ⟨g, cap, cur, e, _⟩
    ·have := HW1.out; omega
    ·injection e with e1 e2 e3; exact ⟨g, e1⟩
   subst hla
   have hjw : j < ws.length := by have := HW1.out; omega
   have hget : ws[j]? = some (ws.getD j undef) := by rw [List.getD_eq_getElem?_getD, List.getElem?_eq_getElem hjw]; rfl
   have hx := hcells rb rfl j (ws.getD j undef) hget
   rw [Addr.add_lit, Nat.zero_add] at hx
   have htk : ws.take (j + 1) = ws.take j ++ [ws.getD j undef] := by rw [List.take_add_one, hget]; rfl
   obtain ⟨xv, hxv⟩ : ∃ x, ws.getD j undef = x := ⟨_, rfl⟩
   have hxs : ∃ xa xn xc, xv = .slice xa xn xc := by
    have := HW3.out j hlt
    rw [hxv] at this
    obtain ⟨a, c, e, _, _⟩ := (ints_of_owns this.1).shape
    exact ⟨a, _, c, e⟩
   rw [hxv] at hx htk
   obtain ⟨xa, m, xc, rfl⟩ := hxs
   have hA3 := (hv5.block _ (Nat.lt_of_succ_lt HS1.out.2.2) HBRn.out.1).trans HA2.out
   have hB3 := (hv5.block _ HS1.out.2.2 HBRn.out.2).trans HB2.out
   have HSent := Lib.hid (sent_any (xa := xa) (xn := m) (xc := xc) (n := j) hA3 hB3 hv1 hv3 hv5.size (by have := HCount.out; omega) HBRn.out.1 HBRn.out.2)
   have HV := Lib.hid (And.intro hv3 hv5)
   have HTk := Lib.hid htk
   clear hv1 hv3 hv5 hcells hxv hA3 hB3 HI hget htk
   go_wp2_with fail
   with_reducible refine HSent.out.mono ?_
   rintro e w4 ⟨⟨v, rfl⟩, ov2, hr2, ho2, hg2⟩
   have HI4 : Hid (OutLoop w2 w4 R r w2.heap.size port ws (j + 1)) := ⟨ov2, hr2, by rw [HTk.out, sentCells_snoc]; exact ho2, outs_only HV.out.2 HV.out.1 (Nat.le_refl _) hg2⟩
   clear hr2 ho2 hg2 HSent
   go_wp2_with fail
   go_roundw
   case rel => exact ⟨j + 1, by omega, by simp, HI4.out⟩
   case measure => simp [intOf]; omega
  ·go_wp2_with fail
   obtain ⟨ov, hv1, hv3, hv5⟩ := HI.out
   have hjl : j = ws.length := by have := HW1.out; omega
   subst hjl
   rw [List.take_length] at hv3
   refine bodyPost_ret (v := .bool true) (by simp [results, Tryz.results68, go_sem]) rfl ?_
   refine ⟨rfl, HRs.out _ ov hv1 ⟨ws, HW1.out, own_less1 hv3 HG2.out.size, fun i hi => ⟨own_less1 (own_but (HW3.out i hi).1 hv5 HRlt.out) HSz1.out, (HW3.out i hi).2⟩⟩ ((only_of HG2.out).trans hv5)⟩
end
end Go.Proofs.YtgckhdepnmiejaaGreat
namespace Go.Proofs.YtgckhdepnmiejaaGreat
section
set_option maxRecDepth 100000
open Go.RowKit
/-- What forwarding leaves. -/
def Onned (w : World) (R : Nat) (r : Rn) (port : Nat) (rows : List (List Int)) (w' : World) : Prop :=
 ∃ ov base, RunAt w' R { r with out := ov } ∧ OutRow w' base ov port rows ∧ w.heap.size ≤ base ∧ GrowBut (Only R) w w'
set_option maxHeartbeats 8000000 in
theorem on_any {w : World} {b off L cap Z S : Nat} {zs : List Int} {h : Hd} {pl : List Int} (p : PktAt w b off L cap Z S zs h pl) (hL : L ≤ 10000) {R : Nat} {r : Rn} (hR : RunAt w R r) (hpk : r.packet = .slice (some ⟨b, off, none⟩) L cap) (hout : r.out = .slice none 0 0)
  {mb mo mn mc port M : Nat} (hm : r.mtus = .slice (some ⟨mb, mo, none⟩) mn mc) (hp : port < mn) (hmc : mn ≤ mc) (hcM : w.cell? ⟨mb, mo + port, none⟩ = some (.int .i64 M)) (hM : 68 ≤ M ∧ M ≤ 65535) (hdf : h.df = false) (hof : h.off + pl.length ≤ 8000)
  (ht : 2 ≤ h.ttl) (htr : r.h.ttl = h.ttl) (hdr : r.h.df = false) (hk : r.kind = 3) (hpo : r.port = port) :
  Calls Tryz.prog 45 #[.pointer (some ⟨R, 0, none⟩)] w fun e w' => e = .returned (.bool true) ∧ Onned w R r port (frags h.less pl M) w' := by
 have HLess := Lib.hid (less_any p (by omega) hL)
 have HRaw : Hid (Raw h.less ∧ Bytes pl ∧ 20 + h.less.os.length + pl.length ≤ 65535 ∧ 20 + h.less.os.length + pl.length = L ∧ L ≤ 10000) := ⟨p.raw.less (by omega), p.by_, by have := p.lz; have := p.z; show 20 + h.os.length + _ ≤ _; omega, by have := p.lz; have := p.z; show 20 + h.os.length + _ = _; omega, hL⟩
 have HMM : Hid ((68 ≤ M ∧ M ≤ 65535) ∧ h.less.df = false ∧ h.less.off + pl.length ≤ 8000) := ⟨hM, hdf, hof⟩
 have HR := Lib.hid hR
 have HcM := Lib.hid hcM
 have hp1 : (port : Int) < (mn : Int) := by omega
 have hp2 : (0 : Int) ≤ (port : Int) := by omega
 have HP : Hid (port < mn ∧ mn ≤ mc) := ⟨hp, hmc⟩
 have ht1 : ¬ (h.ttl ≤ 1) := by omega
 clear p hM hdf hof hL hR hcM hp hmc ht
 obtain ⟨f, own, mtus, bk, pk, ⟨tos, id, evil, df, mf, of, ttl, proto, src, dst, hv, os⟩, kind, pt, drop, err, loc, out⟩ := r
 dsimp only at *
 subst hpk hout hm hdr hk hpo
 rw [← htr] at ht1
 clear htr
 have HRf : Hid (w.heap[R]? = some (.cells #[f, .int .u32 own, .slice (some ⟨mb, mo, none⟩) mn mc, bk, .slice (some ⟨b, off, none⟩) L cap, .int .u8 tos, .int .u16 id, .bool evil, .bool false, .bool mf, .int .i64 of, .int .u8 ttl, .int .u8 proto, .int .u32 src, .int .u32 dst, hv, .int .i64 3, .int .i64 port, .int .i64 drop, .int .i64 err, loc, .slice none 0 0] 114 (0, 0))) := HR.out
 obtain ⟨⟨c0, c1, c2, c3, c4, c5⟩, ⟨c6, c7, c8, c9, c10, c11⟩, ⟨c12, c13, c14, c15, c16, c17⟩, c18, c19, c20, c21⟩ := blkR HRf.out
 go_enter Tryz.func45, Tryz.ntmps45
 go_wp2_with fail
 with_reducible refine HLess.out.mono ?_
 rintro e w1 ⟨u, rfl, hn⟩
 have hb := newb_bytes hn (pkt_bytes HRaw.out.1 HRaw.out.2.1)
 obtain ⟨ub, uo, ul, uc, uz, us, rfl, hpk⟩ := pktAt_of HRaw.out.1 HRaw.out.2.1 HRaw.out.2.2.1 hb
 have hul : ul = L := by have := hpk.lz; have := hpk.z; have := HRaw.out.2.2.2.1; omega
 have HPk := Lib.hid hpk
 have HG1 := Lib.hid hn.2
 have HUl := Lib.hid hul
 have HR1 : Hid (w1.heap[R]? = some (.cells #[f, .int .u32 own, .slice (some ⟨mb, mo, none⟩) mn mc, bk, .slice (some ⟨b, off, none⟩) L cap, .int .u8 tos, .int .u16 id, .bool evil, .bool false, .bool mf, .int .i64 of, .int .u8 ttl, .int .u8 proto, .int .u32 src, .int .u32 dst, hv, .int .i64 3, .int .i64 port, .int .i64 drop, .int .i64 err, loc, .slice none 0 0] 114 (0, 0))) := (HG1.out.block _ (lt_of_block HRf.out)).trans HRf.out
 have HcM1 := Lib.hid ((HG1.out.cell (block_lt HcM.out)).trans HcM.out)
 obtain ⟨fb, hfb⟩ : ∃ x, decide ((ul : Int) ≤ (M : Int)) = x := ⟨_, rfl⟩
 have HFit : Hid (∀ x, Grow w1 x → Calls Tryz.prog 67 #[.slice (some ⟨ub, uo, none⟩) ul uc, .int .i64 M] x fun e w' => e = .returned (.tuple #[.bool fb, .int .i64 0]) ∧ Grow x w') := fun x hx => by rw [← hfb]; exact fits_any (HPk.out.mono hx) (by rw [HUl.out]; exact HRaw.out.2.2.2.2) M (by have := HMM.out.1; omega)
 have HOut : Hid (∀ x, Grow w1 x → x.heap[R]? = some (.cells #[f, .int .u32 own, .slice (some ⟨mb, mo, none⟩) mn mc, bk, .slice (some ⟨b, off, none⟩) L cap, .int .u8 tos, .int .u16 id, .bool evil, .bool false, .bool mf, .int .i64 of, .int .u8 ttl, .int .u8 proto, .int .u32 src, .int .u32 dst, hv, .int .i64 3, .int .i64 port, .int .i64 drop, .int .i64 err, loc, .slice none 0 0] 114 (0, 0)) → Calls Tryz.prog 68 #[.pointer (some ⟨R, 0, none⟩), .int .i64 port, .slice (some ⟨ub, uo, none⟩) ul uc] x fun e w' => e = .returned (.bool true) ∧ ∃ ov, RunAt w' R ⟨f, own, .slice (some ⟨mb, mo, none⟩) mn mc, bk, .slice (some ⟨b, off, none⟩) L cap, ⟨tos, id, evil, false, mf, of, ttl, proto, src, dst, hv, os⟩, 3, port, drop, err, loc, ov⟩ ∧ OutRow w' x.heap.size ov port (frags h.less pl M) ∧ GrowBut (Only R) x w') := fun x hx hr =>
  out_any (HPk.out.mono hx) (by rw [HUl.out]; exact HRaw.out.2.2.2.2) (r := ⟨f, own, .slice (some ⟨mb, mo, none⟩) mn mc, bk, .slice (some ⟨b, off, none⟩) L cap, ⟨tos, id, evil, false, mf, of, ttl, proto, src, dst, hv, os⟩, 3, port, drop, err, loc, .slice none 0 0⟩) hr rfl rfl HP.out.1 HP.out.2 ((hx.cell (block_lt HcM1.out)).trans HcM1.out) HMM.out.1 HMM.out.2.1 HMM.out.2.2
 clear hfb hn hb hpk hul c0 c1 c2 c3 c4 c5 c6 c7 c8 c9 c10 c11 c12 c13 c14 c15 c16 c17 c18 c19 c20 c21 HLess
 go_wp2_with fail
 refine wpRg 17 ?_
 simp only [List.take_succ_cons, List.take_zero, List.drop_succ_cons, List.drop_zero]
 repeat (refine wpHp fun K hK => ?_; go_simp; refine hK _ ?_; clear hK K)
 refine wpHd (.slice (some ⟨mb, mo, none⟩) mn mc) (fun w' hg => ?_) ?_
 ·obtain ⟨⟨y0, y1, y2, y3, y4, y5⟩, ⟨y6, y7, y8, y9, y10, y11⟩, ⟨y12, y13, y14, y15, y16, y17⟩, y18, y19, y20, y21⟩ := blkR ((hg.below.block _ (lt_of_block HR1.out)).trans HR1.out)
  clear hg
  go_simp
  exact Below.refl _ _
 try go_simp
 repeat (refine wpHp fun K hK => ?_; go_simp; refine hK _ ?_; clear hK K)
 refine wpHd (.int .i64 port) (fun w' hg => ?_) ?_
 ·obtain ⟨⟨y0, y1, y2, y3, y4, y5⟩, ⟨y6, y7, y8, y9, y10, y11⟩, ⟨y12, y13, y14, y15, y16, y17⟩, y18, y19, y20, y21⟩ := blkR ((hg.below.block _ (lt_of_block HR1.out)).trans HR1.out)
  clear hg
  go_simp
  exact Below.refl _ _
 try go_simp
 repeat (refine wpHp fun K hK => ?_; go_simp; refine hK _ ?_; clear hK K)
 refine wpHd (.int .i64 M) (fun w' hg => ?_) ?_
 ·have hx := (hg.below.cell (block_lt HcM1.out)).trans HcM1.out
  clear hg
  go_simp
  exact Below.refl _ _
 try go_simp
 repeat (refine wpHp fun K hK => ?_; go_simp; refine hK _ ?_; clear hK K)
 refine wpHd (.tuple #[.bool fb, .int .i64 0]) (fun w' hg => ?_) ?_
 ·have h := HFit.out w' hg.below
  clear hg
  go_simp
  with_reducible refine h.mono ?_
  rintro e w1 ⟨rfl, hg⟩
  exact ⟨_, rfl, rfl, hg⟩
 try go_simp
 repeat (refine wpHp fun K hK => ?_; go_simp; refine hK _ ?_; clear hK K)
 refine wpH_nil ?_
 intro xs w2 hg hx1 hx2
 have HG2 : Hid (Grow w1 w2) := hg.below
 have HR2 : Hid (w2.heap[R]? = some (.cells #[f, .int .u32 own, .slice (some ⟨mb, mo, none⟩) mn mc, bk, .slice (some ⟨b, off, none⟩) L cap, .int .u8 tos, .int .u16 id, .bool evil, .bool false, .bool mf, .int .i64 of, .int .u8 ttl, .int .u8 proto, .int .u32 src, .int .u32 dst, hv, .int .i64 3, .int .i64 port, .int .i64 drop, .int .i64 err, loc, .slice none 0 0] 114 (0, 0))) := (HG2.out.block _ (lt_of_block HR1.out)).trans HR1.out
 clear hg hx1 hx2 HFit
 simp only [fill]
 obtain ⟨⟨c0, c1, c2, c3, c4, c5⟩, ⟨c6, c7, c8, c9, c10, c11⟩, ⟨c12, c13, c14, c15, c16, c17⟩, c18, c19, c20, c21⟩ := blkR HR2.out
 cases fb
 ·go_simp
  go_wp2_with fail
  with_reducible refine (HOut.out w2 HG2.out HR2.out).mono ?_
  rintro e w3 ⟨rfl, ov, h1, h2, h3⟩
  have HF := Lib.hid (And.intro h1 (And.intro h2 h3))
  clear h1 h2 h3
  go_wp2_with fail
  refine bodyPost_ret (v := .bool true) (by simp [results, Tryz.results45, go_sem]) rfl ?_
  exact ⟨rfl, ov, w2.heap.size, HF.out.1, HF.out.2.1, (HG1.out.trans HG2.out).size, (only_of (HG1.out.trans HG2.out)).trans HF.out.2.2⟩
 ·go_simp
  go_wp2_with fail
  with_reducible refine (HOut.out w2 HG2.out HR2.out).mono ?_
  rintro e w3 ⟨rfl, ov, h1, h2, h3⟩
  have HF := Lib.hid (And.intro h1 (And.intro h2 h3))
  clear h1 h2 h3
  go_wp2_with fail
  refine bodyPost_ret (v := .bool true) (by simp [results, Tryz.results45, go_sem]) rfl ?_
  exact ⟨rfl, ov, w2.heap.size, HF.out.1, HF.out.2.1, (HG1.out.trans HG2.out).size, (only_of (HG1.out.trans HG2.out)).trans HF.out.2.2⟩
end
end Go.Proofs.YtgckhdepnmiejaaGreat
namespace Go.Proofs.YtgckhdepnmiejaaGreat
section
set_option maxRecDepth 100000
open Go.RowKit
/-- An address of one host. -/
def One4 (a : Int) : Prop := 0 < a ∧ a < 3758096384
set_option maxHeartbeats 1000000 in
theorem multicast_any {a : Int} (ha : One4 a) (w : World) : Calls Tryz.prog 85 #[.int .u32 a] w fun e w' => e = .returned (.bool false) ∧ w' = w := by
 obtain ⟨h1, h2⟩ := ha
 have h3 : ¬ (224 : Int) ≤ a / 16777216 := by omega
 go_enter Tryz.func85, Tryz.ntmps85
 go_wp2_with fail
 go_ret
 exact ⟨by first | rfl | (simp; done) | (simp; omega), rfl⟩
set_option maxHeartbeats 1000000 in
theorem odd_any {a : Int} (ha : One4 a) (w : World) : Calls Tryz.prog 61 #[.int .u32 a] w fun e w' => e = .returned (.bool false) ∧ w' = w := by
 have HM := Lib.hid (multicast_any ha w)
 obtain ⟨h1, h2⟩ := ha
 have h3 : (a == 0) = false := by simp; omega
 go_enter Tryz.func61, Tryz.ntmps61
 go_wp2_with fail
 with_reducible refine HM.out.mono ?_
 rintro e w1 ⟨rfl, rfl⟩
 go_wp2_with fail
 go_ret
 exact ⟨by first | rfl | (simp; done) | (simp; omega), rfl⟩
set_option maxHeartbeats 4000000 in
theorem fine_any {w : World} {b off L cap Z S : Nat} {zs : List Int} {h : Hd} {pl : List Int} (p : PktAt w b off L cap Z S zs h pl) (hL : L ≤ 10000) {R : Nat} {r : Rn} (hR : RunAt w R r) (hpk : r.packet = .slice (some ⟨b, off, none⟩) L cap)
  {ma : Option Addr} {mn mc : Nat} (hm : r.mtus = .slice ma mn mc) {port : Nat} (hp : port < mn) (hk : PicksTo w r.f r.h.dst 3 port) (hs : One4 r.h.src) (hd : One4 r.h.dst) (hv : BytesV w r.h.v r.h.os) (hg : goodO r.h.os = true) (hl : r.h.os.length ≤ 40) (ho : routedO r.h.os = false) :
  Calls Tryz.prog 43 #[.pointer (some ⟨R, 0, none⟩)] w fun e w' => e = .returned (.bool false) ∧ RunAt w' R { r with kind := 3, port := port } ∧ GrowBut (Only R) w w' := by
 have HP := Lib.hid p
 have HK := Lib.hid hk
 have HV := Lib.hid hv
 have HS := Lib.hid hs
 have HD := Lib.hid hd
 have HR := Lib.hid hR
 have HM : Hid (r.mtus = .slice ma mn mc ∧ port < mn) := ⟨hm, hp⟩
 have HRt : Hid (∀ x, Grow w x → Calls Tryz.prog 5 #[r.h.v] x fun e w' => e = .returned (.bool false) ∧ Grow x w') := fun x hx => by
  have := routed_any (w := x) (hv.mono hx) (Nat.lt_of_lt_of_le (Nat.lt_of_le_of_lt (Nat.zero_le _) (lt_of_block hR)) hx.size) (by omega) hg
  rwa [ho] at this
 have HW2 : Hid (∀ x, Grow w x → RunAt x R r → Calls Tryz.prog 62 #[.pointer (some ⟨R, 0, none⟩), .slice (some ⟨b, off, none⟩) L cap, .int .u32 r.h.dst] x fun e w' => e = .returned (.tuple #[.int .i64 3, .int .i64 port]) ∧ Grow x w') := fun x hx hr => way_any (p.mono hx) hL hr hm hp (hk.mono hx)
 clear p hk hv hs hd hp
 obtain ⟨f, own, mtus, bk, pk, ⟨tos, id, evil, df, mf, of, ttl, proto, src, dst, hv, os⟩, kind, pt, drop, err, loc, out⟩ := r
 unfold RunAt Rn.cells at hR
 dsimp only at *
 subst hpk
 subst hm
 obtain ⟨⟨c0, c1, c2, c3, c4, c5⟩, ⟨c6, c7, c8, c9, c10, c11⟩, ⟨c12, c13, c14, c15, c16, c17⟩, c18, c19, c20, c21⟩ := blkR hR
 obtain ⟨ao, c1', rfl, _, _⟩ := HV.out.shape
 clear hR
 go_enter Tryz.func43, Tryz.ntmps43
 go_wp2_with fail
 with_reducible refine (odd_any HS.out _).mono ?_
 rintro e w1 ⟨rfl, rfl⟩
 go_wp2_with fail
 with_reducible refine (odd_any HD.out _).mono ?_
 rintro e w1 ⟨rfl, rfl⟩
 go_wp2_with fail
 with_reducible refine (HRt.out _ (Grow.refl _)).mono ?_
 rintro e w2 ⟨rfl, hg⟩
 have HG2 := Lib.hid hg
 have HR2 := Lib.hid ((hg.block _ (lt_of_block HR.out)).trans HR.out)
 clear c0 c1 c2 c3 c4 c5 c6 c7 c8 c9 c10 c11 c12 c13 c14 c15 c16 c17 c18 c19 c20 c21
 go_wp2_with fail
 have HZ : Hid (∀ (x : World) (cs : Array Value) (T : TypeId), x.heap[R]? = some (.cells cs T (0, 0)) → ∀ i, x.frozen? ⟨R, i, none⟩ = false) := fun x cs T hx i => by simp [World.frozen?, hx]
 refine wp_region_grow 22 [18, 21] (Only R) (fun x => x.heap[R]? = some (.cells #[f, .int .u32 own, .slice ma mn mc, bk, .slice (some ⟨b, off, none⟩) L cap, .int .u8 tos, .int .u16 id, .bool evil, .bool df, .bool mf, .int .i64 of, .int .u8 ttl, .int .u8 proto, .int .u32 src, .int .u32 dst, .slice ao os.length c1', .int .i64 kind, .int .i64 pt, .int .i64 drop, .int .i64 err, loc, out] 114 (0, 0))) (by kernel_rfl) (by kernel_rfl) (by rfl) (fun x x' hb hx => (hb.block _ (lt_of_block hx)).trans hx) HR2.out ?_
 simp only [List.take_succ_cons, List.take_zero, List.drop_succ_cons, List.drop_zero]
 repeat (refine wpHp fun K hK => ?_; go_simp; refine hK _ ?_; clear hK K)
 refine wpH_sdet' (.slice (some ⟨b, off, none⟩) L cap) (by intro _ _ h; cases h) (by rfl) (by kernel_rfl) (by rfl) (by rfl) (fun w' hg hc => ?_) ?_
 ·obtain ⟨⟨y0, y1, y2, y3, y4, y5⟩, ⟨y6, y7, y8, y9, y10, y11⟩, ⟨y12, y13, y14, y15, y16, y17⟩, y18, y19, y20, y21⟩ := blkR hc
  clear hg hc
  go_simp
  exact Below.refl _ _
 try go_simp
 repeat (refine wpHp fun K hK => ?_; go_simp; refine hK _ ?_; clear hK K)
 refine wpH_sdet' (.int .u32 dst) (by intro _ _ h; cases h) (by rfl) (by kernel_rfl) (by rfl) (by rfl) (fun w' hg hc => ?_) ?_
 ·obtain ⟨⟨y0, y1, y2, y3, y4, y5⟩, ⟨y6, y7, y8, y9, y10, y11⟩, ⟨y12, y13, y14, y15, y16, y17⟩, y18, y19, y20, y21⟩ := blkR hc
  clear hg hc
  go_simp
  exact Below.refl _ _
 try go_simp
 repeat (refine wpHp fun K hK => ?_; go_simp; refine hK _ ?_; clear hK K)
 refine wpH_sdet' (.tuple #[.int .i64 3, .int .i64 port]) (by intro _ _ h; cases h) (by rfl) (by kernel_rfl) (by rfl) (by rfl) (fun w' hg hc => ?_) ?_
 ·have hgr := grow_only hg (hc.trans HR2.out.symm)
  have h := HW2.out w' (HG2.out.trans hgr) hc
  clear hg hc hgr
  go_simp
  with_reducible refine h.mono ?_
  rintro e w1 ⟨rfl, hg⟩
  exact ⟨_, rfl, rfl, hg⟩
 try go_simp
 repeat (refine wpHp fun K hK => ?_; go_simp; refine hK _ ?_; clear hK K)
 refine wpH_cdet' undef (fun x => x.heap[R]? = some (.cells #[f, .int .u32 own, .slice ma mn mc, bk, .slice (some ⟨b, off, none⟩) L cap, .int .u8 tos, .int .u16 id, .bool evil, .bool df, .bool mf, .int .i64 of, .int .u8 ttl, .int .u8 proto, .int .u32 src, .int .u32 dst, .slice ao os.length c1', .int .i64 3, .int .i64 pt, .int .i64 drop, .int .i64 err, loc, out] 114 (0, 0))) (by intro _ _ h; cases h) (by rfl) (fun x x' hb hx => (hb.block _ (lt_of_block hx)).trans hx) (by rfl) (by rfl) (fun w' hg hc => ?_) ?_
 ·obtain ⟨⟨y0, y1, y2, y3, y4, y5⟩, ⟨y6, y7, y8, y9, y10, y11⟩, ⟨y12, y13, y14, y15, y16, y17⟩, y18, y19, y20, y21⟩ := blkR hc
  have hz := HZ.out w' _ _ hc 16
  have HC := Lib.hid hc
  clear hg hc
  go_simp
  exact ⟨only_set _, heap_setCell_same _ _ 16 _ _ _ HC.out⟩
 try go_simp
 repeat (refine wpHp fun K hK => ?_; go_simp; refine hK _ ?_; clear hK K)
 refine wpH_cdet' undef (fun x => x.heap[R]? = some (.cells #[f, .int .u32 own, .slice ma mn mc, bk, .slice (some ⟨b, off, none⟩) L cap, .int .u8 tos, .int .u16 id, .bool evil, .bool df, .bool mf, .int .i64 of, .int .u8 ttl, .int .u8 proto, .int .u32 src, .int .u32 dst, .slice ao os.length c1', .int .i64 3, .int .i64 port, .int .i64 drop, .int .i64 err, loc, out] 114 (0, 0))) (by intro _ _ h; cases h) (by rfl) (fun x x' hb hx => (hb.block _ (lt_of_block hx)).trans hx) (by rfl) (by rfl) (fun w' hg hc => ?_) ?_
 ·obtain ⟨⟨y0, y1, y2, y3, y4, y5⟩, ⟨y6, y7, y8, y9, y10, y11⟩, ⟨y12, y13, y14, y15, y16, y17⟩, y18, y19, y20, y21⟩ := blkR hc
  have hz := HZ.out w' _ _ hc 17
  have HC := Lib.hid hc
  clear hg hc
  go_simp
  exact ⟨only_set _, heap_setCell_same _ _ 17 _ _ _ HC.out⟩
 try go_simp
 refine wpH_nil ?_
 intro xs w3 hg hc hx
 have HC3 := Lib.hid hc
 have HG3 : Hid (GrowBut (Only R) _ w3) := (only_of HG2.out).trans hg
 clear hg hc hx
 simp only [fill]
 go_simp
 go_wp2_with fail
 refine bodyPost_ret (v := .bool false) (by simp [results, Tryz.results43, go_sem]) rfl ?_
 exact ⟨rfl, HC3.out, HG3.out⟩
end
end Go.Proofs.YtgckhdepnmiejaaGreat
namespace Go.Proofs.YtgckhdepnmiejaaGreat
section
set_option maxRecDepth 100000
open Go.RowKit
/-- What whole leaves: the header, and the packet once more. -/
def Wholed (w : World) (R : Nat) (r : Rn) (h : Hd) (pl : List Int) (w' : World) : Prop :=
 ∃ v u, RunAt w' R { r with h := { h with v := v }, packet := u } ∧ HdOk w' { h with v := v } ∧ OwnB w.heap.size (pkt h pl) u w' ∧ GrowBut (Only R) w w'
set_option maxHeartbeats 8000000 in
theorem whole_any {w : World} {b off L cap Z S : Nat} {zs : List Int} {h : Hd} {pl : List Int} (p : PktAt w b off L cap Z S zs h pl) (hL : L ≤ 10000) {R : Nat} {r : Rn} (hR : RunAt w R r) (hpk : r.packet = .slice (some ⟨b, off, none⟩) L cap) (hbR : b ≠ R)
  {ma : Option Addr} {mn mc : Nat} (hm : r.mtus = .slice ma mn mc) :
  Calls Tryz.prog 42 #[.pointer (some ⟨R, 0, none⟩)] w fun e w' => e = .returned (.bool false) ∧ Wholed w R r h pl w' := by
 have HPa := Lib.hid (parse_any p hL)
 have hmay := p.raw.may
 have hz := p.z; have hlz := p.lz; have heq := p.eq; have hlen := p.len
 have hcm := p.capM
 have hcl := p.capL
 unfold maxLen at hcm
 have HLZ : Hid ((20 + (h.os.length : Int)) + (pl.length : Int) = (L : Int)) := by show _ = _; omega
 have hwL : IntKind.i64.wrap (L : Int) = (L : Int) := IntWalk.i64_in _ (by omega)
 have hLc : (L : Int) ≤ (cap : Int) := by omega
 have HP := Lib.hid p
 have HFour : Hid (h.os.length = 0 ∨ 3 ≤ h.os.length) := by have := p.raw.four; show _ ∨ _; omega
 have HR := Lib.hid hR
 have HEq : Hid (zs = pkt h pl ∧ L ≤ 10000 ∧ b ≠ R) := ⟨heq, hL, hbR⟩
 clear p hz hlz heq hlen hL
 have HRW : Hid (∀ w' v u, RunAt w' R { r with h := { h with v := v }, packet := u } → HdOk w' { h with v := v } → OwnB w.heap.size (pkt h pl) u w' → GrowBut (Only R) w w' → Wholed w R r h pl w') := fun w' v u a1 a2 a3 a4 => ⟨v, u, a1, a2, a3, a4⟩
 obtain ⟨f, own, mtus, bk, pk, ⟨tos0, id0, evil0, df0, mf0, of0, ttl0, proto0, src0, dst0, v00, os0⟩, kind, pt, drop, err, loc, out⟩ := r
 unfold RunAt Rn.cells at hR HR
 dsimp only at hR HR hm hpk
 subst hpk
 subst hm
 obtain ⟨⟨c0, c1, c2, c3, c4, c5⟩, ⟨c6, c7, c8, c9, c10, c11⟩, ⟨c12, c13, c14, c15, c16, c17⟩, c18, c19, c20, c21⟩ := blkR hR
 clear hR c0 c1 c2 c3 c5 c6 c7 c8 c9 c10 c11 c12 c13 c14 c15 c16 c17 c18 c19 c20 c21
 go_enter Tryz.func42, Tryz.ntmps42
 go_wp2_with fail
 with_reducible refine HPa.out.mono ?_
 rintro e w1 ⟨v, u, rfl, hok, hu, hg⟩
 have HG1 := Lib.hid hg
 have hbo : BytesV w1 v h.os := hok.body
 obtain ⟨ao, c1, rfl, _, _⟩ := hbo.shape
 obtain ⟨bo, c2, rfl, _, _⟩ := hu.shape
 have HOK := Lib.hid hok
 have HR1 := Lib.hid ((hg.block _ (lt_of_block HR.out)).trans HR.out)
 have HSz : Hid (∀ x, Grow w1 x → Calls Tryz.prog 28 #[({ h with v := .slice ao h.os.length c1 } : Hd).val] x fun e w' => e = .returned (.int .i64 (20 + h.os.length)) ∧ Grow x w') := fun x hx => size_hdr { h with v := .slice ao h.os.length c1 } x (hok.mono hx) hmay
 clear hok hu hg HPa hmay hbo c4
 obtain ⟨tos, id, evil, df, mf, of, ttl, proto, src, dst, v0, os⟩ := h
 simp only [Hd.val, Hd.cells, hdCells] at *
 go_wp2_with fail
 obtain ⟨w2, hw2⟩ : ∃ x, w1.alloc (.cells #[.int .u8 tos, .int .u16 id, .bool evil, .bool df, .bool mf, .int .i64 of, .int .u8 ttl, .int .u8 proto, .int .u32 src, .int .u32 dst, .slice ao os.length c1] 27) = x := ⟨_, rfl⟩
 have hN := heap_alloc_new w1 (.cells #[.int .u8 tos, .int .u16 id, .bool evil, .bool df, .bool mf, .int .i64 of, .int .u8 ttl, .int .u8 proto, .int .u32 src, .int .u32 dst, .slice ao os.length c1] 27)
 have hG2 : Grow w1 (w1.alloc (.cells #[.int .u8 tos, .int .u16 id, .bool evil, .bool df, .bool mf, .int .i64 of, .int .u8 ttl, .int .u8 proto, .int .u32 src, .int .u32 dst, .slice ao os.length c1] 27)) := (Grow.refl w1).alloc _
 rw [hw2] at hN hG2 ⊢
 have HN := Lib.hid hN
 have HG2 := Lib.hid hG2
 have HR2 := Lib.hid ((hG2.block _ (lt_of_block HR1.out)).trans HR1.out)
 have hNR : w1.heap.size ≠ R := fun e => by have := lt_of_block HR1.out; omega
 have HNR := Lib.hid hNR
 clear hw2 hN hG2 hNR
 have HZ : Hid (∀ (x : World) (cs : Array Value) (T : TypeId), x.heap[R]? = some (.cells cs T (0, 0)) → ∀ i, x.frozen? ⟨R, i, none⟩ = false) := fun x cs T hx i => by simp [World.frozen?, hx]
 refine wp_region_grow 20 [16, 19] (Only R) (fun x => x.heap[R]? = some (.cells #[f, .int .u32 own, .slice ma mn mc, bk, .slice (some ⟨b, off, none⟩) L cap, .int .u8 tos0, .int .u16 id0, .bool evil0, .bool df0, .bool mf0, .int .i64 of0, .int .u8 ttl0, .int .u8 proto0, .int .u32 src0, .int .u32 dst0, v00, .int .i64 kind, .int .i64 pt, .int .i64 drop, .int .i64 err, loc, out] 114 (0, 0))) (by kernel_rfl) (by kernel_rfl) (by rfl) (fun x x' hb hx => (hb.block _ (lt_of_block hx)).trans hx) HR2.out ?_
 simp only [List.take_succ_cons, List.take_zero, List.drop_succ_cons, List.drop_zero]
 repeat (refine wpHp fun K hK => ?_; go_simp; refine hK _ ?_; clear hK K)
 refine wpHd (.agg #[.int .u8 tos, .int .u16 id, .bool evil, .bool df, .bool mf, .int .i64 of, .int .u8 ttl, .int .u8 proto, .int .u32 src, .int .u32 dst, .slice ao os.length c1]) (fun w' hg => ?_) ?_
 ·obtain ⟨⟨y0, y1, y2, y3, y4, y5⟩, y6, y7, y8, y9, y10⟩ := blkH ((hg.block _ (lt_of_block HN.out) HNR.out).trans HN.out)
  clear hg
  go_simp
  exact Below.refl _ _
 try go_simp
 repeat (refine wpHp fun K hK => ?_; go_simp; refine hK _ ?_; clear hK K)
 refine wpH_sdet' (.slice (some ⟨b, off, none⟩) L cap) (by intro _ _ h; cases h) (by rfl) (by kernel_rfl) (by rfl) (by rfl) (fun w' hg hc => ?_) ?_
 ·obtain ⟨⟨y0, y1, y2, y3, y4, y5⟩, ⟨y6, y7, y8, y9, y10, y11⟩, ⟨y12, y13, y14, y15, y16, y17⟩, y18, y19, y20, y21⟩ := blkR hc
  clear hg hc
  go_simp
  exact Below.refl _ _
 try go_simp
 repeat (refine wpHp fun K hK => ?_; go_simp; refine hK _ ?_; clear hK K)
 refine wpHd (.agg #[.int .u8 tos, .int .u16 id, .bool evil, .bool df, .bool mf, .int .i64 of, .int .u8 ttl, .int .u8 proto, .int .u32 src, .int .u32 dst, .slice ao os.length c1]) (fun w' hg => ?_) ?_
 ·obtain ⟨⟨y0, y1, y2, y3, y4, y5⟩, y6, y7, y8, y9, y10⟩ := blkH ((hg.block _ (lt_of_block HN.out) HNR.out).trans HN.out)
  clear hg
  go_simp
  exact Below.refl _ _
 try go_simp
 refine wpH_sdet' (.int .i64 (20 + (os.length : Int))) (by intro _ _ h; cases h) (by rfl) (by kernel_rfl) (by rfl) (by rfl) (fun w' hg hc => ?_) ?_
 ·have hgr := grow_only hg (hc.trans HR2.out.symm)
  have h := HSz.out w' (HG2.out.trans hgr)
  clear hg hc hgr
  go_simp
  with_reducible refine h.mono ?_
  rintro e w1 ⟨rfl, hg⟩
  exact ⟨_, rfl, rfl, hg⟩
 try go_simp
 have hlz := HLZ.out
 repeat (refine wpHp fun K hK => ?_; go_simp; refine hK _ ?_; clear hK K)
 clear hlz
 refine wpH_shid' (OwnB w2.heap.size zs) (by intro _ _ h; cases h) rfl (by rfl) (by kernel_rfl) (fun u x x' hg h => own_but h hg (fun k hk => by have h1 : k = R := hk; have h2 := lt_of_block HR2.out; omega)) (by rfl) (by rfl) (fun w' hg hc => ?_) ?_
 ·have hgr := grow_only hg (hc.trans HR2.out.symm)
  have h := clone_any (HP.out.mono ((HG1.out.trans HG2.out).trans hgr)).bytes HEq.out.2.1
  have HS := Lib.hid hgr.size
  clear hg hc hgr
  go_simp
  with_reducible refine h.mono ?_
  rintro e w1 ⟨u, rfl, hn⟩
  exact ⟨_, rfl, own_less hn.1 HS.out, hn.2⟩
 try go_simp
 repeat (refine wpHp fun K hK => ?_; go_simp; refine hK _ ?_; clear hK K)
 refine wpH_cdet' undef (fun x => x.heap[R]? = some (.cells #[f, .int .u32 own, .slice ma mn mc, bk, .slice (some ⟨b, off, none⟩) L cap, .int .u8 tos, .int .u16 id, .bool evil, .bool df, .bool mf, .int .i64 of, .int .u8 ttl, .int .u8 proto, .int .u32 src, .int .u32 dst, .slice ao os.length c1, .int .i64 kind, .int .i64 pt, .int .i64 drop, .int .i64 err, loc, out] 114 (0, 0))) (by intro _ _ h; cases h) (by rfl) (fun x x' hb hx => (hb.block _ (lt_of_block hx)).trans hx) (by rfl) (by rfl) (fun w' hg hc => ?_) ?_
 ·obtain ⟨⟨y0, y1, y2, y3, y4, y5⟩, ⟨y6, y7, y8, y9, y10, y11⟩, ⟨y12, y13, y14, y15, y16, y17⟩, y18, y19, y20, y21⟩ := blkR hc
  obtain ⟨⟨z0, z1, z2, z3, z4, z5⟩, ⟨z6, z7, z8, z9, z10, z11⟩, ⟨z12, z13, z14, z15, z16, z17⟩, z18, z19, z20, z21⟩ := blkRz hc
  have HC := Lib.hid hc
  clear hg hc
  go_simp
  exact ⟨by simp only [only_put]; exact GrowBut.refl _ _, by simp [heap_put, HC.out, setObj]⟩
 try go_simp
 repeat (refine wpHp fun K hK => ?_; go_simp; refine hK _ ?_; clear hK K)
 refine wpH_cdet undef (fun x => ∃ u, x.heap[R]? = some (.cells #[f, .int .u32 own, .slice ma mn mc, bk, u, .int .u8 tos, .int .u16 id, .bool evil, .bool df, .bool mf, .int .i64 of, .int .u8 ttl, .int .u8 proto, .int .u32 src, .int .u32 dst, .slice ao os.length c1, .int .i64 kind, .int .i64 pt, .int .i64 drop, .int .i64 err, loc, out] 114 (0, 0)) ∧ OwnB w2.heap.size zs u x) (by rfl) (fun x x' hb hx => by obtain ⟨u, h1, h2⟩ := hx; exact ⟨u, (hb.block _ (lt_of_block h1)).trans h1, own_grow h2 hb⟩) (fun xs => by rfl) (fun xs w' hg hc hf => ?_) ?_
 ·have h1 := hf _ (List.Mem.head _) (by rfl)
  try dsimp only at h1
  simp only [fill]
  generalize xs 33 = y at *
  obtain ⟨ya, yc, rfl, _, _⟩ := (ints_of_owns h1).shape
  obtain ⟨⟨y0, y1, y2, y3, y4, y5⟩, ⟨y6, y7, y8, y9, y10, y11⟩, ⟨y12, y13, y14, y15, y16, y17⟩, y18, y19, y20, y21⟩ := blkR hc
  obtain ⟨⟨z0, z1, z2, z3, z4, z5⟩, ⟨z6, z7, z8, z9, z10, z11⟩, ⟨z12, z13, z14, z15, z16, z17⟩, z18, z19, z20, z21⟩ := blkRz hc
  have HC := Lib.hid hc
  have HO := Lib.hid h1
  clear hg hc hf h1
  go_simp
  refine ⟨by simp only [only_put]; exact GrowBut.refl _ _, ⟨_, by simp only [heap_put, HC.out, Option.map_some, setObj_cells]; rfl, ?_⟩⟩
  exact ownsRow_setCell_below HO.out (a := ⟨R, 4, none⟩) (lt_of_block HR2.out) _
 try go_simp
 refine wpH_nil ?_
 intro xs w3 hg hc hx
 obtain ⟨u, h1, h2⟩ := hc
 have HC3 := Lib.hid h1
 have HO3 := Lib.hid h2
 have HG3 : Hid (GrowBut (Only R) w w3) := (only_of (HG1.out.trans HG2.out)).trans hg
 have HOK3 : Hid (HdOk w3 ⟨tos, id, evil, df, mf, of, ttl, proto, src, dst, .slice ao os.length c1, os⟩) := by
  have k := HOK.out.mono HG2.out
  exact ⟨k.tos, k.id, k.off, k.ttl, k.proto, k.src, k.dst, bytes_only HR2.out k.body HFour.out hg⟩
 clear hg h1 h2 hx
 simp only [fill]
 generalize xs 33 = y33 at *
 go_simp
 go_wp2_with fail
 refine bodyPost_ret (v := .bool false) (by simp [results, Tryz.results42, go_sem]) rfl ?_
 refine ⟨rfl, HRW.out w3 (.slice ao os.length c1) u HC3.out HOK3.out ?_ HG3.out⟩
 rw [← HEq.out.1]
 exact own_less HO3.out (Nat.le_trans HG1.out.size HG2.out.size)
end
end Go.Proofs.YtgckhdepnmiejaaGreat
namespace Go.Proofs.YtgckhdepnmiejaaGreat
section
set_option maxRecDepth 100000
open Go.RowKit
def BucketAt (w : World) (B : Nat) (most refill has ticks : Int) : Prop := w.heap[B]? = some (.cells #[.int .i64 most, .int .i64 refill, .int .i64 has, .int .i64 ticks] 136 (0, 0))
theorem blkB {w : World} {B : Nat} {T : TypeId} {a b c d : Value} (hh : w.heap[B]? = some (.cells #[a, b, c, d] T (0, 0))) :
  w.cell? ⟨B, 0, none⟩ = some a ∧ w.cell? ⟨B, 1, none⟩ = some b ∧ w.cell? ⟨B, 2, none⟩ = some c ∧ w.cell? ⟨B, 3, none⟩ = some d := by
 refine ⟨?_, ?_, ?_, ?_⟩ <;> simp [World.cell?, hh]
theorem blkBz {w : World} {B : Nat} {T : TypeId} {cs : Array Value} (hh : w.heap[B]? = some (.cells cs T (0, 0))) : w.frozen? ⟨B, 2, none⟩ = false := by simp [World.frozen?, hh]
set_option maxHeartbeats 1000000 in
theorem bcopy_any {w : World} {B : Nat} {most refill has ticks : Int} (h : BucketAt w B most refill has ticks) (hr : refill ≠ 0) :
  Calls Tryz.prog 40 #[.pointer (some ⟨B, 0, none⟩)] w fun e w' => (∃ Q, e = .returned (.pointer (some ⟨Q, 0, none⟩))) ∧ Grow w w' := by
 obtain ⟨c0, c1, c2, c3⟩ := blkB h
 have hrb : (refill == 0) = false := by simpa using hr
 have HG : Hid (Grow w (w.alloc (.cells #[.int .i64 most, .int .i64 refill, .int .i64 has, .int .i64 ticks] 136))) := (Grow.refl w).alloc _
 clear h hr
 go_enter Tryz.func40, Tryz.ntmps40
 go_wp2_with fail
 go_ret
 exact ⟨⟨_, rfl⟩, HG.out⟩
set_option maxHeartbeats 1000000 in
theorem bcopy_nil (w : World) : Calls Tryz.prog 40 #[.pointer none] w fun e w' => e = .returned (.pointer none) ∧ Grow w w' := by
 have HG := Lib.hid (Grow.refl w)
 go_enter Tryz.func40, Tryz.ntmps40
 go_wp2_with fail
 go_ret
 exact ⟨by first | rfl | simp, HG.out⟩
set_option maxHeartbeats 1000000 in
theorem btake_any {w : World} {B : Nat} {most refill has ticks : Int} (h : BucketAt w B most refill has ticks) (hh : 1 ≤ has ∧ has ≤ 64) :
  Calls Tryz.prog 39 #[.pointer (some ⟨B, 0, none⟩)] w fun e w' => e = .returned (.bool true) ∧ BucketAt w' B most refill (has - 1) ticks ∧ GrowBut (Only B) w w' := by
 obtain ⟨c0, c1, c2, c3⟩ := blkB h
 have hz := blkBz h
 have hrb : (has == 0) = false := by simp; omega
 have hw : IntKind.i64.wrap (has - 1) = has - 1 := IntWalk.i64_in _ (by omega)
 have HH : Hid (w.heap[B]? = some (.cells #[.int .i64 most, .int .i64 refill, .int .i64 has, .int .i64 ticks] 136 (0, 0))) := h
 clear h hh
 go_enter Tryz.func39, Tryz.ntmps39
 go_wp2_with fail
 go_ret
 exact ⟨by first | rfl | simp, heap_setCell_same _ _ 2 _ _ _ HH.out, only_set _⟩
set_option maxHeartbeats 1000000 in
theorem bhas_any {w : World} {B : Nat} {most refill has ticks : Int} (h : BucketAt w B most refill has ticks) :
  Calls Tryz.prog 47 #[.pointer (some ⟨B, 0, none⟩)] w fun e w' => e = .returned (.int .i64 has) ∧ w' = w := by
 obtain ⟨c0, c1, c2, c3⟩ := blkB h
 clear h
 go_enter Tryz.func47, Tryz.ntmps47
 go_wp2_with fail
 go_ret
 exact ⟨by first | rfl | simp, rfl⟩
set_option maxHeartbeats 1000000 in
theorem bnew_any (w : World) : Calls Tryz.prog 38 #[.int .i64 64, .int .i64 1] w fun e w' => ∃ B, e = .returned (.tuple #[.pointer (some ⟨B, 0, none⟩), .int .i64 0]) ∧ BucketAt w' B 64 1 64 0 ∧ w.heap.size ≤ B ∧ Grow w w' := by
 have HG : Hid (Grow w (w.alloc (.cells #[.int .i64 64, .int .i64 1, .int .i64 64, .int .i64 0] 136))) := (Grow.refl w).alloc _
 have HN := Lib.hid (heap_alloc_new w (.cells #[.int .i64 64, .int .i64 1, .int .i64 64, .int .i64 0] 136))
 go_enter Tryz.func38, Tryz.ntmps38
 go_wp2_with fail
 refine bodyPost_ret (v := .tuple #[.pointer (some ⟨w.heap.size, 0, none⟩), .int .i64 0]) (by simp [results, Tryz.results38, go_sem]) rfl ?_
 exact ⟨_, rfl, HN.out, Nat.le_refl _, HG.out⟩
set_option maxHeartbeats 1000000 in
theorem mtu_odd {m : Int} (hm : 68 ≤ m ∧ m ≤ 1500) (w : World) : Calls Tryz.prog 59 #[.int .i64 m] w fun e w' => e = .returned (.bool false) ∧ w' = w := by
 have h1 : ¬ (m < 68) := by omega
 have h2 : ¬ (1500 < m) := by omega
 have h3 : decide (m < 68) = false := decide_eq_false h1
 go_enter Tryz.func59, Tryz.ntmps59
 go_wp2_with fail
 go_ret
 exact ⟨by first | rfl | simp, rfl⟩
set_option maxHeartbeats 2000000 in
theorem mtus_index {w : World} {mb mo mn mc : Nat} {ms : List Int} (hv : IntsV .i64 w (.slice (some ⟨mb, mo, none⟩) mn mc) ms) (hm : ∀ m ∈ ms, 68 ≤ m ∧ m ≤ 1500) (hn : mn ≤ 8) :
  Calls Tryz.prog 84 #[.slice (some ⟨mb, mo, none⟩) mn mc, .func (.func 59) #[] #[]] w fun e w' => e = .returned (.int .i64 (-1)) ∧ w' = w := by
 have hl : ms.length = mn := by
  obtain ⟨a, c, e, _, _⟩ := hv.shape
  injection e with e1 e2 e3
  exact e2.symm
 have HC := Lib.hid hv.cells
 have HM : Hid (∀ k, k < mn → 68 ≤ ms.getD k 0 ∧ ms.getD k 0 ≤ 1500) := fun k hk => hm _ (by rw [List.getD_eq_getElem?_getD, List.getElem?_eq_getElem (by omega)]; exact List.getElem_mem _)
 have HL := Lib.hid hl
 clear hv hm hl
 go_enter Tryz.func84, Tryz.ntmps84
 go_wp2_with fail
 go_loopw [8] (fun i wr => ∃ k : Nat, k ≤ mn ∧ i = .int .i64 k ∧ wr = w) (fun i _ => mn - (intOf i).toNat)
 case atStart => exact ⟨0, Nat.zero_le _, rfl, rfl⟩
 case round =>
  obtain ⟨k, hk, rfl, rfl⟩ := hrel
  by_cases hlt : k < mn
  ·have c0 := HC.out k (by rw [HL.out]; exact hlt)
   have hb := HM.out k hlt
   generalize ms.getD k 0 = m at *
   have HO := Lib.hid (mtu_odd hb wr)
   clear hb
   go_wp2_with fail
   with_reducible refine HO.out.mono ?_
   rintro e w1 ⟨rfl, rfl⟩
   go_wp2_with fail
   go_roundw
   case rel => exact ⟨k + 1, by omega, by simp, trivial⟩
   case measure => simp [intOf]; omega
  ·go_wp2_with fail
   go_ret
   exact ⟨by first | rfl | simp, rfl⟩
set_option maxHeartbeats 1000000 in
theorem mtus_contains {w : World} {mb mo mn mc : Nat} {ms : List Int} (hv : IntsV .i64 w (.slice (some ⟨mb, mo, none⟩) mn mc) ms) (hm : ∀ m ∈ ms, 68 ≤ m ∧ m ≤ 1500) (hn : mn ≤ 8) :
  Calls Tryz.prog 58 #[.slice (some ⟨mb, mo, none⟩) mn mc, .func (.func 59) #[] #[]] w fun e w' => e = .returned (.bool false) ∧ w' = w := by
 have HI := Lib.hid (mtus_index hv hm hn)
 clear hv hm
 go_enter Tryz.func58, Tryz.ntmps58
 go_wp2_with fail
 with_reducible refine HI.out.mono ?_
 rintro e w1 ⟨rfl, rfl⟩
 go_wp2_with fail
 go_ret
 exact ⟨by first | rfl | simp, rfl⟩
set_option maxHeartbeats 1000000 in
theorem fwrong_any {w : World} {F mb mo mn mc L cap : Nat} {pa : Option Addr} {ms : List Int} (hv : IntsV .i64 w (.slice (some ⟨mb, mo, none⟩) mn mc) ms) (hm : ∀ m ∈ ms, 68 ≤ m ∧ m ≤ 1500) (hn : mn ≤ 8) (hL : L ≤ 2048) :
  Calls Tryz.prog 41 #[.pointer (some ⟨F, 0, none⟩), .slice (some ⟨mb, mo, none⟩) mn mc, .slice pa L cap] w fun e w' => e = .returned (.int .i64 0) ∧ w' = w := by
 have HI := Lib.hid (mtus_contains hv hm hn)
 have h1 : ¬ ((8 : Int) < (mn : Int)) := by omega
 have h2 : ¬ ((2048 : Int) < (L : Int)) := by omega
 have h3 : decide ((8 : Int) < (mn : Int)) = false := decide_eq_false h1
 clear hv hm
 go_enter Tryz.func41, Tryz.ntmps41
 go_wp2_with fail
 with_reducible refine HI.out.mono ?_
 rintro e w1 ⟨rfl, rfl⟩
 go_wp2_with fail
 go_ret
 exact ⟨by first | rfl | simp, rfl⟩
set_option maxHeartbeats 1000000 in
theorem fwrong_nil (w : World) (u v : Value) : Calls Tryz.prog 41 #[.pointer none, u, v] w fun e w' => e = .returned (.int .i64 1) ∧ w' = w := by
 go_enter Tryz.func41, Tryz.ntmps41
 go_wp2_with fail
 go_ret
 exact ⟨by first | rfl | simp, rfl⟩
set_option maxHeartbeats 1000000 in
theorem here_any {w : World} {R : Nat} {r : Rn} (hR : RunAt w R r) (hk : r.kind = 3) : Calls Tryz.prog 44 #[.pointer (some ⟨R, 0, none⟩)] w fun e w' => e = .returned (.bool false) ∧ w' = w := by
 have c16 := (blkR hR).2.2.1.2.2.2.2.1
 rw [hk] at c16
 clear hR
 go_enter Tryz.func44, Tryz.ntmps44
 go_wp2_with fail
 go_ret
 exact ⟨by first | rfl | simp, rfl⟩
end
end Go.Proofs.YtgckhdepnmiejaaGreat
namespace Go.Proofs.YtgckhdepnmiejaaGreat
section
set_option maxRecDepth 100000
open Go.RowKit
/-- What is asked of a packet, and of a node, for it to go out by a port. -/
structure Goes (w : World) (f : Value) (mb mo mn mc : Nat) (ms : List Int) (B port M : Nat) (h : Hd) (pl : List Int) : Prop where
 fp : ∃ F, f = .pointer (some ⟨F, 0, none⟩)
 mtus : IntsV .i64 w (.slice (some ⟨mb, mo, none⟩) mn mc) ms
 all : ∀ m ∈ ms, 68 ≤ m ∧ m ≤ 1500
 n8 : mn ≤ 8
 lt : port < mn
 mtu : ms.getD port 0 = M
 bucket : ∃ a b c d, BucketAt w B a b c d ∧ b ≠ 0
 picks : PicksTo w f h.dst 3 port
 src : One4 h.src
 dst : One4 h.dst
 rout : routedO h.os = false
 ttl : 2 ≤ h.ttl
 df : h.df = false
 off : h.off + pl.length ≤ 8000
 len : 20 + h.os.length + pl.length ≤ 2048
theorem pktAt_at {w : World} {b off L cap : Nat} {h : Hd} {pl : List Int} (r : Raw h) (hp : Bytes pl) (hl : 20 + h.os.length + pl.length ≤ 65535) (hv : BytesV w (.slice (some ⟨b, off, none⟩) L cap) (pkt h pl)) : ∃ Z S, PktAt w b off L cap Z S (pkt h pl) h pl := by
 obtain ⟨b', off', L', cap', Z, S, e, hp⟩ := pktAt_of r hp hl hv
 injection e with e1 e2 e3
 injection e1 with e1
 injection e1 with e1 e4 e5
 subst e1 e2 e3 e4
 exact ⟨Z, S, hp⟩
def Judged (w : World) (port : Nat) (rows : List (List Int)) (e : Ending) (w' : World) : Prop :=
 ∃ ov base, e = .returned (.tuple #[.agg #[.int .i64 0, .int .i64 0, .slice none 0 0, ov], .int .i64 0]) ∧ OutRow w' base ov port rows ∧ w.heap.size ≤ base ∧ Grow w w'
set_option maxHeartbeats 8000000 in
theorem judge_any {w : World} {b off L cap Z S : Nat} {zs : List Int} {h : Hd} {pl : List Int} (p : PktAt w b off L cap Z S zs h pl) {f : Value} {own : Int} {mb mo mn mc : Nat} {ms : List Int} {B port M : Nat} (g : Goes w f mb mo mn mc ms B port M h pl) :
  Calls Tryz.prog 18 #[f, .int .u32 own, .slice (some ⟨mb, mo, none⟩) mn mc, .pointer (some ⟨B, 0, none⟩), .slice (some ⟨b, off, none⟩) L cap] w (Judged w port (frags h.less pl M)) := by
 obtain ⟨F, rfl⟩ := g.fp
 have hL : L ≤ 2048 := by have := p.lz; have := p.z; have := g.len; omega
 have HP := Lib.hid p
 have HGo := Lib.hid g
 have HL := Lib.hid hL
 have hb0 : b < w.heap.size := block_lt (p.cell 0 (by have := p.lz; have := p.z; omega))
 have HB0 := Lib.hid hb0
 have HCopy : Hid (∀ x, Grow w x → Calls Tryz.prog 40 #[.pointer (some ⟨B, 0, none⟩)] x fun e w' => (∃ Q, e = .returned (.pointer (some ⟨Q, 0, none⟩))) ∧ Grow x w') := fun x hx => by
  obtain ⟨a, b, c, d, h1, h2⟩ := g.bucket
  exact bcopy_any ((hx.block _ (lt_of_block h1)).trans h1) h2
 have HWr : Hid (∀ x, Grow w x → Calls Tryz.prog 41 #[.pointer (some ⟨F, 0, none⟩), .slice (some ⟨mb, mo, none⟩) mn mc, .slice (some ⟨b, off, none⟩) L cap] x fun e w' => e = .returned (.int .i64 0) ∧ w' = x) := fun x hx => fwrong_any (g.mtus.mono hx) g.all g.n8 hL
 have hmf : ∀ (fn : Fn) (first cap : Array Value) (w : World), (Instr.makeFunc fn first cap).run Tryz.prog w = .ok (.func fn first cap) w := fun _ _ _ _ => rfl
 have HG0 : Hid (Grow w (w.alloc (.cells #[.int .i64 0, .int .i64 0, .slice none 0 0, .slice none 0 0] 48))) := (Grow.refl w).alloc _
 have HN0 := Lib.hid (heap_alloc_new w (.cells #[.int .i64 0, .int .i64 0, .slice none 0 0, .slice none 0 0] 48))
 clear p g hL hb0
 go_enter Tryz.func18, Tryz.ntmps18
 go_wp2_with fail
 with_reducible refine (HCopy.out _ HG0.out).mono ?_
 rintro e w1 ⟨⟨Q, rfl⟩, hg⟩
 have HG1 := Lib.hid (HG0.out.trans hg)
 have HN1 := Lib.hid ((hg.block _ (lt_of_block HN0.out)).trans HN0.out)
 clear hg HCopy
 go_wp2_with fail
 with_reducible refine (HWr.out _ HG1.out).mono ?_
 rintro e w1' ⟨rfl, rfl⟩
 go_wp2_with fail
 obtain ⟨w2, hw2⟩ : ∃ x, (w1'.alloc (.cells #[.pointer (some ⟨F, 0, none⟩), .int .u32 own, .slice (some ⟨mb, mo, none⟩) mn mc, .pointer (some ⟨B, 0, none⟩), .slice (some ⟨b, off, none⟩) L cap, .int .u8 0, .int .u16 0, .bool false, .bool false, .bool false, .int .i64 0, .int .u8 0, .int .u8 0, .int .u32 0, .int .u32 0, .slice none 0 0, .int .i64 0, .int .i64 0, .int .i64 0, .int .i64 0, .slice none 0 0, .slice none 0 0] 114)).alloc (.cells #[.func (.func 42) #[.pointer (some ⟨w1'.heap.size, 0, none⟩)] #[], .func (.func 43) #[.pointer (some ⟨w1'.heap.size, 0, none⟩)] #[], .func (.func 44) #[.pointer (some ⟨w1'.heap.size, 0, none⟩)] #[], .func (.func 45) #[.pointer (some ⟨w1'.heap.size, 0, none⟩)] #[]] 31) = x := ⟨_, rfl⟩
 have hsA : (w1'.alloc (.cells #[.pointer (some ⟨F, 0, none⟩), .int .u32 own, .slice (some ⟨mb, mo, none⟩) mn mc, .pointer (some ⟨B, 0, none⟩), .slice (some ⟨b, off, none⟩) L cap, .int .u8 0, .int .u16 0, .bool false, .bool false, .bool false, .int .i64 0, .int .u8 0, .int .u8 0, .int .u32 0, .int .u32 0, .slice none 0 0, .int .i64 0, .int .i64 0, .int .i64 0, .int .i64 0, .slice none 0 0, .slice none 0 0] 114)).heap.size = w1'.heap.size + 1 := World.size_alloc _ _
 have hB := heap_alloc_new (w1'.alloc (.cells #[.pointer (some ⟨F, 0, none⟩), .int .u32 own, .slice (some ⟨mb, mo, none⟩) mn mc, .pointer (some ⟨B, 0, none⟩), .slice (some ⟨b, off, none⟩) L cap, .int .u8 0, .int .u16 0, .bool false, .bool false, .bool false, .int .i64 0, .int .u8 0, .int .u8 0, .int .u32 0, .int .u32 0, .slice none 0 0, .int .i64 0, .int .i64 0, .int .i64 0, .int .i64 0, .slice none 0 0, .slice none 0 0] 114)) (.cells #[.func (.func 42) #[.pointer (some ⟨w1'.heap.size, 0, none⟩)] #[], .func (.func 43) #[.pointer (some ⟨w1'.heap.size, 0, none⟩)] #[], .func (.func 44) #[.pointer (some ⟨w1'.heap.size, 0, none⟩)] #[], .func (.func 45) #[.pointer (some ⟨w1'.heap.size, 0, none⟩)] #[]] 31)
 have hA : ((w1'.alloc (.cells #[.pointer (some ⟨F, 0, none⟩), .int .u32 own, .slice (some ⟨mb, mo, none⟩) mn mc, .pointer (some ⟨B, 0, none⟩), .slice (some ⟨b, off, none⟩) L cap, .int .u8 0, .int .u16 0, .bool false, .bool false, .bool false, .int .i64 0, .int .u8 0, .int .u8 0, .int .u32 0, .int .u32 0, .slice none 0 0, .int .i64 0, .int .i64 0, .int .i64 0, .int .i64 0, .slice none 0 0, .slice none 0 0] 114)).alloc (.cells #[.func (.func 42) #[.pointer (some ⟨w1'.heap.size, 0, none⟩)] #[], .func (.func 43) #[.pointer (some ⟨w1'.heap.size, 0, none⟩)] #[], .func (.func 44) #[.pointer (some ⟨w1'.heap.size, 0, none⟩)] #[], .func (.func 45) #[.pointer (some ⟨w1'.heap.size, 0, none⟩)] #[]] 31)).heap[w1'.heap.size]? = some (.cells #[.pointer (some ⟨F, 0, none⟩), .int .u32 own, .slice (some ⟨mb, mo, none⟩) mn mc, .pointer (some ⟨B, 0, none⟩), .slice (some ⟨b, off, none⟩) L cap, .int .u8 0, .int .u16 0, .bool false, .bool false, .bool false, .int .i64 0, .int .u8 0, .int .u8 0, .int .u32 0, .int .u32 0, .slice none 0 0, .int .i64 0, .int .i64 0, .int .i64 0, .int .i64 0, .slice none 0 0, .slice none 0 0] 114 (0, 0)) := (Below.heap_alloc _ _ _ (by rw [hsA]; exact Nat.lt_succ_self _)).trans (heap_alloc_new w1' _)
 have hG2 : Grow w1' ((w1'.alloc (.cells #[.pointer (some ⟨F, 0, none⟩), .int .u32 own, .slice (some ⟨mb, mo, none⟩) mn mc, .pointer (some ⟨B, 0, none⟩), .slice (some ⟨b, off, none⟩) L cap, .int .u8 0, .int .u16 0, .bool false, .bool false, .bool false, .int .i64 0, .int .u8 0, .int .u8 0, .int .u32 0, .int .u32 0, .slice none 0 0, .int .i64 0, .int .i64 0, .int .i64 0, .int .i64 0, .slice none 0 0, .slice none 0 0] 114)).alloc (.cells #[.func (.func 42) #[.pointer (some ⟨w1'.heap.size, 0, none⟩)] #[], .func (.func 43) #[.pointer (some ⟨w1'.heap.size, 0, none⟩)] #[], .func (.func 44) #[.pointer (some ⟨w1'.heap.size, 0, none⟩)] #[], .func (.func 45) #[.pointer (some ⟨w1'.heap.size, 0, none⟩)] #[]] 31)) := ((Grow.refl w1').alloc _).alloc _
 have hs2 : ((w1'.alloc (.cells #[.pointer (some ⟨F, 0, none⟩), .int .u32 own, .slice (some ⟨mb, mo, none⟩) mn mc, .pointer (some ⟨B, 0, none⟩), .slice (some ⟨b, off, none⟩) L cap, .int .u8 0, .int .u16 0, .bool false, .bool false, .bool false, .int .i64 0, .int .u8 0, .int .u8 0, .int .u32 0, .int .u32 0, .slice none 0 0, .int .i64 0, .int .i64 0, .int .i64 0, .int .i64 0, .slice none 0 0, .slice none 0 0] 114)).alloc (.cells #[.func (.func 42) #[.pointer (some ⟨w1'.heap.size, 0, none⟩)] #[], .func (.func 43) #[.pointer (some ⟨w1'.heap.size, 0, none⟩)] #[], .func (.func 44) #[.pointer (some ⟨w1'.heap.size, 0, none⟩)] #[], .func (.func 45) #[.pointer (some ⟨w1'.heap.size, 0, none⟩)] #[]] 31)).heap.size = w1'.heap.size + 1 + 1 := by rw [World.size_alloc, hsA]
 rw [hsA] at hB
 rw [hw2] at hA hB hG2 hs2 ⊢
 have hRle : w.heap.size ≤ w1'.heap.size := HG1.out.size
 have HFn : Hid (w1'.heap.size ≠ w.heap.size) := by have := lt_of_block HN1.out; show _ ≠ _; omega
 have HN2 := Lib.hid ((hG2.block _ (lt_of_block HN1.out)).trans HN1.out)
 have HG2 := Lib.hid (HG1.out.trans hG2)
 obtain ⟨R, hRR⟩ : ∃ x, w1'.heap.size = x := ⟨_, rfl⟩
 rw [hRR] at hA hB hs2 hRle HFn ⊢
 have HR2 : Hid (RunAt w2 R ⟨.pointer (some ⟨F, 0, none⟩), own, .slice (some ⟨mb, mo, none⟩) mn mc, .pointer (some ⟨B, 0, none⟩), .slice (some ⟨b, off, none⟩) L cap, ⟨0, 0, false, false, false, 0, 0, 0, 0, 0, .slice none 0 0, []⟩, 0, 0, 0, 0, .slice none 0 0, .slice none 0 0⟩) := hA
 have HFB := Lib.hid hB
 have HS2 : Hid (w2.heap.size = R + 1 + 1 ∧ w.heap.size ≤ R) := ⟨hs2, hRle⟩
 clear hw2 hsA hA hB hG2 hs2 hRle hRR HN1 HG1 HN0 HG0 HWr
 have f4 : ∀ x : World, GrowBut (Only R) w2 x → x.heap[R + 1]? = some (.cells #[.func (.func 42) #[.pointer (some ⟨R, 0, none⟩)] #[], .func (.func 43) #[.pointer (some ⟨R, 0, none⟩)] #[], .func (.func 44) #[.pointer (some ⟨R, 0, none⟩)] #[], .func (.func 45) #[.pointer (some ⟨R, 0, none⟩)] #[]] 31 (0, 0)) := fun x hx => (hx.block _ (lt_of_block HFB.out) (fun e => absurd (show R + 1 = R from e) (by omega))).trans HFB.out
 have HF4 := Lib.hid f4
 obtain ⟨d0, d1, d2, d3⟩ := blkB (f4 w2 (GrowBut.refl _ _))
 clear f4
 refine wp_loop_rounds 4 ?_
 rw [rounds_succ]
 go_wp2_with fail
 with_reducible refine (whole_any (HP.out.mono HG2.out) (by have := HL.out; omega) HR2.out rfl (by have := HB0.out; have := HS2.out.2; omega) rfl).mono ?_
 rintro e w3 ⟨rfl, v, u, hr3, hok3, ho3, hg3⟩
 have hbv : BytesV w3 u (pkt h pl) := ⟨pkt_bytes HP.out.raw HP.out.by_, ints_of_owns ho3⟩
 obtain ⟨ub, uo, ul, uc, uz, us, rfl, hpk⟩ := pktAt_of HP.out.raw HP.out.by_ (by have := HGo.out.len; omega) hbv
 have HR3 := Lib.hid hr3
 have HOK3 := Lib.hid hok3
 have HO3 := Lib.hid ho3
 have HG3 := Lib.hid hg3
 have HGw3 := Lib.hid (only_new HG2.out HS2.out.2 hg3)
 have HPk3 := Lib.hid hpk
 have HUl : Hid (ul ≤ 10000) := by have := hpk.lz; have := hpk.z; have := HGo.out.len; show _ ≤ _; omega
 obtain ⟨e0, e1, e2, e3⟩ := blkB (HF4.out w3 HG3.out)
 clear hr3 hok3 ho3 hg3 hbv hpk d0 d1 d2 d3
 go_wp2_with fail
 rw [rounds_succ]
 go_wp2_with fail
 with_reducible refine (fine_any HPk3.out HUl.out HR3.out rfl rfl HGo.out.lt (HGo.out.picks.mono HGw3.out) HGo.out.src HGo.out.dst HOK3.out.body HP.out.raw.good HP.out.raw.len HGo.out.rout).mono ?_
 rintro e w4 ⟨rfl, hr4, hg4⟩
 have HR4 := Lib.hid hr4
 have HG4 := Lib.hid (HG3.out.trans hg4)
 have hbv : BytesV w4 (.slice (some ⟨ub, uo, none⟩) ul uc) (pkt h pl) := ⟨pkt_bytes HP.out.raw HP.out.by_, ints_of_owns (own_but HO3.out hg4 (fun k hk => by have h1 : k = R := hk; have := HS2.out.1; omega))⟩
 obtain ⟨z4, s4, hpk⟩ := pktAt_at HP.out.raw HP.out.by_ (by have := HGo.out.len; omega) hbv
 have HPk4 := Lib.hid hpk
 have HGw4 := Lib.hid (only_new HG2.out HS2.out.2 HG4.out)
 obtain ⟨d0, d1, d2, d3⟩ := blkB (HF4.out w4 HG4.out)
 clear hr4 hg4 hbv hpk e0 e1 e2 e3
 go_wp2_with fail
 rw [rounds_succ]
 go_wp2_with fail
 with_reducible refine (here_any HR4.out rfl).mono ?_
 rintro e w4' ⟨rfl, rfl⟩
 go_wp2_with fail
 rw [rounds_succ]
 go_wp2_with fail
 have hcM : w4'.cell? ⟨mb, mo + port, none⟩ = some (.int .i64 M) := by
  have hc := (HGo.out.mtus.mono HGw4.out).cells port (by
   obtain ⟨a, c, e, _, _⟩ := HGo.out.mtus.shape
   injection e with e1 e2 e3
   have := HGo.out.lt; omega)
  rwa [HGo.out.mtu] at hc
 have hmc : mn ≤ mc := by
  obtain ⟨a, c, e, h1, _⟩ := HGo.out.mtus.shape
  injection e with e1 e2 e3
  omega
 have hM : 68 ≤ M ∧ M ≤ 65535 := by
  have hl : port < ms.length := by
   obtain ⟨a, c, e, _, _⟩ := HGo.out.mtus.shape
   injection e with e1 e2 e3
   have := HGo.out.lt; omega
  have := HGo.out.all (ms.getD port 0) (by rw [List.getD_eq_getElem?_getD, List.getElem?_eq_getElem hl]; exact List.getElem_mem _)
  rw [HGo.out.mtu] at this
  omega
 with_reducible refine (on_any HPk4.out HUl.out HR4.out rfl rfl rfl HGo.out.lt hmc hcM hM HGo.out.df HGo.out.off HGo.out.ttl rfl HGo.out.df rfl rfl).mono ?_
 rintro e w5 ⟨rfl, ov, base, hr5, ho5, hb5, hg5⟩
 obtain ⟨oa, oc, rfl⟩ := ho5.shape
 have HR5 := Lib.hid hr5
 have HO5 := Lib.hid ho5
 have HB5 : Hid (w.heap.size < base ∧ w.heap.size ≤ base) := by have h1 := HG4.out.size; have h2 := HS2.out; constructor <;> omega
 have HGw5 := Lib.hid (only_new HG2.out HS2.out.2 (HG4.out.trans hg5))
 have HN5 := Lib.hid (((HG4.out.trans hg5).block _ (lt_of_block HN2.out) (fun e => HFn.out (show w.heap.size = R from e).symm)).trans HN2.out)
 have hrr := (blkR hr5).2.2.2
 obtain ⟨q18, q19, q20, q21⟩ := hrr
 have q17 := (blkR hr5).2.2.1
 obtain ⟨_, _, _, _, _, _⟩ := q17
 have q18' := (blkR hr5).2.2.2.1
 obtain ⟨n0, n1, n2, n3⟩ := blkB HN5.out
 have nz : ∀ i, w5.frozen? ⟨w.heap.size, i, none⟩ = false := fun i => by simp [World.frozen?, HN5.out]
 have nz0 := nz 0
 have nz1 := nz 1
 have nz2 := nz 2
 have nz3 := nz 3
 clear hr5 ho5 hb5 hg5 d0 d1 d2 d3 nz
 go_wp2_with fail
 generalize hw6 : (((w5.setCell ⟨w.heap.size, 0, none⟩ (.int .i64 0)).setCell ⟨w.heap.size, 1, none⟩ (.int .i64 0)).setCell ⟨w.heap.size, 2, none⟩ (.slice none 0 0)).setCell ⟨w.heap.size, 3, none⟩ (.slice oa (frags h.less pl M).length oc) = w6
 have HN6 : Hid (w6.heap[w.heap.size]? = some (.cells #[.int .i64 0, .int .i64 0, .slice none 0 0, .slice oa (frags h.less pl M).length oc] 48 (0, 0))) := by rw [← hw6]; show _ = _; simp [heap_put, HN5.out, setObj]
 have HG6 : Hid (GrowBut (Only w.heap.size) w5 w6) := by rw [← hw6]; show GrowBut _ _ _; simp only [only_put]; exact GrowBut.refl _ _
 clear hw6 n0 n1 n2 n3 nz0 nz1 nz2 nz3 q18 q19 q20 q21
 obtain ⟨n0, n1, n2, n3⟩ := blkB HN6.out
 refine bodyPost_ret (v := .tuple #[.agg #[.int .i64 0, .int .i64 0, .slice none 0 0, .slice oa (frags h.less pl M).length oc], .int .i64 0]) (by simp [results, Tryz.results18, go_sem, n0, n1, n2, n3]) rfl ?_
 exact ⟨_, base, rfl, HO5.out.but HG6.out (fun k hk => by have h1 : k = w.heap.size := hk; have := HB5.out.1; omega), HB5.out.2, only_new HGw5.out (Nat.le_refl _) HG6.out⟩
end
end Go.Proofs.YtgckhdepnmiejaaGreat
namespace Go.Proofs.YtgckhdepnmiejaaGreat
section
set_option maxRecDepth 100000
open Go.RowKit
def SentR (w : World) (R : Nat) (r : Rn) (port : Nat) (rows : List (List Int)) (e : Ending) (w' : World) : Prop := e = .returned (.bool true) ∧ Onned w R r port rows w'
set_option maxHeartbeats 2000000 in
theorem send_any {w : World} {b off L cap Z S : Nat} {zs : List Int} {h : Hd} {pl : List Int} (p : PktAt w b off L cap Z S zs h pl) (hL : L ≤ 10000) {R : Nat} {r : Rn} (hR : RunAt w R r) (hout : r.out = .slice none 0 0)
  {mb mo mn mc port M : Nat} (hm : r.mtus = .slice (some ⟨mb, mo, none⟩) mn mc) (hp : port < mn) (hmc : mn ≤ mc) (hcM : w.cell? ⟨mb, mo + port, none⟩ = some (.int .i64 M)) (hM : 68 ≤ M ∧ M ≤ 65535) (hdf : h.df = false) (hof : h.off + pl.length ≤ 8000) (hk : PicksTo w r.f h.dst 3 port) :
  Calls Tryz.prog 46 #[.pointer (some ⟨R, 0, none⟩), .slice (some ⟨b, off, none⟩) L cap] w (SentR w R r port (frags h pl M)) := by
 have HPr := Lib.hid (parse_any p hL)
 have HRg : Hid (∀ x, Grow w x → RunAt x R r) := fun x hx => (hx.block _ (lt_of_block hR)).trans hR
 have HW : Hid (∀ x, Grow w x → Calls Tryz.prog 62 #[.pointer (some ⟨R, 0, none⟩), .slice (some ⟨b, off, none⟩) L cap, .int .u32 h.dst] x fun e w' => e = .returned (.tuple #[.int .i64 3, .int .i64 port]) ∧ Grow x w') := fun x hx => way_any (p.mono hx) hL (HRg.out x hx) hm hp (hk.mono hx)
 have HO : Hid (∀ x, Grow w x → Calls Tryz.prog 68 #[.pointer (some ⟨R, 0, none⟩), .int .i64 port, .slice (some ⟨b, off, none⟩) L cap] x fun e w' => e = .returned (.bool true) ∧ ∃ ov, RunAt w' R { r with out := ov } ∧ OutRow w' x.heap.size ov port (frags h pl M) ∧ GrowBut (Only R) x w') := fun x hx => out_any (p.mono hx) hL (HRg.out x hx) hout hm hp hmc ((hx.cell (block_lt hcM)).trans hcM) hM hdf hof
 clear p hL hR hm hp hmc hcM hM hdf hof hk hout
 obtain ⟨F, hF⟩ : ∃ F, frags h pl M = F := ⟨_, rfl⟩
 rw [hF] at HO ⊢
 clear hF
 obtain ⟨tos, id, evil, df, mf, of, ttl, proto, src, dst, hv, os⟩ := h
 dsimp only at HW
 go_enter Tryz.func46, Tryz.ntmps46
 go_wp2_with fail
 with_reducible refine HPr.out.mono ?_
 rintro e w1 ⟨v, u, rfl, hk, hu, hg⟩
 obtain ⟨ua, ul, uc, rfl⟩ : ∃ a l c, u = .slice a l c := by obtain ⟨a, c, h, _, _⟩ := hu.shape; exact ⟨_, _, _, h⟩
 obtain ⟨va, vl, vc, rfl⟩ : ∃ a l c, v = .slice a l c := by obtain ⟨a, c, h, _, _⟩ := hk.body.shape; exact ⟨_, _, _, h⟩
 have HG1 := Lib.hid hg
 clear hg hk hu HPr
 simp only [Hd.val, Hd.cells, hdCells]
 go_upto_region 2 with fail
 have hN := heap_alloc_new w1 (.cells #[.int .u8 tos, .int .u16 id, .bool evil, .bool df, .bool mf, .int .i64 of, .int .u8 ttl, .int .u8 proto, .int .u32 src, .int .u32 dst, .slice va vl vc] 27)
 have hg : Grow w1 (w1.alloc (.cells #[.int .u8 tos, .int .u16 id, .bool evil, .bool df, .bool mf, .int .i64 of, .int .u8 ttl, .int .u8 proto, .int .u32 src, .int .u32 dst, .slice va vl vc] 27)) := (Grow.refl w1).alloc _
 obtain ⟨w2, hw2⟩ : ∃ x, w1.alloc (.cells #[.int .u8 tos, .int .u16 id, .bool evil, .bool df, .bool mf, .int .i64 of, .int .u8 ttl, .int .u8 proto, .int .u32 src, .int .u32 dst, .slice va vl vc] 27) = x := ⟨_, rfl⟩
 rw [hw2] at hN hg ⊢
 have HG2 := Lib.hid (HG1.out.trans hg)
 have c9 := (blkH hN).2.2.2.2.1
 clear hN hg hw2 HG1
 go_wp2_with fail
 with_reducible refine (HW.out _ HG2.out).mono ?_
 rintro e w3 ⟨rfl, hg⟩
 have HG3 := Lib.hid (HG2.out.trans hg)
 clear hg HG2 c9 HW
 go_wp2_with fail
 with_reducible refine (HO.out _ HG3.out).mono ?_
 rintro e w4 ⟨rfl, ov, h1, h2, h3⟩
 have HR := Lib.hid (And.intro h1 (And.intro h2 h3))
 clear h1 h2 h3 HO
 go_wp2_with fail
 refine bodyPost_ret (v := .bool true) (by simp [results, Tryz.results46, go_sem]) rfl ?_
 exact ⟨rfl, ov, _, HR.out.1, HR.out.2.1, HG3.out.size, (only_of HG3.out).trans HR.out.2.2⟩
end
end Go.Proofs.YtgckhdepnmiejaaGreat
