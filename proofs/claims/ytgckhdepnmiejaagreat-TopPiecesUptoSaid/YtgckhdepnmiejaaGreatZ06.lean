/- The closure of ip.Bytes that puts a number's bytes behind the others (and what stands on it). -/
import Derived.Maps.AppendAt
import Derived.Outline
import Derived.Deep.CutBlock
import Derived.Test.YtgckhdepnmiejaaGreatZ01
import Derived.Test.YtgckhdepnmiejaaGreatZ05
set_option linter.unusedVariables false
set_option linter.unusedSimpArgs false
namespace Go.Proofs.YtgckhdepnmiejaaGreat
section
set_option maxRecDepth 100000
open Go.RowKit
theorem run_append_ints_at {P : Program} {w : World} {k : IntKind} (base : Nat) (t ty e : TypeId) (i : TypeInfo) (bytes : Nat) (ht : P.underlying t = some (.slice e)) (hi : P.info? e = some i) (hz : i.zero = some (.int k 0))
  (hsize : i.size = 1) (hby : i.bytes = bytes) (v : Value) (n : Nat) (xs : List Value) (hown : w.ownsRow base e 1 v n xs) (X : Value) (zs : List Int) (hX : IntsV k w X zs)
  (h63 : n + zs.length ≤ maxLen) (hbytes : (n + zs.length) * bytes ≤ 140737488355328) (hbase : base ≤ w.heap.size) :
  ∃ v' w', (Builtin.append_ #[t, t] ty #[v, X]).run P w = .ok v' w' ∧ w'.ownsRow base e 1 v' (n + zs.length) (xs ++ zs.map (Value.int k)) ∧ w.grownBy w' v.ownBlock ∧ (v'.ownBlock = v.ownBlock ∨ v'.ownBlock = some w.heap.size) := by
 rcases hX with ⟨rfl, ao, cap, rfl, _, hn⟩ | ⟨b, off, cap, rfl, _, _, hc⟩
 ·cases ao with
  | none =>
   have := hn rfl
   subst this
   exact ⟨v, w, run_append_owned_none (P := P) (w := w) base t ty e i 1 ht hi v n xs hown, by simpa using hown, ⟨rfl, rfl, rfl, Nat.le_refl _, fun _ _ _ => rfl⟩, Or.inl rfl⟩
  | some a =>
   obtain ⟨v', w', h1, h2, h3, _, h5⟩ := run_append_own_at (P := P) w base t ty e i (.int k 0) 1 bytes ht hi hz hsize hby rfl (by decide) v n xs hown a 0 cap [] (by simp) (by simp) (by simp) (by simpa using h63) (by simpa using hbytes) hbase
   exact ⟨v', w', h1, by simpa using h2, h3, h5⟩
 ·obtain ⟨v', w', h1, h2, h3, _, h5⟩ := run_append_own_at (P := P) w base t ty e i (.int k 0) 1 bytes ht hi hz hsize hby rfl (by decide) v n xs hown ⟨b, off, none⟩ zs.length cap (zs.map (Value.int k)) (by simp)
   (fun j u hu => by
    have hj : j < zs.length := by
     rcases Nat.lt_or_ge j zs.length with h | h
     ·exact h
     ·rw [List.getElem?_eq_none (by simpa using h)] at hu; cases hu
    rw [Addr.add_lit, hc j hj]
    simpa [hj] using hu)
   (fun u hu => by obtain ⟨_, _, rfl⟩ := List.mem_map.1 hu; rfl) h63 hbytes hbase
  exact ⟨v', w', h1, h2, h3, h5⟩
theorem wpList_append_ints_at {P : Program} {w : World} {k : IntKind} {ops : Array Oper} {rest : List Oper} {o : Oper} {a : Act} {Q : Exit → Act → World → Prop} (hgd : o.guard = none) (s x : Operand) (t : TypeId)
  (ho : o.op = .call { callee := .builtin .append, args := #[s, x], argTypes := #[t, t] })
  (base : Nat) (e : TypeId) (i : TypeInfo) (bytes : Nat) (ht : P.underlying t = some (.slice e)) (hi : P.info? e = some i) (hz : i.zero = some (.int k 0)) (hsize : i.size = 1) (hby : i.bytes = bytes)
  (v : Value) (n : Nat) (xs : List Value) (hs : a.eval s = v) (hown : w.ownsRow base e 1 v n xs) (X : Value) (zs : List Int) (hx : a.eval x = X) (hX : IntsV k w X zs)
  (h63 : n + zs.length ≤ maxLen) (hbytes : (n + zs.length) * bytes ≤ 140737488355328) (hbase : base ≤ w.heap.size)
  (h : ∀ v' w', w'.ownsRow base e 1 v' (n + zs.length) (xs ++ zs.map (Value.int k)) → w.grownBy w' v.ownBlock → (v'.ownBlock = v.ownBlock ∨ v'.ownBlock = some w.heap.size) → wpList P ops Q rest (a.put o.dst v') w') : wpList P ops Q (o :: rest) a w :=
 wpList_plain hgd fun K hK => by
  obtain ⟨v', w', hr, h2, h3, h4⟩ := run_append_ints_at (P := P) base t o.type e i bytes ht hi hz hsize hby v n xs hown X zs hX h63 hbytes hbase
  unfold Oper.wp execOp
  simp only [ho, resolve, invoke, builtin, Sem.run_bind, Sem.run_pure, Result.andThen_ok, List.map_toArray, List.map_cons, List.map_nil, hs, hx, hr]
  exact hK _ _ (h v' w' h2 h3 h4)
/-- What the closure may write: new blocks, but for one. -/
def Mv (base A : Nat) : Nat → Prop := fun k => base ≤ k ∧ k ≠ A
/-- The captured variable, in block B, holds a slice of the call's own, of these bytes; it does not lie in B, nor in A. -/
def PutAt (w : World) (B base A : Nat) (zs : List Int) : Prop :=
 ∃ v, w.heap[B]? = some (.cells #[v] 25 (0, 0)) ∧ w.ownsRow base 5 1 v zs.length (zs.map (Value.int .u8)) ∧ v.ownBlock ≠ some B ∧ v.ownBlock ≠ some A
theorem PutAt.grow {w w' : World} {B base A : Nat} {zs : List Int} (h : PutAt w B base A zs) (hg : Grow w w') : PutAt w' B base A zs := by
 obtain ⟨v, h1, h2, h3, h4⟩ := h
 exact ⟨v, (hg.block _ (lt_of_block h1)).trans h1, own_grow h2 hg, h3, h4⟩
set_option maxHeartbeats 2000000 in
theorem put_closure {w : World} {B base A : Nat} {s n : Int} {zs ys : List Int} (HP : ∀ x, Calls Tryz.prog 74 #[.int .u64 n, .int .i64 s] x fun e w' => ∃ v, e = .returned v ∧ NewBytes x ys v w')
  (h : PutAt w B base A zs) (hB : base ≤ B) (hBA : B ≠ A) (hA : A < w.heap.size) (hz : zs.length ≤ 100) (hy : ys.length ≤ 100) :
  Calls Tryz.prog 73 #[.int .u64 n, .int .i64 s, .pointer (some ⟨B, 0, none⟩)] w fun e w' => e = .returned (.tuple #[]) ∧ PutAt w' B base A (zs ++ ys) ∧ GrowBut (Mv base A) w w' := by
 obtain ⟨i0, hi, hz0, hz1, hz2⟩ := info_parts infoByte
 obtain ⟨v, h1, h2, h3, h4⟩ := h
 have H1 := Lib.hid h1
 have H2 := Lib.hid h2
 have HPh := Lib.hid HP
 have hBl := lt_of_block h1
 clear h1 h2 HP
 go_enter Tryz.func73, Tryz.ntmps73
 go_wp2_with fail
 refine wpRg 4 ?_
 simp only [List.take_succ_cons, List.take_zero, List.drop_succ_cons, List.drop_zero]
 refine wpHd v (fun w' hg => ?_) ?_
 ·have hx := cell_of_one ((hg.below.block _ (lt_of_block H1.out)).trans H1.out)
  clear hg
  go_simp
  exact Below.refl _ _
 try go_simp
 repeat (refine wpHp fun K hK => ?_; go_simp; refine hK _ ?_; clear hK K)
 refine wpH_hid' (OwnB w.heap.size ys) (by intro _ _ h; cases h) rfl (by rfl) (fun u x x' hg h => own_grow h hg.below) (by rfl) (by rfl) (fun w' hg => ?_) ?_
 ·have h := HPh.out w'
  have HS := Lib.hid hg.below.size
  clear hg
  go_simp
  with_reducible refine h.mono ?_
  rintro e w1 ⟨u, rfl, hn⟩
  exact ⟨u, rfl, own_less hn.1 HS.out, hn.2⟩
 try go_simp
 refine wpH_nil ?_
 intro xs w1 hg hc hx2
 have hp8 := hx2 _ _ (List.Mem.head _)
 try dsimp only at hp8
 have hb1 := (hg.below.block _ (lt_of_block H1.out)).trans H1.out
 have c0 := cell_of_one hb1
 have HB1 := Lib.hid hb1
 have HO := Lib.hid (own_grow H2.out hg.below)
 have HI := Lib.hid (ints_of_owns hp8)
 have HG1 : Hid (Grow w w1) := hg.below
 have hle : base ≤ w1.heap.size := by have := hg.below.size; omega
 clear hb1 hp8 hc hx2 hg
 simp only [fill]
 generalize xs 8 = y8 at *
 go_simp
 go_wp2_with (at_builtin; refine wpList_append_ints_at (k := .u8) rfl _ _ 25 rfl base 5 i0 1 Tryz.underlying25 hi hz0 hz1 hz2 _ zs.length _ rfl HO.out _ ys rfl HI.out ?c3 ?c4 hle ?_)
 case c3 => unfold maxLen; omega
 case c4 => omega
 ·intro v' w2 hown hgrow hob
  have hB2 : w2.heap[B]? = some (.cells #[v] 25 (0, 0)) := (hgrow.block B (lt_of_block HB1.out) (fun e => h3 e.symm)).trans HB1.out
  have c2 := cell_of_one hB2
  have f2 := free_of_one hB2
  have hs1 := HG1.out.size
  have hnB : v'.ownBlock ≠ some B := by
   rcases hob with e | e
   ·rw [e]; exact h3
   ·rw [e]; intro hh; injection hh with hh; omega
  have hnA : v'.ownBlock ≠ some A := by
   rcases hob with e | e
   ·rw [e]; exact h4
   ·rw [e]; intro hh; injection hh with hh; omega
  have hobv : ∀ j, v.ownBlock = some j → base ≤ j := fun j hj => (HO.out.lt j hj).1
  have HF : Hid (PutAt (w2.setCell ⟨B, 0, none⟩ v') B base A (zs ++ ys) ∧ GrowBut (Mv base A) w (w2.setCell ⟨B, 0, none⟩ v')) := by
   refine ⟨⟨v', one_setCell hB2, ?_, hnB, hnA⟩, ?_⟩
   ·rw [List.length_append, List.map_append]
    obtain ⟨q1, q2⟩ := hown
    refine ⟨q1, ?_⟩
    rcases q2 with q2 | ⟨g, cap, cur, e1, e2, e3, e4⟩
    ·exact Or.inl q2
    ·refine Or.inr ⟨g, cap, cur, e1, e2, (Below.heap_setCell _ _ _ _ (fun hh => hnB (by rw [e1]; show some g = some B; rw [show g = B from hh]))).trans e3, e4⟩
   ·have hg2 : GrowBut (Mv base A) w1 w2 := ⟨hgrow.os, hgrow.tape, hgrow.output, hgrow.size, fun k hk hm => hgrow.block k hk (fun e => hm ⟨hobv k e.symm, fun hh => h4 (by rw [← e, hh])⟩)⟩
    exact ((grow_but HG1.out).trans hg2).setCell (a := ⟨B, 0, none⟩) ⟨hB, hBA⟩ _
  have hsh := hown
  rw [← List.map_append] at hsh
  obtain ⟨ao, cp, rfl, _, _⟩ := (ints_of_owns hsh).shape
  clear hown hgrow hob hB2 hnB hnA hobv hsh
  rw [List.length_append] at HF ⊢
  go_wp2_with fail
  go_end0
  exact ⟨rfl, HF.out.1, HF.out.2⟩
end
end Go.Proofs.YtgckhdepnmiejaaGreat
namespace Go.Proofs.YtgckhdepnmiejaaGreat
section
set_option maxRecDepth 100000
open Go.RowKit
theorem rowsV_shape {w : World} {v : Value} {rows : List (List Int)} (h : RowsV w v rows) : ∃ ao cap, v = .slice ao rows.length cap ∧ rows.length ≤ cap ∧ cap ≤ maxLen := by
 rcases h with ⟨rfl, ao, cap, rfl, h9⟩ | ⟨b, off, cap, rfl, h1, h2, _⟩
 ·exact ⟨ao, cap, rfl, Nat.zero_le _, h9⟩
 ·exact ⟨_, cap, rfl, h1, h2⟩
theorem wrap32 (n : Int) : 0 ≤ IntKind.u32.wrap n ∧ IntKind.u32.wrap n < 4294967296 := by
 have : IntKind.u32.wrap n = n % 4294967296 := by simp [IntKind.wrap, IntKind.signed, IntKind.bits]
 rw [this]; omega
set_option maxHeartbeats 2000000 in
theorem mixed_any {w : World} {u : Value} {rows : List (List Int)} (hr : RowsV w u rows) (hn : rows.length ≤ 100) (hl : ∀ i, (rows.getD i []).length ≤ 10000) :
  Calls Tryz.prog 105 #[u] w fun e w' => (∃ n : Int, 0 ≤ n ∧ n < 4294967296 ∧ e = .returned (.int .u32 n)) ∧ w' = w := by
 obtain ⟨ao, cap, rfl, hcl, hcm⟩ := rowsV_shape hr
 have HR := Lib.hid hr
 have HL := Lib.hid hl
 obtain ⟨L, hL⟩ : ∃ L, rows.length = L := ⟨_, rfl⟩
 rw [hL] at hn hcl ⊢
 have HLL := Lib.hid hL
 clear hr hl hL
 unfold maxLen at hcm
 go_enter Tryz.func105, Tryz.ntmps105
 go_wp2_with fail
 go_loopw [10, 3] (fun i v wr => ∃ (j : Nat) (n : Int), j ≤ L ∧ i = .int .i64 j ∧ v = .int .u32 n ∧ (0 ≤ n ∧ n < 4294967296) ∧ wr = w) (fun i _ _ => L - (intOf i).toNat)
 case atStart => exact ⟨0, 2166136261, Nat.zero_le _, rfl, rfl, by omega, rfl⟩
 case round =>
  obtain ⟨j, n, hj, rfl, rfl, hnb, rfl⟩ := hrel
  by_cases hlt : j < L
  ·obtain ⟨x, b, off, hao, hx, hxs⟩ : ∃ x b off, ao = some ⟨b, off, none⟩ ∧ wr.cell? ⟨b, off + j, none⟩ = some x ∧ BytesV wr x (rows.getD j []) := by
    rcases HR.out with ⟨e, _⟩ | ⟨b, off, c, e, _, _, h4⟩
    ·rw [e] at HLL; have := HLL.out; simp at this; omega
    ·injection e with e1 e2 e3
     obtain ⟨x, hx, hs⟩ := h4 j (by rw [HLL.out]; exact hlt)
     exact ⟨x, b, off, e1, hx, hs⟩
   subst hao
   obtain ⟨xa, xc, rfl, hxl, hxc⟩ := hxs.shape
   have HXS := Lib.hid hxs
   have hlen := HL.out j
   obtain ⟨m, hm⟩ : ∃ m, (rows.getD j []).length = m := ⟨_, rfl⟩
   have HM := Lib.hid hm
   rw [hm] at hx hlen hxl
   clear hxs hm
   unfold maxLen at hxc
   go_wp2_with fail
   go_loopw [16, 3] (fun i v wq => ∃ (k : Nat) (n : Int), k ≤ m ∧ i = .int .i64 k ∧ v = .int .u32 n ∧ (0 ≤ n ∧ n < 4294967296) ∧ wq = wr) (fun i _ _ => m - (intOf i).toNat)
   case atStart => exact ⟨0, n, Nat.zero_le _, rfl, rfl, hnb, rfl⟩
   case round =>
    obtain ⟨k, n2, hk, rfl, rfl, hnb2, rfl⟩ := hrel
    by_cases hkt : k < m
    ·obtain ⟨b2, off2, hxa, hy, hyb⟩ : ∃ b2 off2, xa = some ⟨b2, off2, none⟩ ∧ wr.cell? ⟨b2, off2 + k, none⟩ = some (.int .u8 ((rows.getD j []).getD k 0)) ∧ True := by
      rcases HXS.out.2 with ⟨e, _⟩ | ⟨b2, off2, c, e, _, _, h4⟩
      ·have := HM.out; rw [e] at this; simp at this; omega
      ·injection e with e1 e2 e3
       exact ⟨b2, off2, e1, h4 k (by rw [HM.out]; exact hkt), trivial⟩
     subst hxa
     obtain ⟨y, hyy⟩ : ∃ y, (rows.getD j []).getD k 0 = y := ⟨_, rfl⟩
     rw [hyy] at hy
     clear hyy
     go_wp2_with fail
     go_roundw
     case rel => exact ⟨k + 1, _, by omega, by simp, rfl, wrap32 _, trivial⟩
     case measure => simp [intOf]; omega
    ·go_wp2_with fail
     go_roundw
     case rel => exact ⟨j + 1, _, by omega, by simp, rfl, hnb2, trivial⟩
     case measure => simp [intOf]; omega
  ·go_wp2_with fail
   go_ret
   exact ⟨⟨_, hnb.1, hnb.2, rfl⟩, rfl⟩
end
end Go.Proofs.YtgckhdepnmiejaaGreat
namespace Go.Proofs.YtgckhdepnmiejaaGreat
section
set_option maxRecDepth 100000
open Go.RowKit
set_option maxHeartbeats 1000000 in
theorem fragment_any {tos id off ttl proto src dst : Int} {evil df mf : Bool} {v : Value} (w : World) : Calls Tryz.prog 26 #[.agg #[.int .u8 tos, .int .u16 id, .bool evil, .bool df, .bool mf, .int .i64 off, .int .u8 ttl, .int .u8 proto, .int .u32 src, .int .u32 dst, v]] w
  fun e w' => e = .returned (.bool (mf || decide (0 < off))) ∧ Grow w w' := by
 have hN := heap_alloc_new w (.cells #[.int .u8 tos, .int .u16 id, .bool evil, .bool df, .bool mf, .int .i64 off, .int .u8 ttl, .int .u8 proto, .int .u32 src, .int .u32 dst, v] 27)
 have HG : Hid (Grow w (w.alloc (.cells #[.int .u8 tos, .int .u16 id, .bool evil, .bool df, .bool mf, .int .i64 off, .int .u8 ttl, .int .u8 proto, .int .u32 src, .int .u32 dst, v] 27))) := (Grow.refl w).alloc _
 obtain ⟨⟨c0, c1, c2, c3, c4, c5⟩, c6, c7, c8, c9, c10⟩ := blkH hN
 clear hN
 cases mf with
 | true =>
  go_enter Tryz.func26, Tryz.ntmps26
  go_wp2_with fail
  go_ret
  exact ⟨by first | rfl | simp, HG.out⟩
 | false =>
  go_enter Tryz.func26, Tryz.ntmps26
  go_wp2_with fail
  go_ret
  exact ⟨by first | rfl | simp, HG.out⟩
def HeldB (zs : List Int) (u : Value) (x : World) : Prop := BytesV x u zs
theorem HeldB.mono {zs : List Int} {u : Value} {x x' : World} (h : HeldB zs u x) (hg : Grow x x') : HeldB zs u x' := BytesV.mono h hg
def U32V (u : Value) (x : World) : Prop := ∃ n : Int, 0 ≤ n ∧ n < 4294967296 ∧ u = .int .u32 n
def HeldR (rows : List (List Int)) (u : Value) (x : World) : Prop := RowsV x u rows
theorem bytes_take {w : World} {ao : Option Addr} {n c : Nat} {zs : List Int} (h : BytesV w (.slice ao n c) zs) {k : Nat} (hk : k ≤ zs.length) : BytesV w (.slice ao k c) (zs.take k) := by
 refine ⟨fun x hx => h.1 x (List.mem_of_mem_take hx), ?_⟩
 rcases h.2 with ⟨rfl, a, c', e, h1, h2⟩ | ⟨b, off, c', e, h1, h2, h3⟩
 ·injection e with e1 e2 e3
  subst e1 e3
  have h0 : k = 0 := by simpa using hk
  subst h0
  exact Or.inl ⟨rfl, _, _, rfl, h1, h2⟩
 ·injection e with e1 e2 e3
  subst e1 e3
  have hl : (zs.take k).length = k := by rw [List.length_take]; omega
  refine Or.inr ⟨b, off, _, by rw [hl], by omega, h2, fun i hi => ?_⟩
  rw [hl] at hi
  rw [h3 i (by omega)]
  simp only [List.getD_eq_getElem?_getD]
  rw [List.getElem?_take_of_lt hi]
def ABool (c : Value) : Prop := ∃ x : Bool, c = .bool x
set_option maxHeartbeats 8000000 in
theorem hash_any {w : World} {b off L cap Z S : Nat} {zs : List Int} {h : Hd} {pl : List Int} (p : PktAt w b off L cap Z S zs h pl) (hL : L ≤ 10000) :
  Calls Tryz.prog 86 #[.slice (some ⟨b, off, none⟩) L cap] w fun e w' => (∃ n : Int, 0 ≤ n ∧ n < 4294967296 ∧ e = .returned (.tuple #[.int .u32 n, .int .i64 0])) ∧ Grow w w' := by
 have HPa := Lib.hid (parse_any p hL)
 have hlz := p.lz
 have HB := Lib.hid p.by_
 have hpl : pl.length ≤ 10000 := by omega
 have hpr := p.raw.proto
 have hsr := p.raw.src
 have hds := p.raw.dst
 clear p hlz
 go_enter Tryz.func86, Tryz.ntmps86
 go_wp2_with fail
 with_reducible refine HPa.out.mono ?_
 rintro e w1 ⟨v, u, rfl, hok, hu, hg⟩
 have HG1 := Lib.hid hg
 have hbo : BytesV w1 v h.os := hok.body
 obtain ⟨ao, c1, rfl, _, _⟩ := hbo.shape
 obtain ⟨bo, c2, rfl, hc21, hc22⟩ := hu.shape
 unfold maxLen at hc22
 have HU := Lib.hid hu
 clear hok hu hg HPa hbo
 obtain ⟨tos, id, evil, df, mf, of, ttl, proto, src, dst, v0, os⟩ := h
 unfold U8 at hpr
 unfold U32 at hsr hds
 simp only [Hd.val, Hd.cells, hdCells] at *
 obtain ⟨w2, hw2⟩ : ∃ x, w1.alloc (.cells #[.int .u8 tos, .int .u16 id, .bool evil, .bool df, .bool mf, .int .i64 of, .int .u8 ttl, .int .u8 proto, .int .u32 src, .int .u32 dst, .slice ao os.length c1] 27) = x := ⟨_, rfl⟩
 have hH := heap_alloc_new w1 (.cells #[.int .u8 tos, .int .u16 id, .bool evil, .bool df, .bool mf, .int .i64 of, .int .u8 ttl, .int .u8 proto, .int .u32 src, .int .u32 dst, .slice ao os.length c1] 27)
 have hG2 : Grow w1 (w1.alloc (.cells #[.int .u8 tos, .int .u16 id, .bool evil, .bool df, .bool mf, .int .i64 of, .int .u8 ttl, .int .u8 proto, .int .u32 src, .int .u32 dst, .slice ao os.length c1] 27)) := (Grow.refl w1).alloc _
 rw [hw2] at hH hG2
 have HH := Lib.hid hH
 have HG2 := Lib.hid (HG1.out.trans hG2)
 have HU2 := Lib.hid (HU.out.mono hG2)
 obtain ⟨⟨c0, c1', c2', c3, c4, c5⟩, c6, c7, c8, c9, c10⟩ := blkH hH
 clear hH hG2 HU
 go_wp2_with fail
 with_reducible refine (wput_4 src w2 hsr).mono ?_
 rintro e w3 ⟨v3, rfl, hn3⟩
 have hb3 := newb_bytes hn3 (bel_bytes 4 src)
 obtain ⟨a3, k3, rfl, _, _⟩ := hb3.shape
 have HB3 := Lib.hid hb3
 have HG3 := Lib.hid hn3.2
 obtain ⟨⟨e0, e1', e2', e3, e4, e5⟩, e6, e7, e8, e9, e10⟩ := blkH ((hn3.2.block _ (lt_of_block HH.out)).trans HH.out)
 clear hn3 hb3 c0 c1' c2' c3 c4 c5 c6 c7 c8 c9 c10
 go_wp2_with fail
 with_reducible refine (wput_4 dst w3 hds).mono ?_
 rintro e w4 ⟨v4, rfl, hn4⟩
 have hb4 := newb_bytes hn4 (bel_bytes 4 dst)
 obtain ⟨a4, k4, rfl, _, _⟩ := hb4.shape
 have HB4 := Lib.hid hb4
 have HG4 := Lib.hid (HG3.out.trans hn4.2)
 have HB34 := Lib.hid (HB3.out.mono hn4.2)
 have HH4 := Lib.hid ((HG4.out.block _ (lt_of_block HH.out)).trans HH.out)
 clear hn4 hb4 e0 e1' e2' e3 e4 e5 e6 e7 e8 e9 e10 HB3 HG3
 obtain ⟨⟨c0, c1', c2', c3, c4, c5⟩, c6, c7, c8, c9, c10⟩ := blkH HH4.out
 go_upto_region 6 with fail
 go_cut [49] from 33 to 49 (fun c wx => ABool c ∧ Hid (Grow w4 wx))
 case first =>
  obtain ⟨q, hq⟩ : ∃ q, proto = q := ⟨_, rfl⟩
  rw [hq] at c7
  clear hq
  have HR : Hid (Grow w4 w4) := Grow.refl w4
  (go_wp2_with (go_at_call 26; refine (fragment_any _).mono ?_; rintro e w' ⟨he, hg⟩; generalize (_ || _) = fb at he; subst he; have HG5 := Lib.hid hg; clear hg)) <;> (go_meet; first | exact ⟨⟨_, rfl⟩, HG5.out⟩ | exact ⟨⟨_, rfl⟩, HR.out⟩)
 case rest =>
  obtain ⟨⟨c, rfl⟩, HG5⟩ := hcut
  have HQ : Hid (∀ x : World, BytesV (x.alloc (.cells #[.int .u8 proto] 5)) (.slice (some ⟨x.heap.size, 0, none⟩) 1 1) [proto]) := fun x => by
   refine ⟨fun y hy => by rw [List.mem_singleton.1 hy]; exact hpr, Or.inr ⟨x.heap.size, 0, 1, rfl, Nat.le_refl _, by unfold maxLen; omega, fun i hi => ?_⟩⟩
   have h0 : i = 0 := by simp at hi; exact hi
   subst h0
   exact cell_new x [.int .u8 proto] 5 0 _ rfl
  clear c0 c1' c2' c3 c4 c5 c6 c7 c8 c9 c10
  cases c
  ·by_cases hge : 4 ≤ pl.length
   ·have hlt : ¬ ((pl.length : Int) < 4) := by omega
    have hlt2 : (4 : Int) ≤ (c2 : Int) := by omega
    have hmn : (if (pl.length : Int) < 4 then (pl.length : Int) else 4) = 4 := if_neg hlt
    have HC7 : Hid (wc.heap[w1.heap.size]? = some (.cells #[.int .u8 tos, .int .u16 id, .bool evil, .bool df, .bool mf, .int .i64 of, .int .u8 ttl, .int .u8 proto, .int .u32 src, .int .u32 dst, .slice ao os.length c1] 27 (0, 0))) := (HG5.out.block _ (lt_of_block HH4.out)).trans HH4.out
    have HROW : Hid (∀ x : World, Grow wc x → ∀ q, BytesV x q [proto] → RowsV (x.alloc (.cells #[.slice a3 (bel 4 src).length k3, .slice a4 (bel 4 dst).length k4, q, .slice bo 4 c2] 25)) (.slice (some ⟨x.heap.size, 0, none⟩) 4 4) [bel 4 src, bel 4 dst, [proto], (pl.take 4)]) := fun x hx q hq => by
     have h1 := HB34.out.mono (HG5.out.trans hx)
     have h2 := HB4.out.mono (HG5.out.trans hx)
     have h4 : BytesV x (.slice bo 4 c2) (pl.take 4) := bytes_take (HU2.out.mono (HG4.out.trans (HG5.out.trans hx))) hge
     refine rows_new (w := x) [.slice a3 (bel 4 src).length k3, .slice a4 (bel 4 dst).length k4, q, .slice bo 4 c2] [bel 4 src, bel 4 dst, [proto], (pl.take 4)] 25 rfl (by simp [maxLen]) (fun i y hy => ?_)
     match i, hy with
     | 0, hy => simp at hy; subst hy; exact h1
     | 1, hy => simp at hy; subst hy; exact h2
     | 2, hy => simp at hy; subst hy; exact hq
     | 3, hy => simp at hy; subst hy; exact h4
    have HMX : Hid (∀ x u, RowsV x u [bel 4 src, bel 4 dst, [proto], (pl.take 4)] → Calls Tryz.prog 105 #[u] x fun e w' => (∃ n : Int, 0 ≤ n ∧ n < 4294967296 ∧ e = .returned (.int .u32 n)) ∧ w' = x) := fun x u hx => mixed_any hx (by simp) (fun i => by
     match i with
     | 0 => simp [bel_length]
     | 1 => simp [bel_length]
     | 2 => simp
     | 3 => simp; try omega
     | (i + 4) => simp)
    go_wp2_with fail
    refine wpRg 14 ?_
    simp only [List.take_succ_cons, List.take_zero, List.drop_succ_cons, List.drop_zero]
    repeat (refine wpHp fun K hK => ?_; go_simp; refine hK _ ?_; clear hK K)
    refine wpHd (.int .u8 proto) (fun w' hg => ?_) ?_
    ·have hx := (blkH ((hg.below.block _ (lt_of_block HC7.out)).trans HC7.out)).2.2.1
     clear hg
     go_simp
     exact Below.refl _ _
    try go_simp
    refine wpH_hid' (HeldB [proto]) (by intro _ _ h; cases h) rfl (by rfl) (fun u x x' hg h => h.mono hg.below) (by rfl) (by rfl) (fun w' hg => ?_) ?_
    ·have hq := HQ.out w'
     clear hg
     go_simp
     exact ⟨hq, (Below.refl _ _).alloc (Nat.le_refl _) _⟩
    try go_simp
    repeat (refine wpHp fun K hK => ?_; go_simp; refine hK _ ?_; clear hK K)
    refine wpH_hid (HeldR [bel 4 src, bel 4 dst, [proto], (pl.take 4)]) rfl (by rfl) (fun u x x' hg h => RowsV.mono h hg.below) (fun xs => by rfl) (fun xs w' hg hf => ?_) ?_
    ·have h1 := hf _ (List.Mem.head _) (by rfl)
     dsimp only at h1
     simp only [fill]
     generalize xs 54 = y at *
     have hr := HROW.out w' hg.below y h1
     obtain ⟨ya, yc, rfl, _, _⟩ := BytesV.shape h1
     have HR := Lib.hid hr
     clear hf hg h1 hr
     go_simp
     exact ⟨HR.out, (Below.refl _ _).alloc (Nat.le_refl _) _⟩
    try go_simp
    refine wpH_hid U32V rfl (by rfl) (fun u x x' hg h => h) (fun xs => by rfl) (fun xs w' hg hf => ?_) ?_
    ·have h1 := hf _ (List.Mem.head _) (by rfl)
     dsimp only at h1
     simp only [fill]
     generalize xs 60 = y at *
     have hm := HMX.out w' y h1
     clear hf hg h1
     go_simp
     refine hm.mono ?_
     rintro e w'' ⟨⟨n, hn1, hn2, rfl⟩, rfl⟩
     exact ⟨_, rfl, ⟨n, hn1, hn2, rfl⟩, Below.refl _ _⟩
    try go_simp
    refine wpH_hid U32V rfl (by rfl) (fun u x x' hg h => h) (fun xs => by rfl) (fun xs w' hg hf => ?_) ?_
    ·have h1 := hf _ (List.Mem.head _) (by rfl)
     dsimp only at h1
     simp only [fill]
     generalize xs 61 = y at *
     clear hf hg
     obtain ⟨n, hn1, hn2, rfl⟩ := h1
     go_simp
     exact ⟨⟨n, hn1, hn2, rfl⟩, Below.refl _ _⟩
    try go_simp
    repeat (refine wpHp fun K hK => ?_; go_simp; refine hK _ ?_; clear hK K)
    refine wpH_nil ?_
    intro xs wd hg hx1 hx2
    have hy := hx2 _ _ (List.Mem.head _)
    try dsimp only at hy
    have HGd : Hid (Grow w wd) := HG2.out.trans (HG4.out.trans (HG5.out.trans hg.below))
    clear hg hx1 hx2
    simp only [fill]
    generalize xs 2 = y2 at *
    generalize xs 54 = y54 at *
    generalize xs 60 = y60 at *
    generalize xs 61 = y61 at *
    obtain ⟨n, hn1, hn2, rfl⟩ := hy
    go_simp
    go_wp2_with fail
    go_ret2
    exact ⟨⟨n, hn1, hn2, rfl⟩, HGd.out⟩
   ·have hlt : (pl.length : Int) < 4 := by omega
    have hlt2 : (pl.length : Int) ≤ (c2 : Int) := by omega
    have hmn : (if (pl.length : Int) < 4 then (pl.length : Int) else 4) = (pl.length : Int) := if_pos hlt
    have HC7 : Hid (wc.heap[w1.heap.size]? = some (.cells #[.int .u8 tos, .int .u16 id, .bool evil, .bool df, .bool mf, .int .i64 of, .int .u8 ttl, .int .u8 proto, .int .u32 src, .int .u32 dst, .slice ao os.length c1] 27 (0, 0))) := (HG5.out.block _ (lt_of_block HH4.out)).trans HH4.out
    have HROW : Hid (∀ x : World, Grow wc x → ∀ q, BytesV x q [proto] → RowsV (x.alloc (.cells #[.slice a3 (bel 4 src).length k3, .slice a4 (bel 4 dst).length k4, q, .slice bo pl.length c2] 25)) (.slice (some ⟨x.heap.size, 0, none⟩) 4 4) [bel 4 src, bel 4 dst, [proto], pl]) := fun x hx q hq => by
     have h1 := HB34.out.mono (HG5.out.trans hx)
     have h2 := HB4.out.mono (HG5.out.trans hx)
     have h4 : BytesV x (.slice bo pl.length c2) pl := HU2.out.mono (HG4.out.trans (HG5.out.trans hx))
     refine rows_new (w := x) [.slice a3 (bel 4 src).length k3, .slice a4 (bel 4 dst).length k4, q, .slice bo pl.length c2] [bel 4 src, bel 4 dst, [proto], pl] 25 rfl (by simp [maxLen]) (fun i y hy => ?_)
     match i, hy with
     | 0, hy => simp at hy; subst hy; exact h1
     | 1, hy => simp at hy; subst hy; exact h2
     | 2, hy => simp at hy; subst hy; exact hq
     | 3, hy => simp at hy; subst hy; exact h4
    have HMX : Hid (∀ x u, RowsV x u [bel 4 src, bel 4 dst, [proto], pl] → Calls Tryz.prog 105 #[u] x fun e w' => (∃ n : Int, 0 ≤ n ∧ n < 4294967296 ∧ e = .returned (.int .u32 n)) ∧ w' = x) := fun x u hx => mixed_any hx (by simp) (fun i => by
     match i with
     | 0 => simp [bel_length]
     | 1 => simp [bel_length]
     | 2 => simp
     | 3 => simp; try omega
     | (i + 4) => simp)
    go_wp2_with fail
    refine wpRg 14 ?_
    simp only [List.take_succ_cons, List.take_zero, List.drop_succ_cons, List.drop_zero]
    repeat (refine wpHp fun K hK => ?_; go_simp; refine hK _ ?_; clear hK K)
    refine wpHd (.int .u8 proto) (fun w' hg => ?_) ?_
    ·have hx := (blkH ((hg.below.block _ (lt_of_block HC7.out)).trans HC7.out)).2.2.1
     clear hg
     go_simp
     exact Below.refl _ _
    try go_simp
    refine wpH_hid' (HeldB [proto]) (by intro _ _ h; cases h) rfl (by rfl) (fun u x x' hg h => h.mono hg.below) (by rfl) (by rfl) (fun w' hg => ?_) ?_
    ·have hq := HQ.out w'
     clear hg
     go_simp
     exact ⟨hq, (Below.refl _ _).alloc (Nat.le_refl _) _⟩
    try go_simp
    repeat (refine wpHp fun K hK => ?_; go_simp; refine hK _ ?_; clear hK K)
    refine wpH_hid (HeldR [bel 4 src, bel 4 dst, [proto], pl]) rfl (by rfl) (fun u x x' hg h => RowsV.mono h hg.below) (fun xs => by rfl) (fun xs w' hg hf => ?_) ?_
    ·have h1 := hf _ (List.Mem.head _) (by rfl)
     dsimp only at h1
     simp only [fill]
     generalize xs 54 = y at *
     have hr := HROW.out w' hg.below y h1
     obtain ⟨ya, yc, rfl, _, _⟩ := BytesV.shape h1
     have HR := Lib.hid hr
     clear hf hg h1 hr
     go_simp
     exact ⟨HR.out, (Below.refl _ _).alloc (Nat.le_refl _) _⟩
    try go_simp
    refine wpH_hid U32V rfl (by rfl) (fun u x x' hg h => h) (fun xs => by rfl) (fun xs w' hg hf => ?_) ?_
    ·have h1 := hf _ (List.Mem.head _) (by rfl)
     dsimp only at h1
     simp only [fill]
     generalize xs 60 = y at *
     have hm := HMX.out w' y h1
     clear hf hg h1
     go_simp
     refine hm.mono ?_
     rintro e w'' ⟨⟨n, hn1, hn2, rfl⟩, rfl⟩
     exact ⟨_, rfl, ⟨n, hn1, hn2, rfl⟩, Below.refl _ _⟩
    try go_simp
    refine wpH_hid U32V rfl (by rfl) (fun u x x' hg h => h) (fun xs => by rfl) (fun xs w' hg hf => ?_) ?_
    ·have h1 := hf _ (List.Mem.head _) (by rfl)
     dsimp only at h1
     simp only [fill]
     generalize xs 61 = y at *
     clear hf hg
     obtain ⟨n, hn1, hn2, rfl⟩ := h1
     go_simp
     exact ⟨⟨n, hn1, hn2, rfl⟩, Below.refl _ _⟩
    try go_simp
    repeat (refine wpHp fun K hK => ?_; go_simp; refine hK _ ?_; clear hK K)
    refine wpH_nil ?_
    intro xs wd hg hx1 hx2
    have hy := hx2 _ _ (List.Mem.head _)
    try dsimp only at hy
    have HGd : Hid (Grow w wd) := HG2.out.trans (HG4.out.trans (HG5.out.trans hg.below))
    clear hg hx1 hx2
    simp only [fill]
    generalize xs 2 = y2 at *
    generalize xs 54 = y54 at *
    generalize xs 60 = y60 at *
    generalize xs 61 = y61 at *
    obtain ⟨n, hn1, hn2, rfl⟩ := hy
    go_simp
    go_wp2_with fail
    go_ret2
    exact ⟨⟨n, hn1, hn2, rfl⟩, HGd.out⟩
  ·have HC7 : Hid (wc.heap[w1.heap.size]? = some (.cells #[.int .u8 tos, .int .u16 id, .bool evil, .bool df, .bool mf, .int .i64 of, .int .u8 ttl, .int .u8 proto, .int .u32 src, .int .u32 dst, .slice ao os.length c1] 27 (0, 0))) := (HG5.out.block _ (lt_of_block HH4.out)).trans HH4.out
   have HROW : Hid (∀ x : World, Grow wc x → ∀ q, BytesV x q [proto] → RowsV (x.alloc (.cells #[.slice a3 (bel 4 src).length k3, .slice a4 (bel 4 dst).length k4, q, .slice none 0 0] 25)) (.slice (some ⟨x.heap.size, 0, none⟩) 4 4) [bel 4 src, bel 4 dst, [proto], []]) := fun x hx q hq => by
    have h1 := HB34.out.mono (HG5.out.trans hx)
    have h2 := HB4.out.mono (HG5.out.trans hx)
    have h4 : BytesV x (.slice none 0 0) [] := ⟨Bytes.nil, Or.inl ⟨rfl, none, 0, rfl, by unfold maxLen; omega, fun _ => rfl⟩⟩
    refine rows_new (w := x) [.slice a3 (bel 4 src).length k3, .slice a4 (bel 4 dst).length k4, q, .slice none 0 0] [bel 4 src, bel 4 dst, [proto], []] 25 rfl (by simp [maxLen]) (fun i y hy => ?_)
    match i, hy with
    | 0, hy => simp at hy; subst hy; exact h1
    | 1, hy => simp at hy; subst hy; exact h2
    | 2, hy => simp at hy; subst hy; exact hq
    | 3, hy => simp at hy; subst hy; exact h4
   have HMX : Hid (∀ x u, RowsV x u [bel 4 src, bel 4 dst, [proto], []] → Calls Tryz.prog 105 #[u] x fun e w' => (∃ n : Int, 0 ≤ n ∧ n < 4294967296 ∧ e = .returned (.int .u32 n)) ∧ w' = x) := fun x u hx => mixed_any hx (by simp) (fun i => by
    match i with
    | 0 => simp [bel_length]
    | 1 => simp [bel_length]
    | 2 => simp
    | 3 => simp; try omega
    | (i + 4) => simp)
   go_wp2_with fail
   refine wpRg 14 ?_
   simp only [List.take_succ_cons, List.take_zero, List.drop_succ_cons, List.drop_zero]
   repeat (refine wpHp fun K hK => ?_; go_simp; refine hK _ ?_; clear hK K)
   refine wpHd (.int .u8 proto) (fun w' hg => ?_) ?_
   ·have hx := (blkH ((hg.below.block _ (lt_of_block HC7.out)).trans HC7.out)).2.2.1
    clear hg
    go_simp
    exact Below.refl _ _
   try go_simp
   refine wpH_hid' (HeldB [proto]) (by intro _ _ h; cases h) rfl (by rfl) (fun u x x' hg h => h.mono hg.below) (by rfl) (by rfl) (fun w' hg => ?_) ?_
   ·have hq := HQ.out w'
    clear hg
    go_simp
    exact ⟨hq, (Below.refl _ _).alloc (Nat.le_refl _) _⟩
   try go_simp
   repeat (refine wpHp fun K hK => ?_; go_simp; refine hK _ ?_; clear hK K)
   refine wpH_hid (HeldR [bel 4 src, bel 4 dst, [proto], []]) rfl (by rfl) (fun u x x' hg h => RowsV.mono h hg.below) (fun xs => by rfl) (fun xs w' hg hf => ?_) ?_
   ·have h1 := hf _ (List.Mem.head _) (by rfl)
    dsimp only at h1
    simp only [fill]
    generalize xs 54 = y at *
    have hr := HROW.out w' hg.below y h1
    obtain ⟨ya, yc, rfl, _, _⟩ := BytesV.shape h1
    have HR := Lib.hid hr
    clear hf hg h1 hr
    go_simp
    exact ⟨HR.out, (Below.refl _ _).alloc (Nat.le_refl _) _⟩
   try go_simp
   refine wpH_hid U32V rfl (by rfl) (fun u x x' hg h => h) (fun xs => by rfl) (fun xs w' hg hf => ?_) ?_
   ·have h1 := hf _ (List.Mem.head _) (by rfl)
    dsimp only at h1
    simp only [fill]
    generalize xs 60 = y at *
    have hm := HMX.out w' y h1
    clear hf hg h1
    go_simp
    refine hm.mono ?_
    rintro e w'' ⟨⟨n, hn1, hn2, rfl⟩, rfl⟩
    exact ⟨_, rfl, ⟨n, hn1, hn2, rfl⟩, Below.refl _ _⟩
   try go_simp
   refine wpH_hid U32V rfl (by rfl) (fun u x x' hg h => h) (fun xs => by rfl) (fun xs w' hg hf => ?_) ?_
   ·have h1 := hf _ (List.Mem.head _) (by rfl)
    dsimp only at h1
    simp only [fill]
    generalize xs 61 = y at *
    clear hf hg
    obtain ⟨n, hn1, hn2, rfl⟩ := h1
    go_simp
    exact ⟨⟨n, hn1, hn2, rfl⟩, Below.refl _ _⟩
   try go_simp
   repeat (refine wpHp fun K hK => ?_; go_simp; refine hK _ ?_; clear hK K)
   refine wpH_nil ?_
   intro xs wd hg hx1 hx2
   have hy := hx2 _ _ (List.Mem.head _)
   try dsimp only at hy
   have HGd : Hid (Grow w wd) := HG2.out.trans (HG4.out.trans (HG5.out.trans hg.below))
   clear hg hx1 hx2
   simp only [fill]
   generalize xs 2 = y2 at *
   generalize xs 54 = y54 at *
   generalize xs 60 = y60 at *
   generalize xs 61 = y61 at *
   obtain ⟨n, hn1, hn2, rfl⟩ := hy
   go_simp
   go_wp2_with fail
   go_ret2
   exact ⟨⟨n, hn1, hn2, rfl⟩, HGd.out⟩
end
end Go.Proofs.YtgckhdepnmiejaaGreat
namespace Go.Proofs.YtgckhdepnmiejaaGreat
section
set_option maxRecDepth 100000
open Go.RowKit
structure Rn where
 f : Value
 own : Int
 mtus : Value
 b : Value
 packet : Value
 h : Hd
 kind : Int
 port : Int
 drop : Int
 err : Int
 loc : Value
 out : Value
def Rn.cells (r : Rn) : Array Value := #[r.f, .int .u32 r.own, r.mtus, r.b, r.packet, .int .u8 r.h.tos, .int .u16 r.h.id, .bool r.h.evil, .bool r.h.df, .bool r.h.mf, .int .i64 r.h.off, .int .u8 r.h.ttl, .int .u8 r.h.proto, .int .u32 r.h.src, .int .u32 r.h.dst, r.h.v, .int .i64 r.kind, .int .i64 r.port, .int .i64 r.drop, .int .i64 r.err, r.loc, r.out]
def RunAt (w : World) (R : Nat) (r : Rn) : Prop := w.heap[R]? = some (.cells r.cells 114 (0, 0))
theorem blkR {w : World} {B : Nat} {T : TypeId} {x0 x1 x2 x3 x4 x5 x6 x7 x8 x9 x10 x11 x12 x13 x14 x15 x16 x17 x18 x19 x20 x21 : Value} (hh : w.heap[B]? = some (.cells #[x0, x1, x2, x3, x4, x5, x6, x7, x8, x9, x10, x11, x12, x13, x14, x15, x16, x17, x18, x19, x20, x21] T (0, 0))) :
  (w.cell? ⟨B, 0, none⟩ = some x0 ∧ w.cell? ⟨B, 1, none⟩ = some x1 ∧ w.cell? ⟨B, 2, none⟩ = some x2 ∧ w.cell? ⟨B, 3, none⟩ = some x3 ∧ w.cell? ⟨B, 4, none⟩ = some x4 ∧ w.cell? ⟨B, 5, none⟩ = some x5) ∧ (w.cell? ⟨B, 6, none⟩ = some x6 ∧ w.cell? ⟨B, 7, none⟩ = some x7 ∧ w.cell? ⟨B, 8, none⟩ = some x8 ∧ w.cell? ⟨B, 9, none⟩ = some x9 ∧ w.cell? ⟨B, 10, none⟩ = some x10 ∧ w.cell? ⟨B, 11, none⟩ = some x11) ∧ (w.cell? ⟨B, 12, none⟩ = some x12 ∧ w.cell? ⟨B, 13, none⟩ = some x13 ∧ w.cell? ⟨B, 14, none⟩ = some x14 ∧ w.cell? ⟨B, 15, none⟩ = some x15 ∧ w.cell? ⟨B, 16, none⟩ = some x16 ∧ w.cell? ⟨B, 17, none⟩ = some x17) ∧ w.cell? ⟨B, 18, none⟩ = some x18 ∧ w.cell? ⟨B, 19, none⟩ = some x19 ∧ w.cell? ⟨B, 20, none⟩ = some x20 ∧ w.cell? ⟨B, 21, none⟩ = some x21 := by
 refine ⟨⟨?_, ?_, ?_, ?_, ?_, ?_⟩, ⟨?_, ?_, ?_, ?_, ?_, ?_⟩, ⟨?_, ?_, ?_, ?_, ?_, ?_⟩, ?_, ?_, ?_, ?_⟩ <;> simp [World.cell?, hh]
theorem blkRz {w : World} {B : Nat} {T : TypeId} {cs : Array Value} (hh : w.heap[B]? = some (.cells cs T (0, 0))) :
  (w.frozen? ⟨B, 0, none⟩ = false ∧ w.frozen? ⟨B, 1, none⟩ = false ∧ w.frozen? ⟨B, 2, none⟩ = false ∧ w.frozen? ⟨B, 3, none⟩ = false ∧ w.frozen? ⟨B, 4, none⟩ = false ∧ w.frozen? ⟨B, 5, none⟩ = false) ∧ (w.frozen? ⟨B, 6, none⟩ = false ∧ w.frozen? ⟨B, 7, none⟩ = false ∧ w.frozen? ⟨B, 8, none⟩ = false ∧ w.frozen? ⟨B, 9, none⟩ = false ∧ w.frozen? ⟨B, 10, none⟩ = false ∧ w.frozen? ⟨B, 11, none⟩ = false) ∧ (w.frozen? ⟨B, 12, none⟩ = false ∧ w.frozen? ⟨B, 13, none⟩ = false ∧ w.frozen? ⟨B, 14, none⟩ = false ∧ w.frozen? ⟨B, 15, none⟩ = false ∧ w.frozen? ⟨B, 16, none⟩ = false ∧ w.frozen? ⟨B, 17, none⟩ = false) ∧ w.frozen? ⟨B, 18, none⟩ = false ∧ w.frozen? ⟨B, 19, none⟩ = false ∧ w.frozen? ⟨B, 20, none⟩ = false ∧ w.frozen? ⟨B, 21, none⟩ = false := by
 refine ⟨⟨?_, ?_, ?_, ?_, ?_, ?_⟩, ⟨?_, ?_, ?_, ?_, ?_, ?_⟩, ⟨?_, ?_, ?_, ?_, ?_, ?_⟩, ?_, ?_, ?_, ?_⟩ <;> simp [World.frozen?, hh]
/-- One block. -/
def Only (R : Nat) (k : Nat) : Prop := k = R
theorem grow_only {R : Nat} {w w' : World} (h : GrowBut (Only R) w w') (hR : w'.heap[R]? = w.heap[R]?) : Grow w w' :=
 ⟨h.os, h.tape, h.output, h.size, fun k hk => by
  by_cases e : k = R
  ·rw [e]; exact hR
  ·exact h.block k hk e⟩
theorem only_of {R : Nat} {w w' : World} (h : Grow w w') : GrowBut (Only R) w w' := GrowBut.of_below h
theorem only_set {R i : Nat} {w : World} (v : Value) : GrowBut (Only R) w (w.setCell ⟨R, i, none⟩ v) := (GrowBut.refl (Only R) w).setCell (a := ⟨R, i, none⟩) rfl v
theorem only_new {R : Nat} {w w' x : World} (h : Grow w w') (hR : w.heap.size ≤ R) (hx : GrowBut (Only R) w' x) : Grow w x :=
 ⟨hx.os.trans h.os, hx.tape.trans h.tape, hx.output.trans h.output, Nat.le_trans h.size hx.size, fun k hk => (hx.block k (Nat.lt_of_lt_of_le hk h.size) (fun e => absurd (show k = R from e) (by omega))).trans (h.block k hk)⟩
def setObj (i : Nat) (v : Value) : Obj → Obj
 | .cells cs t fr => .cells (cs.setIfInBounds i v) t fr
 | o => o
theorem heap_put (w : World) (P i : Nat) (v : Value) : (w.setCell ⟨P, i, none⟩ v).heap[P]? = (w.heap[P]?).map (setObj i v) := by
 simp only [World.setCell, Array.getElem?_modify, if_true]
 cases w.heap[P]? with
 | none => rfl
 | some o => cases o <;> rfl
theorem setObj_cells (i : Nat) (v : Value) (cs : Array Value) (t : TypeId) (fr : Nat × Nat) : setObj i v (.cells cs t fr) = .cells (cs.setIfInBounds i v) t fr := rfl
theorem only_put {R i : Nat} {w w' : World} {v : Value} : GrowBut (Only R) w (w'.setCell ⟨R, i, none⟩ v) ↔ GrowBut (Only R) w w' :=
 ⟨fun h => ⟨h.os, h.tape, h.output, by simpa [World.setCell] using h.size, fun k hk hn => (Below.heap_setCell _ _ _ _ (show k ≠ R from fun e => hn e)).symm.trans (h.block k hk hn)⟩, fun h => h.setCell (a := ⟨R, i, none⟩) rfl v⟩
/-- What a lookup of an address answers, whatever the flow. -/
def PicksTo (w : World) (f : Value) (a kind port : Int) : Prop := ∀ x, Grow w x → ∀ n : Int, 0 ≤ n → n < 4294967296 → Calls Tryz.prog 87 #[f, .int .u32 a, .int .u32 n] x fun e w' => e = .returned (.tuple #[.int .i64 kind, .int .i64 port]) ∧ Grow x w'
theorem PicksTo.mono {w w' : World} {f : Value} {a kind port : Int} (h : PicksTo w f a kind port) (hg : Grow w w') : PicksTo w' f a kind port := fun x hx => h x (hg.trans hx)
/-- Three bytes in a row are never a run's own cells. -/
theorem bytes_only {w w' : World} {R : Nat} {T : TypeId} {f bk hv loc out v : Value} {own tos id of ttl proto src dst kind pt drop err : Int} {evil df mf : Bool} {ma pa : Option Addr} {mn mc pn pc : Nat} {os : List Int}
  (hR : w.heap[R]? = some (.cells #[f, .int .u32 own, .slice ma mn mc, bk, .slice pa pn pc, .int .u8 tos, .int .u16 id, .bool evil, .bool df, .bool mf, .int .i64 of, .int .u8 ttl, .int .u8 proto, .int .u32 src, .int .u32 dst, hv, .int .i64 kind, .int .i64 pt, .int .i64 drop, .int .i64 err, loc, out] T (0, 0))) (h : BytesV w v os) (h3 : os.length = 0 ∨ 3 ≤ os.length) (hg : GrowBut (Only R) w w') : BytesV w' v os := by
 refine ⟨h.1, ?_⟩
 rcases h.2 with h2 | ⟨b, off, cap, e, h1, h2, h4⟩
 ·exact Or.inl h2
 ·by_cases hl : os.length = 0
  ·exact Or.inr ⟨b, off, cap, e, h1, h2, fun i hi => by omega⟩
  ·refine Or.inr ⟨b, off, cap, e, h1, h2, fun i hi => hg.cell (h4 i hi) (fun hb => ?_)⟩
   have hb' : b = R := hb
   subst hb'
   have a0 := h4 0 (by omega)
   have a1 := h4 1 (by omega)
   have a2 := h4 2 (by omega)
   have hoff : off < 22 := by
    rcases Nat.lt_or_ge off 22 with h' | h'
    ·exact h'
    ·simp [World.cell?, hR, Array.getElem?_eq_none (show (#[f, .int .u32 own, .slice ma mn mc, bk, .slice pa pn pc, .int .u8 tos, .int .u16 id, .bool evil, .bool df, .bool mf, .int .i64 of, .int .u8 ttl, .int .u8 proto, .int .u32 src, .int .u32 dst, hv, .int .i64 kind, .int .i64 pt, .int .i64 drop, .int .i64 err, loc, out] : Array Value).size ≤ off by simpa using h')] at a0
   have : off = 0 ∨ off = 1 ∨ off = 2 ∨ off = 3 ∨ off = 4 ∨ off = 5 ∨ off = 6 ∨ off = 7 ∨ off = 8 ∨ off = 9 ∨ off = 10 ∨ off = 11 ∨ off = 12 ∨ off = 13 ∨ off = 14 ∨ off = 15 ∨ off = 16 ∨ off = 17 ∨ off = 18 ∨ off = 19 ∨ off = 20 ∨ off = 21 := by omega
   rcases this with rfl | rfl | rfl | rfl | rfl | rfl | rfl | rfl | rfl | rfl | rfl | rfl | rfl | rfl | rfl | rfl | rfl | rfl | rfl | rfl | rfl | rfl <;> simp [World.cell?, hR] at a0 a1 a2
set_option maxHeartbeats 4000000 in
theorem way_any {w : World} {b off L cap Z S : Nat} {zs : List Int} {h : Hd} {pl : List Int} (p : PktAt w b off L cap Z S zs h pl) (hL : L ≤ 10000) {R : Nat} {r : Rn} (hR : RunAt w R r) {ma : Option Addr} {mn mc : Nat} (hm : r.mtus = .slice ma mn mc)
  {a : Int} {port : Nat} (hp : port < mn) (hpk : PicksTo w r.f a 3 port) :
  Calls Tryz.prog 62 #[.pointer (some ⟨R, 0, none⟩), .slice (some ⟨b, off, none⟩) L cap, .int .u32 a] w fun e w' => e = .returned (.tuple #[.int .i64 3, .int .i64 port]) ∧ Grow w w' := by
 have HH := Lib.hid (hash_any p hL)
 have HPk := Lib.hid hpk
 have HRn := Lib.hid hR
 obtain ⟨f, own, mtus, bk, pk, hh, kind, pt, drop, err, loc, out⟩ := r
 dsimp only at hm
 subst hm
 have hp1 : ¬ ((mn : Int) ≤ (port : Int)) := by omega
 have hp2 : decide ((mn : Int) ≤ (port : Int)) = false := decide_eq_false hp1
 unfold RunAt Rn.cells at HRn
 dsimp only at HRn HPk
 clear p hL hR hpk hp
 go_enter Tryz.func62, Tryz.ntmps62
 go_wp2_with fail
 with_reducible refine HH.out.mono ?_
 rintro e w1 ⟨⟨n, hn1, hn2, rfl⟩, hg⟩
 have HPk1 := Lib.hid (HPk.out w1 hg n hn1 hn2)
 have HG1 := Lib.hid hg
 have hr1 := (hg.block _ (lt_of_block HRn.out)).trans HRn.out
 have HR1 := Lib.hid hr1
 obtain ⟨⟨c0, c1, c2, c3, c4, c5⟩, ⟨c6, c7, c8, c9, c10, c11⟩, ⟨c12, c13, c14, c15, c16, c17⟩, c18, c19, c20, c21⟩ := blkR hr1
 clear hg HH HPk hr1 c5 c6 c7 c8 c9 c10 c11 c12 c13 c14 c15 c16 c17 c18 c19 c20 c21
 go_wp2_with fail
 with_reducible refine HPk1.out.mono ?_
 rintro e w2 ⟨rfl, hg⟩
 have HG2 := Lib.hid (HG1.out.trans hg)
 have c2' := (hg.cell (block_lt c2)).trans c2
 clear hg HPk1 c0 c1 c2 c3 c4
 go_wp2_with fail
 go_ret2
 exact ⟨by first | rfl | simp, HG2.out⟩
end
end Go.Proofs.YtgckhdepnmiejaaGreat
