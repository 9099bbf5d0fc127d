/- The law's own walk: TopPieces. -/
import Derived.Deep.CutRange
import Derived.Test.YtgckhdepnmiejaaGreatZ07
import Derived.Test.YtgckhdepnmiejaaGreatZ18
import Derived.Test.YtgckhdepnmiejaaGreatZ19
import Derived.Test.YtgckhdepnmiejaaGreatZ22
import Derived.Test.YtgckhdepnmiejaaGreatZ23
set_option linter.unusedVariables false
set_option linter.unusedSimpArgs false
namespace Go.Proofs.YtgckhdepnmiejaaGreat
section
set_option maxRecDepth 100000
open Go.RowKit
/-- FwdNil answers true. -/
def NilOk (w : World) : Prop := ∀ x, Grow w x → Calls Tryz.prog 6 #[] x fun e w' => e = .returned (.bool true) ∧ Grow x w'
/-- What the law answers. -/
def Yes (w : World) (e : Ending) (w' : World) : Prop := e = .returned (.bool true) ∧ Grow w w'
/-- What a judgement holds. -/
def JudgT (n0 : Nat) (rows : List (List Int)) (u : Value) (x : World) : Prop :=
 ∃ oa oc base, u = .tuple #[.agg #[.int .i64 0, .int .i64 0, .slice none 0 0, .slice oa rows.length oc], .bool true] ∧ OutRow x base (.slice oa rows.length oc) 0 rows ∧ n0 ≤ base
def JudgX (n0 : Nat) (rows : List (List Int)) (u : Value) (x : World) : Prop :=
 ∃ oa oc base, u = .agg #[.int .i64 0, .int .i64 0, .slice none 0 0, .slice oa rows.length oc] ∧ OutRow x base (.slice oa rows.length oc) 0 rows ∧ n0 ≤ base
theorem JudgT.ty {n0 N0 m : Nat} {rows : List (List Int)} {u : Value} {x x' : World} (h : JudgT n0 rows u x) (hg : TyR N0 48 m x x') : JudgT n0 rows u x' := by
 obtain ⟨oa, oc, base, e, h1, h2⟩ := h
 exact ⟨oa, oc, base, e, h1.ty hg, h2⟩
theorem JudgX.ty {n0 N0 m : Nat} {rows : List (List Int)} {u : Value} {x x' : World} (h : JudgX n0 rows u x) (hg : TyR N0 48 m x x') : JudgX n0 rows u x' := by
 obtain ⟨oa, oc, base, e, h1, h2⟩ := h
 exact ⟨oa, oc, base, e, h1.ty hg, h2⟩
/-- The box of a judgement, made; and filled. -/
def BoxNew (n0 : Nat) (ys : Tmp → Value) (x : World) : Prop := ∃ b, ys 16 = .pointer (some ⟨b, 0, none⟩) ∧ n0 ≤ b ∧ x.heap[b]? = some (.cells #[.int .i64 0, .int .i64 0, .slice none 0 0, .slice none 0 0] 48 (0, 0))
def BoxFull (n0 : Nat) (rows : List (List Int)) (ys : Tmp → Value) (x : World) : Prop := ∃ b oa oc base, ys 16 = .pointer (some ⟨b, 0, none⟩) ∧ n0 ≤ b ∧ x.heap[b]? = some (.cells #[.int .i64 0, .int .i64 0, .slice none 0 0, .slice oa rows.length oc] 48 (0, 0)) ∧ OutRow x base (.slice oa rows.length oc) 0 rows ∧ n0 ≤ base
theorem BoxNew.mono {n0 : Nat} {ys : Tmp → Value} {x x' : World} (h : BoxNew n0 ys x) (hg : Grow x x') : BoxNew n0 ys x' := by
 obtain ⟨b, h1, h2, h3⟩ := h
 exact ⟨b, h1, h2, (hg.block _ (lt_of_block h3)).trans h3⟩
theorem BoxFull.mono {n0 : Nat} {rows : List (List Int)} {ys : Tmp → Value} {x x' : World} (h : BoxFull n0 rows ys x) (hg : Grow x x') : BoxFull n0 rows ys x' := by
 obtain ⟨b, oa, oc, base, h1, h2, h3, h4, h5⟩ := h
 exact ⟨b, oa, oc, base, h1, h2, (hg.block _ (lt_of_block h3)).trans h3, h4.mono hg, h5⟩
/-- Where the rounds stand: the pieces' rows. -/
structure L1 (w4 wr : World) (n₀ : Nat) (h : Hd) (P : List Int) (v : Value) (t : Int) (ps : List Pc) : Prop where
 grow : Grow w4 wr
 rows : RowsN wr n₀ v (ps.map (Pc.row h t))
 tile : Tile h.os P 0 P.length false ps
theorem own_one {w w4 : World} {n₀ g : Nat} {T : TypeId} {x : Value} (h : w4.heap[g]? = some (.cells #[x] T (0, 0))) (hn : n₀ ≤ g) : w4.ownsRow n₀ T 1 (.slice (some ⟨g, 0, none⟩) 1 1) 1 [x] :=
 ⟨rfl, Or.inr ⟨g, 1, #[x], rfl, hn, h, Nat.le_refl _, by unfold maxLen; omega, rfl, rfl⟩⟩
theorem l1_start {w4 : World} {n₀ g : Nat} {h : Hd} {P : List Int} {v : Value} {t : Int} (hg : w4.heap[g]? = some (.cells #[v] 25 (0, 0))) (hn : n₀ ≤ g) (ho : w4.ownsRow n₀ 5 1 v (pkt (Pc.hd h t ⟨0, false, h.os, P⟩) P).length ((pkt (Pc.hd h t ⟨0, false, h.os, P⟩) P).map (Value.int .u8))) (hb : Bytes (pkt (Pc.hd h t ⟨0, false, h.os, P⟩) P)) (hO : OkO h.os) :
  L1 w4 w4 n₀ h P (.slice (some ⟨g, 0, none⟩) 1 1) t [⟨0, false, h.os, P⟩] := by
 refine ⟨Grow.refl _, ⟨[v], rfl, own_one (w := w4) hg hn, fun i hi => ?_⟩, ⟨rfl, rfl, hO, fun _ => rfl, by simp, by simp, by show 0 < P.length ∨ P.length = 0; omega, Or.inl ⟨rfl, rfl, by simp⟩⟩⟩
 have h0 : i = 0 := by simp at hi; exact hi
 subst h0
 exact ⟨ho, hb⟩
theorem own_ints {x : World} {base b n c : Nat} {zs : List Int} (h : x.ownsRow base 3 1 (.slice (some ⟨b, 0, none⟩) n c) n (zs.map (Value.int .i64))) {r : Nat} (hr : r < zs.length) : x.cell? ⟨b, r, none⟩ = some (.int .i64 (zs.getD r 0)) := by
 have := h.cells (g := b) rfl r (.int .i64 (zs.getD r 0)) (by rw [List.getElem?_map, List.getD_eq_getElem?_getD, List.getElem?_eq_getElem hr]; rfl)
 rwa [Addr.add_lit, Nat.zero_add] at this
theorem idx_of (x : Int) {np : Nat} (h : 0 < np ∧ np ≤ 1401) : 0 ≤ (wrap64 (x.tmod np + np)).tmod np ∧ (wrap64 (x.tmod np + np)).tmod np < (np : Int) := by
 have h1 : -(np : Int) < x.tmod np ∧ x.tmod np < (np : Int) := by
  have e := Int.natAbs_tmod x np
  have : x.natAbs % ((np : Int)).natAbs < np := by rw [Int.natAbs_natCast]; exact Nat.mod_lt _ h.1
  omega
 have w1 : wrap64 (x.tmod np + np) = x.tmod np + np := IntWalk.wrap64_in _ (by omega)
 rw [w1, Int.tmod_eq_emod_of_nonneg (by omega)]
 exact ⟨Int.emod_nonneg _ (by omega), Int.emod_lt_of_pos _ (by omega)⟩
set_option maxHeartbeats 40000000 in
theorem top_go {w : World} {tos id off ttl proto src dst : Int} {evil df mf : Bool} {va pa ma ra : Option Addr} {vc pc mc rc Lo Lp n no : Nat} {os P ms xs : List Int}
  (hok : HdOk w ⟨tos, id, evil, df, mf, off, ttl, proto, src, dst, .slice va Lo vc, os⟩) (hP : BytesV w (.slice pa Lp pc) P) (hms : IntsV .i64 w (.slice ma n mc) ms) (hxs : IntsV .i64 w (.slice ra no rc) xs) (HN : Hid (NilOk w))
  (hos : os.length = Lo) (hPl : P.length = Lp) (hmsl : ms.length = n) (hxl : xs.length = no)
  (hm : mayH ⟨tos, id, evil, false, false, 0, ttl, proto, 167772165, 184549381, .slice va Lo vc, os⟩ = true) (hr : routedO os = false) (h1 : Lp ≤ 1400) (h2 : 1 ≤ n) (h3 : n ≤ 6) (h4 : n < ttl) (h5 : no ≤ 100) :
  Calls Tryz.prog 3 #[.agg #[.int .u8 tos, .int .u16 id, .bool evil, .bool df, .bool mf, .int .i64 off, .int .u8 ttl, .int .u8 proto, .int .u32 src, .int .u32 dst, .slice va Lo vc], .slice pa Lp pc, .slice ma n mc, .slice ra no rc] w (Yes w) := by
 have ht := hok.ttl
 have HOK : Hid (HdOk w ⟨tos, id, evil, false, false, 0, ttl, proto, 167772165, 184549381, .slice va Lo vc, os⟩) := ⟨hok.tos, hok.id, by show -9223372036854775808 ≤ (0 : Int) ∧ (0 : Int) ≤ 9223372036854775807; omega, hok.ttl, hok.proto, by show U32 167772165; unfold U32; omega, by show U32 184549381; unfold U32; omega, hok.body⟩
 have HM := Lib.hid hm
 have HR := Lib.hid hr
 have HP := Lib.hid hP
 have HMS := Lib.hid hms
 have HXS := Lib.hid hxs
 obtain ⟨mb, mo, mc', e, _, hmc2⟩ := hms.solid (fun e => by rw [e] at hmsl; simp at hmsl; omega)
 injection e with e1 e2 e3
 subst e1; subst e3
 have HMC : Hid (∀ k, k < n → w.cell? ⟨mb, mo + k, none⟩ = some (.int .i64 (ms.getD k 0))) := fun k hk => hms.cells k (by omega)
 have HOs := Lib.hid hos
 have HPl := Lib.hid hPl
 have HMl := Lib.hid hmsl
 have HXl := Lib.hid hxl
 have HRaw := Lib.hid (raw_of HOK.out hm)
 have HOO : Hid (OkO os) := ⟨HRaw.out.good, HRaw.out.len, HRaw.out.four, HRaw.out.by_, hr⟩
 have HT := Lib.hid ht
 have a1 : ¬ ((Lp : Int) > 1400) := by omega
 have a2 : ¬ ((n : Int) < 1) := by omega
 have a3 : ¬ ((n : Int) > 6) := by omega
 have a4 : ¬ (ttl ≤ (n : Int)) := by omega
 have a5 : ¬ ((no : Int) > 100) := by omega
 have a6 : IntKind.i64.wrap ttl = ttl := IntWalk.i64_in _ (by unfold U8 at ht; dsimp only at ht; omega)
 clear hmc2 e2
 clear hok hP hms hxs hos hPl hmsl hxl hm hr ht
 go_enter Tryz.func3, Tryz.ntmps3
 have HMay : Hid (∀ x, Grow w x → Calls Tryz.prog 4 #[.agg #[.int .u8 tos, .int .u16 id, .bool evil, .bool false, .bool false, .int .i64 0, .int .u8 ttl, .int .u8 proto, .int .u32 167772165, .int .u32 184549381, .slice va Lo vc]] x fun e w' => e = .returned (.bool true) ∧ Grow x w') := fun x hx => by
  have := may_hdr ⟨tos, id, evil, false, false, 0, ttl, proto, 167772165, 184549381, .slice va Lo vc, os⟩ x (HOK.out.mono hx) (by have := HRaw.out.len; dsimp only at this ⊢; omega)
  rw [HM.out] at this
  exact this
 have HRt : Hid (∀ x, Grow w x → 0 < x.heap.size → Calls Tryz.prog 5 #[.slice va Lo vc] x fun e w' => e = .returned (.bool false) ∧ Grow x w') := fun x hx h0 => by
  have := routed_any (HOK.out.body.mono hx) h0 (by have := HRaw.out.len; dsimp only at this ⊢; omega) HRaw.out.good
  rw [show routedO (Hd.os ⟨tos, id, evil, false, false, 0, ttl, proto, 167772165, 184549381, .slice va Lo vc, os⟩) = false from HR.out] at this
  exact this
 have HBy : Hid (∀ x, Grow w x → Calls Tryz.prog 7 #[.agg #[.int .u8 tos, .int .u16 id, .bool evil, .bool false, .bool false, .int .i64 0, .int .u8 ttl, .int .u8 proto, .int .u32 167772165, .int .u32 184549381, .slice va Lo vc], .slice pa Lp pc] x fun e w' => ∃ v, e = .returned v ∧ NewBytes x (pkt ⟨tos, id, evil, false, false, 0, ttl, proto, 167772165, 184549381, .slice va Lo vc, os⟩ P) v w') := fun x hx =>
  refbytes_any ⟨tos, id, evil, false, false, 0, ttl, proto, 167772165, 184549381, .slice va Lo vc, os⟩ P _ x (HOK.out.mono hx) HM.out (HP.out.mono hx) (by have q1 := HRaw.out.len; have q2 := HPl.out; dsimp only at q1 ⊢; omega)
 go_upto_region 2 with fail
 have hg0 : Grow w (w.alloc (.cells #[.int .u8 tos, .int .u16 id, .bool evil, .bool false, .bool false, .int .i64 0, .int .u8 ttl, .int .u8 proto, .int .u32 167772165, .int .u32 184549381, .slice va Lo vc] 27)) := (Grow.refl w).alloc _
 have hn0 := heap_alloc_new w (.cells #[.int .u8 tos, .int .u16 id, .bool evil, .bool false, .bool false, .int .i64 0, .int .u8 ttl, .int .u8 proto, .int .u32 167772165, .int .u32 184549381, .slice va Lo vc] 27)
 generalize (w.alloc (.cells #[.int .u8 tos, .int .u16 id, .bool evil, .bool false, .bool false, .int .i64 0, .int .u8 ttl, .int .u8 proto, .int .u32 167772165, .int .u32 184549381, .slice va Lo vc] 27)) = w0 at *
 obtain ⟨B, hB⟩ : ∃ B, w.heap.size = B := ⟨_, rfl⟩
 rw [hB] at hn0 ⊢
 have HBs := Lib.hid hB
 have HG0 := Lib.hid hg0
 have HN0 := Lib.hid hn0
 obtain ⟨⟨c0, c1, c2, c3, c4, c5⟩, c6, c7, c8, c9, c10⟩ := blkH hn0
 clear hg0 hn0 hB
 go_wp2_with fail
 with_reducible refine (HMay.out _ HG0.out).mono ?_
 rintro e w1 ⟨rfl, hg⟩
 have HG1 := Lib.hid (HG0.out.trans hg)
 have HN1 := Lib.hid ((hg.block _ (lt_of_block HN0.out)).trans HN0.out)
 obtain ⟨⟨d0, d1, d2, d3, d4, d5⟩, d6, d7, d8, d9, d10⟩ := blkH HN1.out
 clear hg c0 c1 c2 c3 c4 c5 c6 c7 c8 c9 c10 HMay
 go_wp2_with fail
 with_reducible refine (HRt.out _ HG1.out (Nat.lt_of_le_of_lt (Nat.zero_le _) (lt_of_block HN1.out))).mono ?_
 rintro e w2 ⟨rfl, hg⟩
 have HG2 := Lib.hid (HG1.out.trans hg)
 have HN2 := Lib.hid ((hg.block _ (lt_of_block HN1.out)).trans HN1.out)
 obtain ⟨⟨c0, c1, c2, c3, c4, c5⟩, c6, c7, c8, c9, c10⟩ := blkH HN2.out
 clear hg d0 d1 d2 d3 d4 d5 d6 d7 d8 d9 d10 HRt
 go_wp2_with fail
 with_reducible refine (HBy.out _ HG2.out).mono ?_
 rintro e w3 ⟨v, rfl, ho, hg⟩
 have HG3 := Lib.hid (HG2.out.trans hg)
 have HN3 := Lib.hid ((hg.block _ (lt_of_block HN2.out)).trans HN2.out)
 obtain ⟨ya, yc, rfl, _, _⟩ := owns_shape ho
 have HO3 := Lib.hid ho
 clear hg ho HBy c0 c1 c2 c3 c4 c5 c6 c7 c8 c9 c10
 go_upto_region 6 with fail
 have hn4 := heap_alloc_new w3 (.cells #[.slice ya (pkt ⟨tos, id, evil, false, false, 0, ttl, proto, 167772165, 184549381, .slice va Lo vc, os⟩ P).length yc] 25)
 have hg4 : Grow w3 (w3.alloc (.cells #[.slice ya (pkt ⟨tos, id, evil, false, false, 0, ttl, proto, 167772165, 184549381, .slice va Lo vc, os⟩ P).length yc] 25)) := (Grow.refl w3).alloc _
 have HL : Hid (L1 (w3.alloc (.cells #[.slice ya (pkt ⟨tos, id, evil, false, false, 0, ttl, proto, 167772165, 184549381, .slice va Lo vc, os⟩ P).length yc] 25)) (w3.alloc (.cells #[.slice ya (pkt ⟨tos, id, evil, false, false, 0, ttl, proto, 167772165, 184549381, .slice va Lo vc, os⟩ P).length yc] 25)) (B + 1) ⟨tos, id, evil, false, false, 0, ttl, proto, 167772165, 184549381, .slice va Lo vc, os⟩ P (.slice (some ⟨w3.heap.size, 0, none⟩) 1 1) ttl [⟨0, false, os, P⟩]) := by
  have s1 := lt_of_block HN3.out
  refine l1_start (h := ⟨tos, id, evil, false, false, 0, ttl, proto, 167772165, 184549381, .slice va Lo vc, os⟩) hn4 (by omega) (own_less1 (own_grow HO3.out hg4) (by have := lt_of_block HN2.out; omega)) (pkt_bytes (h := ⟨tos, id, evil, false, false, 0, ttl, proto, 167772165, 184549381, .slice va Lo vc, os⟩) HRaw.out HP.out.1) HOO.out
 have HN4 := Lib.hid ((hg4.block _ (lt_of_block HN3.out)).trans HN3.out)
 have HG4 := Lib.hid (HG3.out.trans hg4)
 generalize (w3.alloc (.cells #[.slice ya (pkt ⟨tos, id, evil, false, false, 0, ttl, proto, 167772165, 184549381, .slice va Lo vc, os⟩ P).length yc] 25)) = w4 at *
 generalize w3.heap.size = g4 at *
 clear hn4 hg4 HO3 HN3 HN2 HN1 HN0 HG3 HG2 HG1 HG0
 generalize (pkt ⟨tos, id, evil, false, false, 0, ttl, proto, 167772165, 184549381, .slice va Lo vc, os⟩ P).length = py at *
 obtain ⟨h0, hh0⟩ : ∃ y : Hd, ⟨tos, id, evil, false, false, 0, ttl, proto, 167772165, 184549381, .slice va Lo vc, os⟩ = y := ⟨_, rfl⟩
 rw [hh0] at HL HRaw HM HOK
 have HHd : Hid (h0.src = 167772165 ∧ h0.dst = 184549381 ∧ h0.df = false ∧ h0.os = os ∧ U8 ttl) := by rw [← hh0]; exact ⟨rfl, rfl, rfl, rfl, HT.out⟩
 have HH0 := Lib.hid hh0
 clear hh0
 go_wp2_with fail
 go_loopw [10, 11] (fun v i wr => ∃ (k : Nat) (ps : List Pc) (a : Option Addr) (c : Nat), k ≤ n ∧ i = .int .i64 k ∧ v = .slice a ps.length c ∧ L1 w4 wr (B + 1) h0 P v (ttl - k) ps) (fun v i _ => n - (intOf i).toNat)
 case atStart => exact ⟨0, [⟨0, false, os, P⟩], _, _, by omega, rfl, rfl, by simpa using HL.out⟩
 case round =>
  obtain ⟨k, ps, a, c, hk, rfl, rfl, hL⟩ := hrel
  rename World => wA
  have HLk := Lib.hid hL
  obtain ⟨np, hnp⟩ : ∃ x, ps.length = x := ⟨_, rfl⟩
  rw [hnp] at HLk ⊢
  have HNp := Lib.hid hnp
  clear hnp hL
  by_cases hlt : k < n
  case pos =>
   have hi1 : (k : Int) < (n : Int) := by omega
   have HK : Hid (k < n) := hlt
   have mcl : wA.cell? ⟨mb, mo + k, none⟩ = some (.int .i64 (ms.getD k 0)) := ((HG4.out.trans HLk.out.grow).cell (block_lt (HMC.out k hlt))).trans (HMC.out k hlt)
   generalize ms.getD k 0 = x at *
   obtain ⟨M, hM1, hM2⟩ := mtu_of x
   have HM2 := Lib.hid hM2
   clear hlt
   go_upto_region 11 with fail
   simp only [hM1]
   have HA := Lib.hid (asked_made wA M hM2)
   have hgB : Grow wA ((((wA.alloc (.cells #[.int .i64 0, .int .i64 1] 37)).alloc (.cells #[.int .u32 184549376, .int .i64 8, .bool false, .bool true, .int .i64 1, .slice (some ⟨wA.heap.size, 0, none⟩) 1 1] 40)).alloc (.cells #[.int .i64 M] 3)).alloc (.cells #[.slice (some ⟨wA.heap.size + 1, 0, none⟩) 1 1, .int .u32 167772161, .slice (some ⟨wA.heap.size + 1 + 1, 0, none⟩) 1 1, .int .i64 0] 43)) := ((((Grow.refl wA).alloc _).alloc _).alloc _).alloc _
   have hsB : (((wA.alloc (.cells #[.int .i64 0, .int .i64 1] 37)).alloc (.cells #[.int .u32 184549376, .int .i64 8, .bool false, .bool true, .int .i64 1, .slice (some ⟨wA.heap.size, 0, none⟩) 1 1] 40)).alloc (.cells #[.int .i64 M] 3)).heap.size = wA.heap.size + 1 + 1 + 1 := by rw [World.size_alloc, World.size_alloc, World.size_alloc]
   have hnB := heap_alloc_new (((wA.alloc (.cells #[.int .i64 0, .int .i64 1] 37)).alloc (.cells #[.int .u32 184549376, .int .i64 8, .bool false, .bool true, .int .i64 1, .slice (some ⟨wA.heap.size, 0, none⟩) 1 1] 40)).alloc (.cells #[.int .i64 M] 3)) (.cells #[.slice (some ⟨wA.heap.size + 1, 0, none⟩) 1 1, .int .u32 167772161, .slice (some ⟨wA.heap.size + 1 + 1, 0, none⟩) 1 1, .int .i64 0] 43)
   rw [hsB] at hnB
   obtain ⟨ab, ao, rfl, hnp2, hnc, hcm, hrow⟩ := row_at HLk.out.rows (tile_one HLk.out.tile)
   obtain ⟨s, hs⟩ : ∃ s, wA.heap.size = s := ⟨_, rfl⟩
   obtain ⟨wB, hwB⟩ : ∃ y, ((((wA.alloc (.cells #[.int .i64 0, .int .i64 1] 37)).alloc (.cells #[.int .u32 184549376, .int .i64 8, .bool false, .bool true, .int .i64 1, .slice (some ⟨wA.heap.size, 0, none⟩) 1 1] 40)).alloc (.cells #[.int .i64 M] 3)).alloc (.cells #[.slice (some ⟨wA.heap.size + 1, 0, none⟩) 1 1, .int .u32 167772161, .slice (some ⟨wA.heap.size + 1 + 1, 0, none⟩) 1 1, .int .i64 0] 43)) = y := ⟨_, rfl⟩
   rw [hwB] at HA hgB hnB ⊢
   rw [hs] at HA hnB ⊢
   have HGB := Lib.hid hgB
   have HNB := Lib.hid hnB
   have HRow := Lib.hid hrow
   clear hgB hsB hnB hwB hs hrow hM1 hM2 mcl hnp2
   have HNC : Hid (np ≤ c ∧ c ≤ maxLen) := ⟨hnc, hcm⟩
   clear hcm
   go_wp2_with fail
   go_loopw [14, 15] (fun v j wr => ∃ (q : Nat) (qs : List Pc) (a2 : Option Addr) (c2 : Nat), q ≤ np ∧ j = .int .i64 q ∧ v = .slice a2 qs.length c2 ∧ qs = (ps.take q).flatMap (cutAll · M) ∧ RowsN wr wB.heap.size v (qs.map (Pc.row h0 (ttl - k - 1))) ∧ Grow wB wr) (fun v j _ => np - (intOf j).toNat)
   case atStart => exact ⟨0, [], none, 0, by omega, rfl, rfl, rfl, rows_nil _ _, Grow.refl _⟩
   case round =>
    obtain ⟨q, qs, a2, c2, hq, rfl, rfl, hqs, hrw, hg⟩ := hrel
    rename World => wC
    obtain ⟨nq, hnq⟩ : ∃ x, qs.length = x := ⟨_, rfl⟩
    rw [hnq] at hrw ⊢
    have HNq := Lib.hid hnq
    have HRw := Lib.hid hrw
    have HGC := Lib.hid hg
    have HQs := Lib.hid hqs
    clear hnq hrw hg hqs
    by_cases hlt : q < np
    case neg =>
     have HT2 : Hid (L1 w4 wC (B + 1) h0 P (.slice a2 nq c2) (ttl - ((k + 1 : Nat) : Int)) qs) := by
      have hqs := HQs.out
      rw [List.take_of_length_le (by have := HNp.out; omega)] at hqs
      refine ⟨(HLk.out.grow.trans HGB.out).trans HGC.out, ?_, ?_⟩
      ·have e : ttl - ((k + 1 : Nat) : Int) = ttl - k - 1 := by omega
       rw [e]
       exact HRw.out.less (by have h1 := lt_of_block HN4.out; have h2 := HLk.out.grow.size; have h3 := HGB.out.size; omega)
      ·rw [hqs]
       exact stage_tile (t := ttl) HRaw.out HHd.out.2.2.2.2 HM2.out.1 ps 0 P.length false (by have := HPl.out; omega) HLk.out.tile
     have hi2 : ¬ ((q : Int) < (np : Int)) := by omega
     have HK1 : Hid (k + 1 ≤ n) := HK.out
     go_wp2_with fail
     exact ⟨⟨k + 1, qs, a2, c2, HK1.out, by simp, by rw [HNq.out], HT2.out⟩, by simp [intOf]; have := HK.out; omega⟩
    case pos => as_aux_lemma =>
     have hi2 : (q : Int) < (np : Int) := by omega
     obtain ⟨p, hp⟩ : ∃ p, ps[q]? = some p := ⟨_, List.getElem?_eq_getElem (by have := HNp.out; omega)⟩
     obtain ⟨x1, hx1, hb1⟩ := HRow.out q p hp
     have hpm : p ∈ ps := List.mem_of_getElem? hp
     have hok := tile_ok ps 0 HLk.out.tile p hpm
     have ht9 := HHd.out.2.2.2.2
     unfold U8 at ht9
     have hkk := HK.out
     have rp : Raw (p.hd h0 (ttl - k)) := Pc.raw HRaw.out (by unfold U8; omega) hok.os (by have := hok.le; have := HPl.out; omega)
     have hol := hok.os.len
     obtain ⟨pb, po, pL, pcp, pZ, pS, rfl, hpk⟩ := pktAt_of rp (by rw [hok.data]; exact (HP.out.1.drop _).take _) (by show 20 + p.os.length + p.data.length ≤ 65535; have := hok.le; have := HPl.out; omega) hb1
     have HJ : Hid (∀ x, Grow wC x → Calls Tryz.prog 8 #[.agg #[.slice (some ⟨s + 1, 0, none⟩) 1 1, .int .u32 167772161, .slice (some ⟨s + 1 + 1, 0, none⟩) 1 1, .int .i64 0], .slice (some ⟨pb, po, none⟩) pL pcp] x (JudgedT x ((cutAll p M).map (Pc.row h0 (ttl - k - 1))))) := fun x hx => by
      have := judged_any (hpk.mono ((HGB.out.trans HGC.out).trans hx)) (HA.out.mono (HGC.out.trans hx)) (fit_of hok HHd.out.1 HHd.out.2.1 HHd.out.2.2.1 (t := ttl - k) (by omega) (by have := HPl.out; omega))
      rw [cutAll_rows] at this
      exact this
     have HPc : Hid (ps[q]? = some p ∧ Raw (p.hd h0 (ttl - k))) := ⟨hp, rp⟩
     have HCl : Hid (∀ x, Grow wC x → x.cell? ⟨ab, ao + q, none⟩ = some (.slice (some ⟨pb, po, none⟩) pL pcp)) := fun x hx => ((((HGB.out.trans HGC.out).trans hx)).cell (block_lt hx1)).trans hx1
     have HAs : Hid (∀ x, Grow wC x → x.heap[s + 1 + 1 + 1]? = some (.cells #[.slice (some ⟨s + 1, 0, none⟩) 1 1, .int .u32 167772161, .slice (some ⟨s + 1 + 1, 0, none⟩) 1 1, .int .i64 0] 43 (0, 0))) := fun x hx => ((HGC.out.trans hx).block _ (lt_of_block HNB.out)).trans HNB.out
     have HGr : Hid (∀ x, TyR wC.heap.size 48 4 wC x → Grow wC x) := fun x hx => hx.grow
     obtain ⟨rows, hrows⟩ : ∃ y, (cutAll p M).map (Pc.row h0 (ttl - k - 1)) = y := ⟨_, rfl⟩
     rw [hrows] at HJ
     have HRows := Lib.hid hrows
     clear hx1 hb1 hpm hok ht9 hkk rp hol hpk hp hrows
     go_upto_region 15 with fail
     refine R.wp_region_grow 12 [9, 10] (Ty wC.heap.size 48 4) (fun _ => True) (by kernel_rfl) (by kernel_rfl) (by rfl) (fun _ _ _ _ => trivial) trivial ?_
     simp only [List.take_succ_cons, List.take_zero, List.drop_succ_cons, List.drop_zero]
     refine R.wpH_sdet' (.agg #[.slice (some ⟨s + 1, 0, none⟩) 1 1, .int .u32 167772161, .slice (some ⟨s + 1 + 1, 0, none⟩) 1 1, .int .i64 0]) (by intro _ _ h; cases h) (by rfl) (by rfl) (by rfl) (fun ys w' hg hC => ?_) ?_
     ·obtain ⟨⟨y0, y1, y2, y3⟩, _⟩ := blk4 (HAs.out _ (HGr.out _ hg))
      clear hg hC
      go_simp
      exact Below.refl _ _
     try go_simp
     repeat (refine R.wpH_pure (by intro _ _ h; cases h) (by rfl) (by rfl) (fun K hK => ?_); go_simp; refine hK _ ?_; clear hK K)
     refine R.wpH_sdet' (.slice (some ⟨pb, po, none⟩) pL pcp) (by intro _ _ h; cases h) (by rfl) (by rfl) (by rfl) (fun ys w' hg hC => ?_) ?_
     ·have y0 := HCl.out _ (HGr.out _ hg)
      clear hg hC
      go_simp
      exact Below.refl _ _
     try go_simp
     refine R.wpH_shid' (JudgT wC.heap.size rows) (by intro _ _ h; cases h) rfl (by rfl) (fun u x x' hg h => JudgT.ty h hg) (by rfl) (by rfl) (fun ys w' hg hC => ?_) ?_
     ·have h := HJ.out w' (HGr.out _ hg)
      have HS := Lib.hid hg.size
      clear hg hC
      go_simp
      with_reducible refine h.mono ?_
      rintro e w1 ⟨ov, base, rfl, ho, hbs, hg⟩
      obtain ⟨oa, oc, rfl⟩ := ho.shape
      exact ⟨_, rfl, ⟨oa, oc, base, rfl, ho, Nat.le_trans HS.out hbs⟩, hg⟩
     try go_simp
     refine R.wpH_shid (JudgT wC.heap.size rows) rfl (by rfl) (fun u x x' hg h => JudgT.ty h hg) (fun xs => by rfl) (fun xs w' hg hC hf => ?_) ?_
     ·have h1 := hf _ (List.Mem.head _) (by rfl)
      try dsimp only at h1
      simp only [fill]
      generalize xs 111 = y at *
      clear hf hg hC
      obtain ⟨oa, oc, base, rfl, ho, hb⟩ := h1
      have HO := Lib.hid (And.intro ho hb)
      clear ho hb
      go_simp
      exact ⟨⟨oa, oc, base, rfl, HO.out⟩, Below.refl _ _⟩
     try go_simp
     refine R.wpH_shid (JudgX wC.heap.size rows) rfl (by rfl) (fun u x x' hg h => JudgX.ty h hg) (fun xs => by rfl) (fun xs w' hg hC hf => ?_) ?_
     ·have h1 := hf _ (List.Mem.head _) (by rfl)
      try dsimp only at h1
      simp only [fill]
      generalize xs 105 = y at *
      clear hf hg hC
      obtain ⟨oa, oc, base, rfl, ho, hb⟩ := h1
      have HO := Lib.hid (And.intro ho hb)
      clear ho hb
      go_simp
      exact ⟨⟨oa, oc, base, rfl, HO.out⟩, Below.refl _ _⟩
     try go_simp
     refine R.wpH_sdet (.bool true) (by rfl) (fun xs => by rfl) (fun xs w' hg hC hf => ?_) ?_
     ·have h1 := hf _ (List.Mem.tail _ (List.Mem.head _)) (by rfl)
      try dsimp only at h1
      simp only [fill]
      generalize xs 105 = y at *
      clear hf hg hC
      obtain ⟨oa, oc, base, rfl, ho, hb⟩ := h1
      clear ho hb
      go_simp
      exact Below.refl _ _
     try go_simp
     refine R.wpH_chid (d := 16) (fun u _ => ∃ b, u = .pointer (some ⟨b, 0, none⟩)) (BoxNew wC.heap.size) rfl (by rfl) (fun u x x' hg h => h)
      (fun ys x x' hb hx => hx.mono hb) (fun ys zs x he hx => by have := he 9 _ 16 (by decide) (by decide) rfl rfl; obtain ⟨b, h1, h2⟩ := hx; exact ⟨b, by rw [← this]; exact h1, h2⟩) (fun xs => by rfl) (fun ys w' hg hC hf => ?_) ?_
     ·have HS : Hid (BoxNew wC.heap.size (R.upd ys (some 16) (.pointer (some ⟨w'.heap.size, 0, none⟩))) (w'.alloc (.cells #[.int .i64 0, .int .i64 0, .slice none 0 0, .slice none 0 0] 48))) := ⟨_, by unfold R.upd; simp, hg.size, heap_alloc_new w' _⟩
      have HR : Hid (TyR wC.heap.size 48 4 w' (w'.alloc (.cells #[.int .i64 0, .int .i64 0, .slice none 0 0, .slice none 0 0] 48))) := (Ty wC.heap.size 48 4).below ((Grow.refl w').alloc _)
      clear hg hC hf
      try simp only [fill]
      go_simp
      first | exact ⟨⟨⟨_, rfl⟩, HS.out⟩, HR.out⟩ | exact ⟨HS.out, HR.out⟩
     try go_simp
     refine R.wpH_cdet undef (BoxFull wC.heap.size rows) (by rfl) (fun xs x x' hb hx => hx.mono hb) (fun ys zs x he hx => by have := he 9 _ 16 (by decide) (by decide) rfl rfl; obtain ⟨b, oa, oc, base, h1, h2⟩ := hx; exact ⟨b, oa, oc, base, by rw [← this]; exact h1, h2⟩) (fun xs => by rfl) (fun ys w' hg hC hf => ?_) ?_
     ·generalize hA : fill _ ys _ = A
      have e16 : A.eval (.tmp 16) = ys 16 := by rw [← hA]; exact eval_in (List.Mem.head _) (Nat.lt_of_lt_of_eq (show 16 < 247 by omega) (by kernel_rfl))
      have e112 : A.eval (.tmp 112) = ys 112 := by rw [← hA]; exact eval_in (List.Mem.tail _ (List.Mem.head _)) (Nat.lt_of_lt_of_eq (show 112 < 247 by omega) (by kernel_rfl))
      have h1 : JudgX wC.heap.size rows (ys 112) w' := hf _ (List.Mem.tail _ (List.Mem.head _)) (by rfl)
      have h16 : BoxNew wC.heap.size ys w' := hC
      clear hA hf hC
      obtain ⟨b, h2, h3, h4⟩ := h16
      obtain ⟨oa, oc, base, h5, ho, hb⟩ := h1
      refine box_stored (n := rows.length) (p := .tmp 16) (q := .tmp 112) rfl (e16.trans h2) (e112.trans h5) ⟨oa, oc, rfl⟩ h4 (fun z hz hgz => ?_)
      have hty : TyR wC.heap.size 48 4 w' z := ty_cells h3 h4 hz rfl rfl hgz
      exact ⟨⟨rfl, b, oa, oc, base, by unfold R.upd; rw [if_neg (by simp)]; exact h2, h3, hz, ho.ty hty, hb⟩, hty⟩
     try go_simp
     repeat (refine R.wpH_pure (by intro _ _ h; cases h) (by rfl) (by rfl) (fun K hK => ?_); go_simp; refine hK _ ?_; clear hK K)
     refine R.wpH_nil ?_
     intro ys wD hg hC hx
     have HGD := Lib.hid (HGr.out _ hg)
     have hC2 : BoxFull wC.heap.size rows ys wD := hC
     clear hg hC hx
     simp only [fill]
     generalize ys 111 = y111 at *
     generalize ys 105 = y105 at *
     generalize ys 112 = y112 at *
     obtain ⟨X, oa, oc, base, h1, h2, h3, h4, h5⟩ := hC2
     generalize ys 16 = y16 at *
     subst h1
     have HN := Lib.hid h3
     have HOut := Lib.hid h4
     obtain ⟨nr, hnr⟩ : ∃ x, rows.length = x := ⟨_, rfl⟩
     rw [hnr] at HN HOut h3
     have HNr : Hid (rows.length = nr ∧ (cutAll p M).length = nr) := ⟨hnr, by rw [← hnr, ← HRows.out, List.length_map]⟩
     have hpos : ((nr : Int) == 0) = false := by
      have := cutAll_ne HPc.out.2 HM2.out.1 (M := M)
      have h2 := HNr.out.2
      rw [h2] at this
      simp; omega
     obtain ⟨⟨y0, y1, y2, y3⟩, _⟩ := blk4 h3
     have HBase : Hid (wB.heap.size ≤ base) := by have h6 := HGC.out.size; show _ ≤ _; omega
     clear h2 h3 h4 h5 hnr HJ HCl HAs HGr
     go_simp
     go_wp2_with fail
     have hwq : IntKind.i64.wrap ((q : Int) + 1) = (q : Int) + 1 := IntWalk.i64_in _ (by have := HNC.out; unfold maxLen at this; omega)
     have HNc3 : Hid (nr ≤ 1500) := by
      have h1 := HNr.out.2
      have h2 := cutAll_count (p := p) (M := M) (tile_ok ps 0 HLk.out.tile p (List.mem_of_getElem? HPc.out.1)) (by have := HPl.out; omega)
      show _ ≤ _; omega
     have HNq3 : Hid (nq ≤ 4000000) := by
      have h1 := flat_count (M := M) (os0 := h0.os) (P := P) (by have := HPl.out; omega) (ps.take q) (fun y hy => tile_ok ps 0 HLk.out.tile y (List.mem_of_mem_take hy))
      rw [← HQs.out, HNq.out, List.length_take] at h1
      have h2 := tile_count ps 0 HLk.out.tile
      have h3 := HPl.out
      show _ ≤ _; omega
     have HRD : Hid (RowsN wD wB.heap.size (.slice a2 nq c2) ((qs ++ (cutAll p M).take 0).map (Pc.row h0 (ttl - k - 1)))) := by
      have := HRw.out.mono HGD.out
      rw [List.take_zero, List.append_nil]
      exact this
     go_loopw [14, 18] (fun v i wr => ∃ (d : Nat) (a3 : Option Addr) (c3 : Nat), d ≤ nr ∧ i = .int .i64 d ∧ v = .slice a3 (nq + d) c3 ∧ RowsN wr wB.heap.size v ((qs ++ (cutAll p M).take d).map (Pc.row h0 (ttl - k - 1))) ∧ KT 25 wD wr ∧ Grow wB wr) (fun v i _ => nr - (intOf i).toNat)
     case atStart => exact ⟨0, a2, c2, by omega, rfl, rfl, HRD.out, KT.refl _ _, HGC.out.trans HGD.out⟩
     case round => as_aux_lemma =>
      obtain ⟨d, a3, c3, hd, rfl, rfl, hrw, hkt, hgr⟩ := hrel
      rename World => wE
      have hwd : IntKind.i64.wrap ((d : Int) + 1) = (d : Int) + 1 := IntWalk.i64_in _ (by have h1 := HNc3.out; omega)
      by_cases hlt3 : d < nr
      case neg =>
       have HE : Hid (RowsN wE wB.heap.size (.slice a3 (nq + d) c3) ((qs ++ cutAll p M).map (Pc.row h0 (ttl - k - 1))) ∧ Grow wB wE ∧ nq + d = (qs ++ cutAll p M).length ∧ qs ++ cutAll p M = (ps.take (q + 1)).flatMap (cutAll · M)) := by
        have e1 : (cutAll p M).take d = cutAll p M := List.take_of_length_le (by have := HNr.out.2; omega)
        rw [e1] at hrw
        exact ⟨hrw, hgr, by rw [List.length_append, HNq.out, HNr.out.2]; omega, by rw [take_flat HPc.out.1, HQs.out]⟩
       have hi3 : ¬ ((d : Int) < (nr : Int)) := by omega
       have hf3 := kt_block HN.out hkt (by decide)
       obtain ⟨⟨y0, y1, y2, y3⟩, _⟩ := blk4 hf3
       clear hrw hkt hgr hf3
       go_wp2_with fail
       exact ⟨⟨q + 1, qs ++ cutAll p M, a3, c3, by omega, by simp, by rw [HE.out.2.2.1], HE.out.2.2.2, HE.out.1, HE.out.2.1⟩, by simp [intOf]; omega⟩
      case pos =>
       have hi3 : (d : Int) < (nr : Int) := by omega
       have hf3 := kt_block HN.out hkt (by decide)
       obtain ⟨⟨y0, y1, y2, y3⟩, _⟩ := blk4 hf3
       obtain ⟨g, xa, xc, rfl, hxc, hxo, hxb, hn9⟩ := out_at (HOut.out.kt hkt) (d := d) (by have := HNr.out.1; omega)
       clear hn9
       have hfit := row_fits (d := d) HPc.out.2 HM2.out.1 (by have := HNr.out.2; omega) (ttl - k - 1)
       rw [HRows.out] at hfit
       obtain ⟨pc1, hpc1⟩ : ∃ y, (cutAll p M)[d]? = some y := ⟨_, List.getElem?_eq_getElem (by have := HNr.out.2; omega)⟩
       have HXs : Hid (rows.getD d [] = pc1.row h0 (ttl - k - 1)) := by
        show _ = _
        rw [← HRows.out, List.getD_eq_getElem?_getD, List.getElem?_map, hpc1]; rfl
       have HPc1 := Lib.hid hpc1
       clear hpc1
       have HXo := Lib.hid hxo
       have HXb := Lib.hid hxb
       generalize rows.getD d [] = zs at *
       obtain ⟨zl, hzl⟩ : ∃ x, zs.length = x := ⟨_, rfl⟩
       rw [hzl] at hxc hfit HXo
       have HZl := Lib.hid hzl
       have hle : ¬ ((zl : Int) > (M : Int)) := by omega
       have HF3 := Lib.hid hf3
       have HKt := Lib.hid hkt
       have HGr3 := Lib.hid hgr
       obtain ⟨vs, hvl, hvo, hve⟩ := hrw
       have HVs := Lib.hid (And.intro hvl (And.intro hvo hve))
       clear hkt hgr hxo hxb hzl hf3 hvl hvo hve
       obtain ⟨i0, hi, hz0, hz1, hz2⟩ := info_parts infoBs
       go_wp2_with (at_builtin; refine wpList_append_own _ rfl _ _ 33 rfl wB.heap.size 25 i0 (.slice none 0 0) 1 24 Tryz.underlying33 hi hz0 hz1 hz2 rfl (by decide) (.slice a3 (nq + d) c3) vs.length vs rfl ((HVs.out.2.1).alloc _) ⟨wE.heap.size, 0, none⟩ 1 1 [.slice xa zl xc] rfl rfl (cell_one_new _ _ _) (by simp [Value.oneCell']) ?c3 ?c4 ?c5 ?_)
       case c3 => have h1 := HVs.out.1; have h2 := HNq3.out; have h3 := HNc3.out; rw [List.length_map, List.length_append, HNq.out, List.length_take] at h1; unfold maxLen; omega
       case c4 => have h1 := HVs.out.1; have h2 := HNq3.out; have h3 := HNc3.out; rw [List.length_map, List.length_append, HNq.out, List.length_take] at h1; omega
       case c5 => have h1 := HGr3.out.size; omega
       intro v' w3 hown' hgrow _
       have hvn : vs.length = nq + d := by have h1 := HVs.out.1; rw [List.length_map, List.length_append, HNq.out, List.length_take, HNr.out.2] at h1; omega
       have hga : Grow wE (wE.alloc (.cells #[.slice xa zl xc] 25)) := (Grow.refl wE).alloc _
       have hva := (HVs.out.2.1).alloc (.cells #[.slice xa zl xc] 25)
       have HKt3 := Lib.hid ((HKt.out.trans (KT.of_grow hga)).trans (KT.of_grown hva hgrow))
       have HGr5 := Lib.hid (grow_by (HGr3.out.trans hga) hva hgrow)
       have HR5 : Hid (RowsN w3 wB.heap.size v' ((qs ++ (cutAll p M).take (d + 1)).map (Pc.row h0 (ttl - k - 1)))) := by
        have hxo := own_less1 (own_grow HXo.out hga) HBase.out
        have hzl := HZl.out
        subst hzl
        have := rows_push (W := wE.alloc (.cells #[.slice xa zs.length xc] 25)) (v := .slice a3 (nq + d) c3) (vs := vs) ⟨HVs.out.1, hva, fun i hi => ⟨own_grow (HVs.out.2.2 i hi).1 hga, (HVs.out.2.2 i hi).2⟩⟩ (x := .slice xa zs.length xc) (zs := zs) hxo HXb.out hown' hgrow
        rw [List.take_add_one, HPc1.out, ← List.append_assoc, List.map_append]
        rw [HXs.out] at this
        exact this
       rw [hvn] at hown'
       obtain ⟨a5, c5, rfl, _, _⟩ := owns_shape hown'
       clear hown' hgrow hga hva hvn hi hz0 hz1 hz2
       go_wp2_with fail
       exact ⟨⟨d + 1, a5, c5, by omega, by simp, rfl, HR5.out, HKt3.out, HGr5.out⟩, by simp [intOf]; omega⟩
  case neg =>
   have hkn : k = n := by omega
   have hi1 : ¬ ((k : Int) < (n : Int)) := by omega
   have HKn := Lib.hid hkn
   clear hkn hlt
   go_wp2_with fail
   with_reducible refine (rnew _).mono ?_
   rintro e w5 ⟨T, F, rfl, ht⟩
   have HTab := Lib.hid ht
   clear ht
   go_wp2_with fail
   have hnp0 : 0 < np := by rw [← HNp.out]; exact tile_one HLk.out.tile
   have hnpl : np ≤ 1401 := by have h1 := tile_count ps 0 HLk.out.tile; have h2 := HPl.out; have h3 := HNp.out; omega
   have HNpb : Hid (0 < np ∧ np ≤ 1401) := ⟨hnp0, hnpl⟩
   clear hnp0 hnpl
   go_loopw [20, 21] (fun v i wr => ∃ (j : Nat) (ys : List Int) (a4 : Option Addr) (c4 : Nat), j ≤ no ∧ i = .int .i64 j ∧ v = .slice a4 ys.length c4 ∧ ys.length = j ∧ (∀ y ∈ ys, 0 ≤ y ∧ y < (np : Int)) ∧ wr.ownsRow w5.heap.size 3 1 v ys.length (ys.map (Value.int .i64)) ∧ Grow w5 wr) (fun v i _ => no - (intOf i).toNat)
   case atStart => exact ⟨0, [], none, 0, by omega, rfl, rfl, rfl, by simp, World.ownsRow_nil _ _ _ _, Grow.refl _⟩
   case round => as_aux_lemma =>
    obtain ⟨j, ys, a4, c4, hj, rfl, rfl, hyl, hyb, hyo, hg⟩ := hrel
    rename World => wF
    have HY := Lib.hid (And.intro hyb (And.intro hyo hg))
    have HYl := Lib.hid hyl
    clear hyb hyo hg hyl
    by_cases hlt4 : j < no
    case pos =>
     have hi4 : (j : Int) < (no : Int) := by omega
     obtain ⟨rb, ro, rcp, e, _, _⟩ := HXS.out.solid (fun e => by have := HXl.out; rw [e] at this; simp at this; omega)
     injection e with e1 e2 e3
     subst e1; subst e3
     clear e2
     have hxc := HXS.out.cells j (by have := HXl.out; omega)
     have rcl : wF.cell? ⟨rb, ro + j, none⟩ = some (.int .i64 (xs.getD j 0)) := ((((HG4.out.trans HLk.out.grow).trans HTab.out.grow).trans HY.out.2.2).cell (block_lt hxc)).trans hxc
     generalize xs.getD j 0 = x at *
     have hnp0 : ¬ ((np : Int) = 0) := by have := HNpb.out; omega
     clear hxc hlt4
     obtain ⟨i0, hi, hz0, hz1, hz2⟩ := info_parts infoI3
     have HIx := Lib.hid (idx_of x HNpb.out)
     generalize hzz : (wrap64 (x.tmod np + np)).tmod np = z at *
     have HX1 := Lib.hid (ints_one wF z)
     have hga : Grow wF (wF.alloc (.cells #[.int .i64 z] 3)) := (Grow.refl wF).alloc _
     have HGa := Lib.hid hga
     clear hga
     go_wp2_with (at_builtin; refine wpList_append_ints (k := .i64) rfl _ _ 28 rfl w5.heap.size 3 i0 8 Tryz.underlying28 hi hz0 hz1 hz2 _ ys.length (ys.map (Value.int .i64)) rfl (own_grow HY.out.2.1 HGa.out) _ [z] rfl HX1.out ?c3 ?c4 ?c5 ?_)
     case c3 => unfold maxLen; simp; have := HYl.out; omega
     case c4 => have := HYl.out; simp; omega
     case c5 => have := HY.out.2.2.size; have := HGa.out.size; omega
     intro v6 w6 ho6 hg6
     have ho7 : w6.ownsRow w5.heap.size 3 1 v6 (ys ++ [z]).length ((ys ++ [z]).map (Value.int .i64)) := by simpa using ho6
     have HG6 := Lib.hid (grow_by (HY.out.2.2.trans HGa.out) (own_grow HY.out.2.1 HGa.out) hg6)
     obtain ⟨a6, c6, rfl, _, _⟩ := owns_shape ho7
     have HO7 := Lib.hid ho7
     clear ho6 ho7 hg6 hzz hi hz0 hz1 hz2
     go_wp2_with fail
     exact ⟨⟨j + 1, ys ++ [z], a6, c6, by omega, by simp, rfl, by have := HYl.out; simp; omega, fun y hy => by rcases List.mem_append.1 hy with hy | hy; exact HY.out.1 y hy; rw [List.mem_singleton.1 hy]; exact HIx.out, HO7.out, HG6.out⟩, by simp [intOf]; omega⟩
    case neg =>
     have hi4 : ¬ ((j : Int) < (no : Int)) := by omega
     have HN5 : Hid (no ≤ 100) := h5
     go_wp2_with fail
     go_loopw [20, 22] (fun v i wr => ∃ (q : Nat) (zs : List Int) (a4 : Option Addr) (c4 : Nat), q ≤ np ∧ i = .int .i64 q ∧ v = .slice a4 zs.length c4 ∧ zs.length = ys.length + q ∧ (∀ y ∈ zs, 0 ≤ y ∧ y < (np : Int)) ∧ (∀ r : Nat, r < q → (r : Int) ∈ zs) ∧ wr.ownsRow w5.heap.size 3 1 v zs.length (zs.map (Value.int .i64)) ∧ Grow w5 wr) (fun v i _ => np - (intOf i).toNat)
     case atStart => exact ⟨0, ys, a4, c4, by omega, rfl, rfl, rfl, HY.out.1, fun r hr => by omega, HY.out.2.1, HY.out.2.2⟩
     case round => as_aux_lemma =>
      obtain ⟨q, zs, a5, c5, hq, rfl, rfl, hzl, hzb, hzm, hzo, hg⟩ := hrel
      rename World => wG
      have HZ := Lib.hid (And.intro hzb (And.intro hzm (And.intro hzo hg)))
      have HZl := Lib.hid hzl
      clear hzb hzm hzo hg hzl
      have hwq : IntKind.i64.wrap ((q : Int) + 1) = (q : Int) + 1 := IntWalk.i64_in _ (by have := HNpb.out; omega)
      by_cases hlt5 : q < np
      case pos =>
       have hi5 : (q : Int) < (np : Int) := by omega
       obtain ⟨i0, hi, hz0, hz1, hz2⟩ := info_parts infoI3
       have HX1 := Lib.hid (ints_one wG (q : Int))
       have hga : Grow wG (wG.alloc (.cells #[.int .i64 (q : Int)] 3)) := (Grow.refl wG).alloc _
       have HGa := Lib.hid hga
       clear hga
       go_wp2_with (at_builtin; refine wpList_append_ints (k := .i64) rfl _ _ 28 rfl w5.heap.size 3 i0 8 Tryz.underlying28 hi hz0 hz1 hz2 _ zs.length (zs.map (Value.int .i64)) rfl (own_grow HZ.out.2.2.1 HGa.out) _ [(q : Int)] rfl HX1.out ?c3 ?c4 ?c5 ?_)
       case c3 => unfold maxLen; simp; have := HZl.out; have := HYl.out; have := HN5.out; have := HNpb.out; omega
       case c4 => have := HZl.out; have := HYl.out; have := HN5.out; have := HNpb.out; simp; omega
       case c5 => have := HZ.out.2.2.2.size; have := HGa.out.size; omega
       intro v6 w6 ho6 hg6
       have ho7 : w6.ownsRow w5.heap.size 3 1 v6 (zs ++ [(q : Int)]).length ((zs ++ [(q : Int)]).map (Value.int .i64)) := by simpa using ho6
       have HG6 := Lib.hid (grow_by (HZ.out.2.2.2.trans HGa.out) (own_grow HZ.out.2.2.1 HGa.out) hg6)
       obtain ⟨a6, c6, rfl, _, _⟩ := owns_shape ho7
       have HO7 := Lib.hid ho7
       clear ho6 ho7 hg6 hi hz0 hz1 hz2
       go_wp2_with fail
       exact ⟨⟨q + 1, zs ++ [(q : Int)], a6, c6, by omega, by simp, rfl, by have := HZl.out; simp; omega, fun y hy => by rcases List.mem_append.1 hy with hy | hy; exact HZ.out.1 y hy; rw [List.mem_singleton.1 hy]; omega, fun r hr => by rcases Nat.lt_or_ge r q with h | h; exact List.mem_append.2 (Or.inl (HZ.out.2.1 r h)); exact List.mem_append.2 (Or.inr (List.mem_singleton.2 (by omega))), HO7.out, HG6.out⟩, by simp [intOf]; omega⟩
      case neg =>
       have hi5 : ¬ ((q : Int) < (np : Int)) := by omega
       have hqn : q = np := by omega
       have HCov : Hid (∀ r : Nat, r < np → (r : Int) ∈ zs) := fun r hr => HZ.out.2.1 r (by omega)
       have hzp : 0 < zs.length := by have := HZl.out; have := HNpb.out; omega
       have hzm : zs.length ≤ 1501 := by have := HZl.out; have := HYl.out; have := HN5.out; have := HNpb.out; omega
       have hzo := HZ.out.2.2.1
       obtain ⟨zb, rfl⟩ : ∃ zb, a5 = some ⟨zb, 0, none⟩ := by
        rcases hzo.2 with ⟨e, h0⟩ | ⟨g, cap, cur, e, _⟩
        ·omega
        ·injection e with e1 e2 e3; exact ⟨g, e1⟩
       have hzlt := hzo.lt zb rfl
       have HIdx : Hid (∀ x, BelowF F wG.heap.size wG x → ∀ r, r < zs.length → x.cell? ⟨zb, r, none⟩ = some (.int .i64 (zs.getD r 0))) := fun x hx r hr => hx.cell (own_ints hzo hr) (fun e => by
        have h1 := hzlt; have h2 := HTab.out.none.lt
        rcases e with e | e
        ·have e : zb = F := e; omega
        ·have e : wG.heap.size ≤ zb := e; omega)
       have HGr6 : Hid (∀ x, BelowF F wG.heap.size wG x → Grow wA x) := fun x hx => grow_ext (HTab.out.grow.trans HZ.out.2.2.2) hx (fun k hk => by
        have h1 := HTab.out.le; have h2 := (HTab.out.grow.trans HZ.out.2.2.2).size
        rcases hk with hk | hk <;> omega)
       obtain ⟨kl, hkl⟩ := piece_key HRaw.out.src HRaw.out.dst HRaw.out.proto HRaw.out.id
       have HKl := Lib.hid hkl
       have HTb : Hid (Tab wG T F wG.heap.size 0 kl h0 (ttl - k) h0.os P []) := Or.inl ⟨rfl, ⟨(HZ.out.2.2.2.block _ (lt_of_block HTab.out.tab)).trans HTab.out.tab, Nat.le_refl _⟩, owns_mono HTab.out.none HZ.out.2.2.2⟩
       have HZp : Hid (0 < zs.length ∧ zs.length ≤ 1501) := ⟨hzp, hzm⟩
       have HZb := Lib.hid HZ.out.1
       obtain ⟨ab, ao, rfl, hnp2, hnc, hcm, hrow⟩ := row_at HLk.out.rows (tile_one HLk.out.tile)
       have HRow := Lib.hid hrow
       have HNC : Hid (np ≤ c ∧ c ≤ maxLen) := ⟨hnc, hcm⟩
       clear hnp2 hnc hcm hrow hkl hzp hzm hzo hzlt hqn hlt5 hi4 hi1
       go_wp2_with fail
       go_loopw [23] (fun i wr => ∃ (j : Nat) (A : List Pc), j ≤ zs.length ∧ i = .int .i64 j ∧ Tab wr T F wG.heap.size (300 * j) kl h0 (ttl - k) h0.os P A ∧ (∀ q ∈ A, q ∈ ps) ∧ (∀ r, r < j → ∀ p, ps[(zs.getD r 0).toNat]? = some p → p ∈ A) ∧ (j = 0 ∨ Lacks h0.os P A) ∧ BelowF F wG.heap.size wG wr) (fun i _ => zs.length - (intOf i).toNat)
       case atStart => exact ⟨0, [], by omega, rfl, HTb.out, (fun q hq => by cases hq), (fun r hr => by omega), Or.inl rfl, GrowBut.refl _ _⟩
       case round => as_aux_lemma =>
        obtain ⟨j6, A, hj6, rfl, htab, hAp, hAc, hlk, hbf⟩ := hrel
        rename World => wH
        have HTb6 := Lib.hid (And.intro htab (And.intro hAp (And.intro hAc hlk)))
        have HBf := Lib.hid hbf
        clear htab hAp hAc hlk hbf
        have hwj : IntKind.i64.wrap ((j6 : Int) + 1) = (j6 : Int) + 1 := IntWalk.i64_in _ (by have := HZp.out; omega)
        obtain ⟨zn, hzn⟩ : ∃ x, zs.length = x := ⟨_, rfl⟩
        rw [hzn] at hj6 ⊢
        have HZn := Lib.hid hzn
        clear hzn
        by_cases hlt6 : j6 < zn
        case pos =>
         have hi6 : (j6 : Int) < (zn : Int) := by omega
         have icl := HIdx.out wH HBf.out j6 (by have := HZn.out; omega)
         have hbd := HZb.out (zs.getD j6 0) (by rw [List.getD_eq_getElem?_getD, List.getElem?_eq_getElem (by have := HZn.out; omega)]; exact List.getElem_mem _)
         obtain ⟨r6, hr6⟩ : ∃ r6 : Nat, zs.getD j6 0 = (r6 : Int) := ⟨(zs.getD j6 0).toNat, by omega⟩
         have HR6 := Lib.hid hr6
         rw [hr6] at icl hbd
         have hr6n : (r6 : Int) < (np : Int) := hbd.2
         obtain ⟨p, hp⟩ : ∃ p, ps[r6]? = some p := ⟨_, List.getElem?_eq_getElem (by have := HNp.out; omega)⟩
         obtain ⟨x1, hx1, hb1⟩ := HRow.out r6 p hp
         have pcl : wH.cell? ⟨ab, ao + r6, none⟩ = some x1 := ((HGr6.out wH HBf.out).cell (block_lt hx1)).trans hx1
         have hbw : BytesV wH x1 (p.row h0 (ttl - k)) := hb1.mono (HGr6.out wH HBf.out)
         have ht9 := HHd.out.2.2.2.2
         unfold U8 at ht9
         have HTk : Hid (Calls Tryz.prog 10 #[.pointer (some ⟨T, 0, none⟩), x1] wH (TookP wH T F wG.heap.size (300 * j6 + 300) kl h0 (ttl - k) h0.os P (p :: A))) :=
          take_all HRaw.out (by unfold U8; have := HKn.out; omega) HLk.out.tile (List.mem_of_getElem? hp) hbw (by have := HPl.out; omega) HP.out.1 (by rw [HHd.out.2.2.2.1]; exact HOO.out) HKl.out (by have := HZn.out; have := HZp.out; omega) HTb6.out.1 HTb6.out.2.1
         have HPp := Lib.hid hp
         obtain ⟨pb, po, pL, pcp, pZ, pS, rfl, _⟩ := pktAt_of (h := p.hd h0 (ttl - k)) (Pc.raw HRaw.out (by unfold U8; have := HKn.out; omega) (tile_ok ps 0 HLk.out.tile p (List.mem_of_getElem? hp)).os (by have := (tile_ok ps 0 HLk.out.tile p (List.mem_of_getElem? hp)).le; have := HPl.out; omega)) (by rw [(tile_ok ps 0 HLk.out.tile p (List.mem_of_getElem? hp)).data]; exact (HP.out.1.drop _).take _) (by show 20 + p.os.length + p.data.length ≤ 65535; have := (tile_ok ps 0 HLk.out.tile p (List.mem_of_getElem? hp)).le; have := (tile_ok ps 0 HLk.out.tile p (List.mem_of_getElem? hp)).os.len; have := HPl.out; omega) hbw
         clear hx1 hb1 hbw ht9 hp hr6 hbd hlt6
         go_wp2_with fail
         with_reducible refine HTk.out.mono ?_
         rintro e w7 ⟨hbf7, h7⟩
         have HBf7 := Lib.hid (HBf.out.trans hbf7)
         clear hbf7 pcl icl
         rcases h7 with ⟨qb, qo, qc, qZ, qS, rfl, hq⟩ | ⟨rfl, htb, hlk⟩
         ·obtain ⟨qL, hqL⟩ : ∃ x, 20 + h0.os.length + P.length = x := ⟨_, rfl⟩
          rw [hqL] at hq ⊢
          have hqb : 20 ≤ qL ∧ qL ≤ 2000 := by have e1 := HPl.out; have e2 := HOO.out.len; rw [HHd.out.2.2.2.1] at hqL; omega
          have hq0 : ((qL : Int) == 0) = false := by simp; omega
          have HPar := Lib.hid (parse_any hq (by omega))
          have HG7 := Lib.hid (HGr6.out _ HBf7.out)
          clear hq hqL hqb
          go_wp2_with fail
          with_reducible refine HPar.out.mono ?_
          rintro e w8 ⟨v, u, rfl, hk, hu, hg⟩
          have HG8 := Lib.hid (HG7.out.trans hg)
          have HN8 := Lib.hid (((HLk.out.grow.trans HG8.out).block _ (lt_of_block HN4.out)).trans HN4.out)
          obtain ⟨ua, uL, uc, rfl⟩ : ∃ a l c, u = .slice a l c := by obtain ⟨a, c, h, _, _⟩ := hu.shape; exact ⟨_, _, _, h⟩
          obtain ⟨wa, wL, wc, rfl⟩ : ∃ a l c, v = .slice a l c := by obtain ⟨a, c, h, _, _⟩ := hk.body.shape; exact ⟨_, _, _, h⟩
          have HPd := Lib.hid (And.intro hk hu)
          clear hg hk hu HPar hq0
          obtain rfl := HH0.out
          simp only [Hd.val, Hd.cells, hdCells, Hd.wh]
          go_upto_region 45 with fail
          have hg9 : Grow w8 (w8.alloc (Obj.cells #[Value.int IntKind.u8 tos, Value.int IntKind.u16 id, Value.bool evil, Value.bool false, Value.bool false, Value.int IntKind.i64 0, Value.int IntKind.u8 (ttl - ↑k), Value.int IntKind.u8 proto, Value.int IntKind.u32 167772165, Value.int IntKind.u32 184549381, Value.slice wa wL wc] 27)) := (Grow.refl w8).alloc _
          have hn9 := heap_alloc_new w8 (Obj.cells #[Value.int IntKind.u8 tos, Value.int IntKind.u16 id, Value.bool evil, Value.bool false, Value.bool false, Value.int IntKind.i64 0, Value.int IntKind.u8 (ttl - ↑k), Value.int IntKind.u8 proto, Value.int IntKind.u32 167772165, Value.int IntKind.u32 184549381, Value.slice wa wL wc] 27)
          obtain ⟨w9, hw9⟩ : ∃ x, (w8.alloc (Obj.cells #[Value.int IntKind.u8 tos, Value.int IntKind.u16 id, Value.bool evil, Value.bool false, Value.bool false, Value.int IntKind.i64 0, Value.int IntKind.u8 (ttl - ↑k), Value.int IntKind.u8 proto, Value.int IntKind.u32 167772165, Value.int IntKind.u32 184549381, Value.slice wa wL wc] 27)) = x := ⟨_, rfl⟩
          rw [hw9] at hg9 hn9 ⊢
          obtain ⟨Q9, hQ9⟩ : ∃ x, w8.heap.size = x := ⟨_, rfl⟩
          rw [hQ9] at hn9 ⊢
          have HN9 := Lib.hid ((hg9.block _ (lt_of_block HN8.out)).trans HN8.out)
          have HQ9 := Lib.hid hn9
          have HG9 := Lib.hid (HG8.out.trans hg9)
          have HPd9 := Lib.hid (And.intro (HPd.out.1.mono hg9) (HPd.out.2.mono hg9))
          clear hg9 hn9 hw9 hQ9 HPd HN8 HG8
          obtain ⟨⟨c0, c1, c2, c3, c4, c5'⟩, c6, c7, c8, c9, c10⟩ := blkH HN9.out
          go_upto_region 46 with fail
          clear c0 c1 c2 c3 c4 c5' c6 c7 c8 c9 c10
          have hg9 : Grow w9 (w9.alloc (Obj.cells #[Value.int IntKind.u8 tos, Value.int IntKind.u16 id, Value.bool evil, Value.bool false, Value.bool false, Value.int IntKind.i64 0, Value.int IntKind.u8 ttl, Value.int IntKind.u8 proto, Value.int IntKind.u32 167772165, Value.int IntKind.u32 184549381, Value.slice va Lo vc] 27)) := (Grow.refl w9).alloc _
          have hn9 := heap_alloc_new w9 (Obj.cells #[Value.int IntKind.u8 tos, Value.int IntKind.u16 id, Value.bool evil, Value.bool false, Value.bool false, Value.int IntKind.i64 0, Value.int IntKind.u8 ttl, Value.int IntKind.u8 proto, Value.int IntKind.u32 167772165, Value.int IntKind.u32 184549381, Value.slice va Lo vc] 27)
          obtain ⟨w10, hw9⟩ : ∃ x, w9.alloc (Obj.cells #[Value.int IntKind.u8 tos, Value.int IntKind.u16 id, Value.bool evil, Value.bool false, Value.bool false, Value.int IntKind.i64 0, Value.int IntKind.u8 ttl, Value.int IntKind.u8 proto, Value.int IntKind.u32 167772165, Value.int IntKind.u32 184549381, Value.slice va Lo vc] 27) = x := ⟨_, rfl⟩
          rw [hw9] at hg9 hn9 ⊢
          have HG9w := Lib.hid hg9
          obtain ⟨R9, hR9⟩ : ∃ x, w9.heap.size = x := ⟨_, rfl⟩
          have HLT9 : Hid (B < R9 ∧ Q9 < R9) := by rw [← hR9]; exact ⟨lt_of_block HN9.out, lt_of_block HQ9.out⟩
          have HRs : Hid (w9.heap.size = R9) := hR9
          rw [hR9] at hn9 ⊢
          have HR10 := Lib.hid hn9
          have HQ10 := Lib.hid ((hg9.block _ (lt_of_block HQ9.out)).trans HQ9.out)
          have c6 := (blkH ((hg9.block _ (lt_of_block HN9.out)).trans HN9.out)).2.1
          have z6 := (blkHz hn9).2.1
          have r6 := (blkH hn9).2.1
          have u1 : IntKind.u8.wrap (n : Int) = n := IntWalk.u8_in _ (by omega)
          have u2 : IntKind.u8.wrap (ttl - (n : Int)) = ttl - (k : Int) := by have e := HKn.out; have e2 := HT.out; unfold U8 at e2; rw [e]; exact IntWalk.u8_in _ (by omega)
          clear hg9 hn9 hw9 hR9
          go_upto_region 47 with fail
          have hr11 := heap_setCell_same _ _ 6 _ _ (.int .u8 (ttl - (k : Int))) HR10.out
          have hq11 := (Below.heap_setCell w10 ⟨R9, 6, none⟩ (.int .u8 (ttl - (k : Int))) Q9 (show Q9 ≠ R9 by have := HLT9.out.2; omega)).trans HQ10.out
          have hg11 : Grow w9 (w10.setCell ⟨R9, 6, none⟩ (.int .u8 (ttl - (k : Int)))) := only_new HG9w.out (by have := HRs.out; omega) (only_set _)
          obtain ⟨w11, hw11⟩ : ∃ x, w10.setCell ⟨R9, 6, none⟩ (.int .u8 (ttl - (k : Int))) = x := ⟨_, rfl⟩
          rw [hw11] at hr11 hq11 hg11 ⊢
          have hr11' : w11.heap[R9]? = some (.cells #[.int .u8 tos, .int .u16 id, .bool evil, .bool false, .bool false, .int .i64 0, .int .u8 (ttl - k), .int .u8 proto, .int .u32 167772165, .int .u32 184549381, .slice va Lo vc] 27 (0, 0)) := hr11
          have HG11 := Lib.hid hg11
          have HGw : Hid (Grow w w9) := (HG4.out.trans HLk.out.grow).trans HG9.out
          have HSm : Hid (∀ x, Grow w9 x → Calls Tryz.prog 12 #[.agg #[.int .u8 tos, .int .u16 id, .bool evil, .bool false, .bool false, .int .i64 0, .int .u8 (ttl - k), .int .u8 proto, .int .u32 167772165, .int .u32 184549381, .slice wa wL wc], .agg #[.int .u8 tos, .int .u16 id, .bool evil, .bool false, .bool false, .int .i64 0, .int .u8 (ttl - k), .int .u8 proto, .int .u32 167772165, .int .u32 184549381, .slice va Lo vc]] x fun e w' => e = .returned (.bool true) ∧ Grow x w') := fun x hx => same_hdr (h := ⟨tos, id, evil, false, false, 0, ttl - k, proto, 167772165, 184549381, .slice none 0 0, os⟩) (v := .slice wa wL wc) (v' := .slice va Lo vc) (HPd9.out.1.body.mono hx) (HOK.out.body.mono (HGw.out.trans hx)) (by have := HOO.out.len; dsimp only; omega)
          have HSt : Hid (∀ x, Grow w9 x → (convert 25 9 (.slice ua uL uc)).run Tryz.prog x = .ok (.string (strOfNums P)) x ∧ (convert 25 9 (.slice pa Lp pc)).run Tryz.prog x = .ok (.string (strOfNums P)) x) := fun x hx => ⟨str_of (HPd9.out.2.mono hx), str_of (HP.out.mono (HGw.out.trans hx))⟩
          obtain ⟨⟨c0, c1, c2, c3, c4, c5'⟩, c6', c7, c8, c9, c10⟩ := blkH hr11'
          obtain ⟨⟨d0, d1, d2, d3, d4, d5⟩, d6, d7, d8, d9, d10⟩ := blkH hq11
          clear hr11 hr11' hq11 hg11 hw11 c6 z6 r6 u1 u2
          go_wp2_with fail
          with_reducible refine (HSm.out _ HG11.out).mono ?_
          rintro e w12 ⟨rfl, hg⟩
          have HG12 := Lib.hid (HG11.out.trans hg)
          obtain ⟨s1, s2⟩ := HSt.out _ HG12.out
          clear hg HSm HSt c0 c1 c2 c3 c4 c5' c6' c7 c8 c9 c10 d0 d1 d2 d3 d4 d5 d6 d7 d8 d9 d10
          generalize strOfNums P = sP at *
          have hsP : (sP.toList == sP.toList) = true := beq_self_eq_true _
          go_wp2_with fail
          have hnk := HN.out
          unfold NilOk at hnk
          have hnk := hnk _ (HGw.out.trans HG12.out)
          with_reducible refine hnk.mono ?_
          clear hnk
          rintro e w13 ⟨rfl, hg⟩
          have HGx := Lib.hid ((HGw.out.trans HG12.out).trans hg)
          clear hg
          go_wp2_with fail
          refine bodyPost_ret (v := .bool true) (by simp [results, Tryz.results3, go_sem]) rfl ?_
          exact ⟨rfl, HGx.out⟩
         ·have HT7 := Lib.hid (And.intro htb hlk)
          clear htb hlk
          go_wp2_with fail
          refine ⟨⟨j6 + 1, p :: A, by omega, by simp, HT7.out.1, fun q hq => ?_, fun r hr p' hp' => ?_, Or.inr HT7.out.2, HBf7.out⟩, by simp [intOf]; omega⟩
          ·rcases List.mem_cons.1 hq with rfl | hq
           ·exact List.mem_of_getElem? HPp.out
           ·exact HTb6.out.2.1 q hq
          ·rcases Nat.lt_or_ge r j6 with h | h
           ·exact List.mem_cons_of_mem _ (HTb6.out.2.2.1 r h p' hp')
           ·have e : r = j6 := by omega
            rw [e, HR6.out, Int.toNat_natCast, HPp.out] at hp'
            injection hp' with hp'
            rw [← hp']; exact List.mem_cons_self
        case neg =>
         exfalso
         have hz := HZn.out
         have hz2 := HZp.out
         rcases HTb6.out.2.2.2 with h | h
         ·omega
         ·refine h ps HLk.out.tile (fun p hp => ?_)
          obtain ⟨r, hr, rfl⟩ := List.getElem_of_mem hp
          have hm := HCov.out r (by rw [← HNp.out]; exact hr)
          obtain ⟨i, hi, e⟩ := List.getElem_of_mem hm
          refine HTb6.out.2.2.1 i (by omega) _ ?_
          rw [List.getD_eq_getElem?_getD, List.getElem?_eq_getElem hi, e]
          simp [hr]
end
end Go.Proofs.YtgckhdepnmiejaaGreat
