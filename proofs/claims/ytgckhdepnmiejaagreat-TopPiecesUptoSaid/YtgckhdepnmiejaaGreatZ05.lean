/- A packet is taken apart (and what stands on it). -/
import Derived.Test.YtgckhdepnmiejaaGreatZ04
set_option linter.unusedVariables false
set_option linter.unusedSimpArgs false
namespace Go.Proofs.YtgckhdepnmiejaaGreat
section
set_option maxRecDepth 100000
open Go.RowKit
theorem put11 {w : World} {B : Nat} {T : TypeId} {y0 y1 y2 y3 y4 y5 y6 y7 y8 y9 y10 : Value} (h : w.heap[B]? = some (.cells #[y0, y1, y2, y3, y4, y5, y6, y7, y8, y9, y10] T (0, 0))) (x0 x1 x2 x3 x4 x5 x6 x7 x8 x9 x10 : Value) : (((((((((((w.setCell ⟨B, 0, none⟩ x0).setCell ⟨B, 1, none⟩ x1).setCell ⟨B, 2, none⟩ x2).setCell ⟨B, 3, none⟩ x3).setCell ⟨B, 4, none⟩ x4).setCell ⟨B, 5, none⟩ x5).setCell ⟨B, 6, none⟩ x6).setCell ⟨B, 7, none⟩ x7).setCell ⟨B, 8, none⟩ x8).setCell ⟨B, 9, none⟩ x9).setCell ⟨B, 10, none⟩ x10).heap[B]? = some (.cells #[x0, x1, x2, x3, x4, x5, x6, x7, x8, x9, x10] T (0, 0)) := by
 have h0 : (w.setCell ⟨B, 0, none⟩ x0).heap[B]? = some (.cells #[x0, y1, y2, y3, y4, y5, y6, y7, y8, y9, y10] T (0, 0)) := heap_setCell_same _ B 0 _ _ x0 h
 have h1 : ((w.setCell ⟨B, 0, none⟩ x0).setCell ⟨B, 1, none⟩ x1).heap[B]? = some (.cells #[x0, x1, y2, y3, y4, y5, y6, y7, y8, y9, y10] T (0, 0)) := heap_setCell_same _ B 1 _ _ x1 h0
 have h2 : (((w.setCell ⟨B, 0, none⟩ x0).setCell ⟨B, 1, none⟩ x1).setCell ⟨B, 2, none⟩ x2).heap[B]? = some (.cells #[x0, x1, x2, y3, y4, y5, y6, y7, y8, y9, y10] T (0, 0)) := heap_setCell_same _ B 2 _ _ x2 h1
 have h3 : ((((w.setCell ⟨B, 0, none⟩ x0).setCell ⟨B, 1, none⟩ x1).setCell ⟨B, 2, none⟩ x2).setCell ⟨B, 3, none⟩ x3).heap[B]? = some (.cells #[x0, x1, x2, x3, y4, y5, y6, y7, y8, y9, y10] T (0, 0)) := heap_setCell_same _ B 3 _ _ x3 h2
 have h4 : (((((w.setCell ⟨B, 0, none⟩ x0).setCell ⟨B, 1, none⟩ x1).setCell ⟨B, 2, none⟩ x2).setCell ⟨B, 3, none⟩ x3).setCell ⟨B, 4, none⟩ x4).heap[B]? = some (.cells #[x0, x1, x2, x3, x4, y5, y6, y7, y8, y9, y10] T (0, 0)) := heap_setCell_same _ B 4 _ _ x4 h3
 have h5 : ((((((w.setCell ⟨B, 0, none⟩ x0).setCell ⟨B, 1, none⟩ x1).setCell ⟨B, 2, none⟩ x2).setCell ⟨B, 3, none⟩ x3).setCell ⟨B, 4, none⟩ x4).setCell ⟨B, 5, none⟩ x5).heap[B]? = some (.cells #[x0, x1, x2, x3, x4, x5, y6, y7, y8, y9, y10] T (0, 0)) := heap_setCell_same _ B 5 _ _ x5 h4
 have h6 : (((((((w.setCell ⟨B, 0, none⟩ x0).setCell ⟨B, 1, none⟩ x1).setCell ⟨B, 2, none⟩ x2).setCell ⟨B, 3, none⟩ x3).setCell ⟨B, 4, none⟩ x4).setCell ⟨B, 5, none⟩ x5).setCell ⟨B, 6, none⟩ x6).heap[B]? = some (.cells #[x0, x1, x2, x3, x4, x5, x6, y7, y8, y9, y10] T (0, 0)) := heap_setCell_same _ B 6 _ _ x6 h5
 have h7 : ((((((((w.setCell ⟨B, 0, none⟩ x0).setCell ⟨B, 1, none⟩ x1).setCell ⟨B, 2, none⟩ x2).setCell ⟨B, 3, none⟩ x3).setCell ⟨B, 4, none⟩ x4).setCell ⟨B, 5, none⟩ x5).setCell ⟨B, 6, none⟩ x6).setCell ⟨B, 7, none⟩ x7).heap[B]? = some (.cells #[x0, x1, x2, x3, x4, x5, x6, x7, y8, y9, y10] T (0, 0)) := heap_setCell_same _ B 7 _ _ x7 h6
 have h8 : (((((((((w.setCell ⟨B, 0, none⟩ x0).setCell ⟨B, 1, none⟩ x1).setCell ⟨B, 2, none⟩ x2).setCell ⟨B, 3, none⟩ x3).setCell ⟨B, 4, none⟩ x4).setCell ⟨B, 5, none⟩ x5).setCell ⟨B, 6, none⟩ x6).setCell ⟨B, 7, none⟩ x7).setCell ⟨B, 8, none⟩ x8).heap[B]? = some (.cells #[x0, x1, x2, x3, x4, x5, x6, x7, x8, y9, y10] T (0, 0)) := heap_setCell_same _ B 8 _ _ x8 h7
 have h9 : ((((((((((w.setCell ⟨B, 0, none⟩ x0).setCell ⟨B, 1, none⟩ x1).setCell ⟨B, 2, none⟩ x2).setCell ⟨B, 3, none⟩ x3).setCell ⟨B, 4, none⟩ x4).setCell ⟨B, 5, none⟩ x5).setCell ⟨B, 6, none⟩ x6).setCell ⟨B, 7, none⟩ x7).setCell ⟨B, 8, none⟩ x8).setCell ⟨B, 9, none⟩ x9).heap[B]? = some (.cells #[x0, x1, x2, x3, x4, x5, x6, x7, x8, x9, y10] T (0, 0)) := heap_setCell_same _ B 9 _ _ x9 h8
 have h10 : (((((((((((w.setCell ⟨B, 0, none⟩ x0).setCell ⟨B, 1, none⟩ x1).setCell ⟨B, 2, none⟩ x2).setCell ⟨B, 3, none⟩ x3).setCell ⟨B, 4, none⟩ x4).setCell ⟨B, 5, none⟩ x5).setCell ⟨B, 6, none⟩ x6).setCell ⟨B, 7, none⟩ x7).setCell ⟨B, 8, none⟩ x8).setCell ⟨B, 9, none⟩ x9).setCell ⟨B, 10, none⟩ x10).heap[B]? = some (.cells #[x0, x1, x2, x3, x4, x5, x6, x7, x8, x9, x10] T (0, 0)) := heap_setCell_same _ B 10 _ _ x10 h9
 exact h10
theorem far11 {w : World} {B k : Nat} (h : k ≠ B) (x0 x1 x2 x3 x4 x5 x6 x7 x8 x9 x10 : Value) : (((((((((((w.setCell ⟨B, 0, none⟩ x0).setCell ⟨B, 1, none⟩ x1).setCell ⟨B, 2, none⟩ x2).setCell ⟨B, 3, none⟩ x3).setCell ⟨B, 4, none⟩ x4).setCell ⟨B, 5, none⟩ x5).setCell ⟨B, 6, none⟩ x6).setCell ⟨B, 7, none⟩ x7).setCell ⟨B, 8, none⟩ x8).setCell ⟨B, 9, none⟩ x9).setCell ⟨B, 10, none⟩ x10).heap[k]? = w.heap[k]? := by
 rw [Below.heap_setCell _ _ _ _ (show k ≠ B from h), Below.heap_setCell _ _ _ _ (show k ≠ B from h), Below.heap_setCell _ _ _ _ (show k ≠ B from h), Below.heap_setCell _ _ _ _ (show k ≠ B from h), Below.heap_setCell _ _ _ _ (show k ≠ B from h), Below.heap_setCell _ _ _ _ (show k ≠ B from h), Below.heap_setCell _ _ _ _ (show k ≠ B from h), Below.heap_setCell _ _ _ _ (show k ≠ B from h), Below.heap_setCell _ _ _ _ (show k ≠ B from h), Below.heap_setCell _ _ _ _ (show k ≠ B from h), Below.heap_setCell _ _ _ _ (show k ≠ B from h)]
theorem grow11 {w0 w : World} {B : Nat} (h : Grow w0 w) (hB : w0.heap.size ≤ B) (x0 x1 x2 x3 x4 x5 x6 x7 x8 x9 x10 : Value) : Grow w0 (((((((((((w.setCell ⟨B, 0, none⟩ x0).setCell ⟨B, 1, none⟩ x1).setCell ⟨B, 2, none⟩ x2).setCell ⟨B, 3, none⟩ x3).setCell ⟨B, 4, none⟩ x4).setCell ⟨B, 5, none⟩ x5).setCell ⟨B, 6, none⟩ x6).setCell ⟨B, 7, none⟩ x7).setCell ⟨B, 8, none⟩ x8).setCell ⟨B, 9, none⟩ x9).setCell ⟨B, 10, none⟩ x10) :=
 (Below.setCell (Below.setCell (Below.setCell (Below.setCell (Below.setCell (Below.setCell (Below.setCell (Below.setCell (Below.setCell (Below.setCell (Below.setCell h hB _) hB _) hB _) hB _) hB _) hB _) hB _) hB _) hB _) hB _) hB _)
theorem blkHz {w : World} {B : Nat} {T : TypeId} {cs : Array Value} (hh : w.heap[B]? = some (.cells cs T (0, 0))) :
  (w.frozen? ⟨B, 0, none⟩ = false ∧ w.frozen? ⟨B, 1, none⟩ = false ∧ w.frozen? ⟨B, 2, none⟩ = false ∧ w.frozen? ⟨B, 3, none⟩ = false ∧ w.frozen? ⟨B, 4, none⟩ = false ∧ w.frozen? ⟨B, 5, none⟩ = false) ∧ w.frozen? ⟨B, 6, none⟩ = false ∧ w.frozen? ⟨B, 7, none⟩ = false ∧ w.frozen? ⟨B, 8, none⟩ = false ∧ w.frozen? ⟨B, 9, none⟩ = false ∧ w.frozen? ⟨B, 10, none⟩ = false := by
 refine ⟨⟨?_, ?_, ?_, ?_, ?_, ?_⟩, ?_, ?_, ?_, ?_, ?_⟩ <;> simp [World.frozen?, hh]
def NewHd (b0 : Nat) (u : Value) (x : World) : Prop := ∃ B, u = .pointer (some ⟨B, 0, none⟩) ∧ x.heap[B]? = some (.cells #[.int .u8 0, .int .u16 0, .bool false, .bool false, .bool false, .int .i64 0, .int .u8 0, .int .u8 0, .int .u32 0, .int .u32 0, .slice none 0 0] 27 (0, 0)) ∧ b0 ≤ B
def OwnB (base : Nat) (zs : List Int) (u : Value) (x : World) : Prop := x.ownsRow base 5 1 u zs.length (zs.map (Value.int .u8))
def BuiltH (base : Nat) (cs : Value → Value) (zs : List Int) (u : Value) (x : World) : Prop := ∃ v', u = cs v' ∧ OwnB base zs v' x
theorem own_far {w w' : World} {base B : Nat} {e T : TypeId} {size : Nat} {v : Value} {n : Nat} {xs : List Value} {cs : Array Value} (h : w.ownsRow base e size v n xs) (hB : w.heap[B]? = some (.cells cs T (0, 0))) (hT : e ≠ T) (hw : ∀ k, k ≠ B → w'.heap[k]? = w.heap[k]?) : w'.ownsRow base e size v n xs := by
 obtain ⟨h1, h2⟩ := h
 refine ⟨h1, h2.imp id ?_⟩
 rintro ⟨g, cap, cur, e1, e2, e3, e4⟩
 refine ⟨g, cap, cur, e1, e2, (hw g (fun hg => ?_)).trans e3, e4⟩
 rw [hg, hB] at e3
 injection e3 with e3
 injection e3 with _ e3
 exact hT e3.symm
/-- What Parse answers of a packet. -/
def Parsed (h : Hd) (pl : List Int) (w : World) (e : Ending) (w' : World) : Prop :=
 ∃ v u, e = .returned (.tuple #[({ h with v := v } : Hd).val, u, .int .i64 0]) ∧ HdOk w' { h with v := v } ∧ BytesV w' u pl ∧ Grow w w'
set_option maxHeartbeats 8000000 in
theorem parse_g {w : World} {b off L cap Z S : Nat} {zs : List Int} {h : Hd} {pl : List Int} (p : PktAt w b off L cap Z S zs h pl) (hL : L ≤ 10000) (h20 : ¬ cap = 20) (hcz : ¬ cap = Z) :
  Calls Tryz.prog 11 #[.slice (some ⟨b, off, none⟩) L cap] w (Parsed h pl w) := by
 have HWr : Hid (∀ x, Grow w x → Calls Tryz.prog 32 #[.slice (some ⟨b, off, none⟩) L cap] x fun e w' => e = .returned (.int .i64 0) ∧ Grow x w') := fun x hx => wrong_none (p.mono hx)
 have HP := Lib.hid p
 have hz := p.z; have hlz := p.lz; have hcap := p.capL; have hcm := p.capM; have hlen := p.len; have hs4 := p.s4; have hS := p.s; have hmax := p.max
 obtain ⟨tos, etos⟩ : ∃ x, h.tos = x := ⟨_, rfl⟩
 obtain ⟨id, eid⟩ : ∃ x, h.id = x := ⟨_, rfl⟩
 obtain ⟨ev, eev⟩ : ∃ x, h.evil = x := ⟨_, rfl⟩
 obtain ⟨df, edf⟩ : ∃ x, h.df = x := ⟨_, rfl⟩
 obtain ⟨mf, emf⟩ : ∃ x, h.mf = x := ⟨_, rfl⟩
 obtain ⟨fo, efo⟩ : ∃ x, h.off = x := ⟨_, rfl⟩
 obtain ⟨ttl, ettl⟩ : ∃ x, h.ttl = x := ⟨_, rfl⟩
 obtain ⟨pr, epr⟩ : ∃ x, h.proto = x := ⟨_, rfl⟩
 obtain ⟨sr, esr⟩ : ∃ x, h.src = x := ⟨_, rfl⟩
 obtain ⟨ds, eds⟩ : ∃ x, h.dst = x := ⟨_, rfl⟩
 obtain ⟨F, eF⟩ : ∃ x, fwH h = x := ⟨_, rfl⟩
 obtain ⟨b1, b2, b3, b4⟩ := fw_bits p.raw
 have hFb := fwH_bd p.raw
 have q1 := p.raw.id; have q2 := p.raw.src; have q3 := p.raw.dst; have q4 := p.raw.off
 rw [eF, eev] at b1
 rw [eF, edf] at b2
 rw [eF, emf] at b3
 rw [eF, efo] at b4
 rw [eF] at hFb
 have hNum : ∀ (lo k : Nat) (n m : Int), 1 ≤ k ∧ k ≤ 8 → lo + k ≤ 20 → ((pkt h pl).drop lo).take k = bel k m → beN (bel k m) = n → Hid (∀ x, Grow w x → Calls Tryz.prog 33 #[.slice (some ⟨b, off + lo, none⟩) k (cap - lo)] x fun e w' => e = .returned (.int .u64 n) ∧ x = w') := fun lo k n m hk hlo he hn x hx => by
  have := (p.mono hx).num lo k hk hlo
  rw [p.eq, he, hn] at this
  exact this
 have N2 := hNum 2 2 (L : Int) _ (by omega) (by omega) (pkt_tot h pl) (by rw [beN_bel2 (by omega)]; omega)
 have N4 := hNum 4 2 id _ (by omega) (by omega) (pkt_id h pl) (by rw [beN_bel2 q1, eid])
 have N6 := hNum 6 2 F _ (by omega) (by omega) (pkt_fw h pl) (by rw [eF, beN_bel2 hFb])
 have N12 := hNum 12 4 sr _ (by omega) (by omega) (pkt_src h pl) (by rw [beN_bel4' q2, esr])
 have N16 := hNum 16 4 ds _ (by omega) (by omega) (pkt_dst h pl) (by rw [beN_bel4' q3, eds])
 have hx0 := p.cell 0 (by omega)
 rw [p.eq, pkt_0] at hx0
 have e0 : (64 : Int) + (20 + (h.os.length : Int)) / 4 = 64 + (S : Int) := by omega
 rw [e0, Nat.add_zero] at hx0
 have hA := and15 hS
 obtain ⟨x, hx⟩ : ∃ x, 64 + (S : Int) = x := ⟨_, rfl⟩
 rw [hx] at hx0 hA
 have HX0 := Lib.hid hx0
 have hx1 := p.cell 1 (by omega)
 rw [p.eq, pkt_1, etos] at hx1
 have HX1 := Lib.hid hx1
 have hx8 := p.cell 8 (by omega)
 rw [p.eq, pkt_8, ettl] at hx8
 have HX8 := Lib.hid hx8
 have hx9 := p.cell 9 (by omega)
 rw [p.eq, pkt_9, epr] at hx9
 have HX9 := Lib.hid hx9
 obtain ⟨os, eos⟩ : ∃ x, h.os = x := ⟨_, rfl⟩
 have HOl : Hid (os.length = Z - 20) := by show _ = _; rw [← eos]; omega
 have HPl : Hid (pl.length = L - Z) := by show _ = _; omega
 have HOB : Hid (Bytes os) := by show Bytes _; rw [← eos]; exact p.raw.by_
 have HPB : Hid (Bytes pl) := p.by_
 have HOk : Hid (∀ v w', BytesV w' v os → HdOk w' { h with v := v }) := fun v w' hv => by
  refine HdOk.mk p.raw.tos p.raw.id ?_ p.raw.ttl p.raw.proto p.raw.src p.raw.dst ?_
  ·show _ ≤ h.off ∧ h.off ≤ _
   omega
  ·show BytesV w' v h.os
   rw [eos]; exact hv
 have HVal : Hid (∀ v, ({ h with v := v } : Hd).val = .agg #[.int .u8 tos, .int .u16 id, .bool ev, .bool df, .bool mf, .int .i64 fo, .int .u8 ttl, .int .u8 pr, .int .u32 sr, .int .u32 ds, v]) := fun v => by rw [← etos, ← eid, ← eev, ← edf, ← emf, ← efo, ← ettl, ← epr, ← esr, ← eds]; rfl
 have HClO : Hid (∀ x, Grow w x → Calls Tryz.prog 27 #[.slice (some ⟨b, off + 20, none⟩) (Z - 20) (cap - 20)] x fun e w' => ∃ u, e = .returned u ∧ NewBytes x os u w') := fun x hx => by
  rw [← eos]
  have hs := bytes_sub (p.mono hx).bytes 20 Z (by omega) (by rw [p.len]; omega)
  have e : ((zs.drop 20).take (Z - 20)) = h.os := by rw [p.eq, show Z - 20 = h.os.length by omega]; exact pkt_os h pl
  rw [e] at hs
  exact clone_any hs (by omega)
 have HClP : Hid (∀ x, Grow w x → Calls Tryz.prog 27 #[.slice (some ⟨b, off + Z, none⟩) (L - Z) (cap - Z)] x fun e w' => ∃ u, e = .returned u ∧ NewBytes x pl u w') := fun x hx => by
  have hs := bytes_sub (p.mono hx).bytes Z L (by omega) (by rw [p.len]; omega)
  have e : ((zs.drop Z).take (L - Z)) = pl := by rw [p.eq, hz, pkt_pl, List.take_of_length_le (by omega)]
  rw [e] at hs
  exact clone_any hs (by omega)
 have hsz : 4 * (S : Int) = (Z : Int) := by omega
 have hwL : IntKind.i64.wrap (L : Int) = (L : Int) := IntWalk.i64_in _ (by omega)
 have hwZ : IntKind.i64.wrap (Z : Int) = (Z : Int) := IntWalk.i64_in _ (by omega)
 have hwS : IntKind.i64.wrap (S : Int) = (S : Int) := IntWalk.i64_in _ (by omega)
 have hwI : IntKind.u16.wrap id = id := by rw [wrap16]; unfold U16 at q1; omega
 have hwF : IntKind.i64.wrap fo = fo := IntWalk.i64_in _ (by omega)
 have hwR : IntKind.u32.wrap sr = sr := by unfold U32 at q2; simp [IntKind.wrap, IntKind.signed, IntKind.bits]; omega
 have hwD : IntKind.u32.wrap ds = ds := by unfold U32 at q3; simp [IntKind.wrap, IntKind.signed, IntKind.bits]; omega
 have i1 : (20 : Int) ≤ (L : Int) := by omega
 have i2 : (L : Int) ≤ (cap : Int) := by omega
 have i3 : (20 : Int) ≤ (Z : Int) := by omega
 have i4 : (Z : Int) ≤ (L : Int) := by omega
 have k0 : (0 : Int) < (L : Int) := by omega
 have k1 : (1 : Int) < (L : Int) := by omega
 have k8 : (8 : Int) < (L : Int) := by omega
 have k9 : (9 : Int) < (L : Int) := by omega
 have l0 : 0 < L := by omega
 have l1 : 1 < L := by omega
 have l8 : 8 < L := by omega
 have l9 : 9 < L := by omega
 have i5 : (4 : Int) ≤ (cap : Int) := by omega
 have i6 : (8 : Int) ≤ (cap : Int) := by omega
 have i7 : (6 : Int) ≤ (cap : Int) := by omega
 have i8 : (16 : Int) ≤ (cap : Int) := by omega
 have i9 : (20 : Int) ≤ (cap : Int) := by omega
 have i10 : (Z : Int) ≤ (cap : Int) := by omega
 have j2 : ¬ cap = 2 := by omega
 have j4 : ¬ cap = 4 := by omega
 have j6 : ¬ cap = 6 := by omega
 have j12 : ¬ cap = 12 := by omega
 have j16 : ¬ cap = 16 := by omega
 have hZZ := heap_alloc_new w (.cells #[.int .u8 0, .int .u16 0, .bool false, .bool false, .bool false, .int .i64 0, .int .u8 0, .int .u8 0, .int .u32 0, .int .u32 0, .slice none 0 0] 27)
 have HW0 : Hid (Grow w (w.alloc (.cells #[.int .u8 0, .int .u16 0, .bool false, .bool false, .bool false, .int .i64 0, .int .u8 0, .int .u8 0, .int .u32 0, .int .u32 0, .slice none 0 0] 27))) := (Grow.refl w).alloc _
 generalize hwX : w.alloc (.cells #[.int .u8 0, .int .u16 0, .bool false, .bool false, .bool false, .int .i64 0, .int .u8 0, .int .u8 0, .int .u32 0, .int .u32 0, .slice none 0 0] 27) = wX at *
 have HXX := Lib.hid hwX
 have HZ := Lib.hid hZZ
 unfold maxLen at hcm
 clear p hz hlz hmax hx e0 hS hs4 hx0 hx1 hx8 hx9 hNum q1 q2 q3 q4 hFb etos eid eev edf emf efo ettl epr esr eds eF eos hlen hcap hL hZZ hwX
 go_enter Tryz.func11, Tryz.ntmps11
 go_wp2_with fail
 rw [HXX.out]
 clear HXX
 have HC := Lib.hid (HWr.out wX HW0.out)
 with_reducible refine HC.out.mono ?_
 rintro e w1 ⟨rfl, hg⟩
 have HG1 := Lib.hid (HW0.out.trans hg)
 have HZ1 := Lib.hid ((hg.block _ (lt_of_block HZ.out)).trans HZ.out)
 clear hg HC
 go_wp2_with fail
 refine wpRg 16 ?_
 simp only [List.take_succ_cons, List.take_zero, List.drop_succ_cons, List.drop_zero]
 repeat (refine wpHp fun K hK => ?_; go_simp; refine hK _ ?_; clear hK K)
 refine wpHd (.int .u8 x) (fun w' hg => ?_) ?_
 ·have hx := ((HG1.out.trans hg.below).cell (block_lt HX0.out)).trans HX0.out
  clear hg
  go_simp
  exact Below.refl _ _
 try go_simp
 repeat (refine wpHp fun K hK => ?_; go_simp; refine hK _ ?_; clear hK K)
 refine wpHd (.int .u64 (L : Int)) (fun w' hg => ?_) ?_
 ·have h := N2.out w' (HG1.out.trans hg.below)
  clear hg
  go_simp
  with_reducible refine h.mono ?_
  rintro e w1 ⟨rfl, rfl⟩
  exact ⟨_, rfl, rfl, Below.refl _ _⟩
 try go_simp
 repeat (refine wpHp fun K hK => ?_; go_simp; refine hK _ ?_; clear hK K)
 refine wpHd (.int .u64 F) (fun w' hg => ?_) ?_
 ·have h := N6.out w' (HG1.out.trans hg.below)
  clear hg
  go_simp
  with_reducible refine h.mono ?_
  rintro e w1 ⟨rfl, rfl⟩
  exact ⟨_, rfl, rfl, Below.refl _ _⟩
 try go_simp
 repeat (refine wpHp fun K hK => ?_; go_simp; refine hK _ ?_; clear hK K)
 refine wpH_nil ?_
 intro xs w2 hg hx1 hx2
 have HG2 := Lib.hid (HG1.out.trans hg.below)
 have HZ2 := Lib.hid ((hg.below.block _ (lt_of_block HZ1.out)).trans HZ1.out)
 clear hx1 hx2 hg
 simp only [fill]
 go_simp
 go_wp2_with fail
 refine wpRg 39 ?_
 simp only [List.take_succ_cons, List.take_zero, List.drop_succ_cons, List.drop_zero]
 repeat (refine wpHp fun K hK => ?_; go_simp; refine hK _ ?_; clear hK K)
 refine wpHd (.int .u8 tos) (fun w' hg => ?_) ?_
 ·have hx := ((HG2.out.trans hg.below).cell (block_lt HX1.out)).trans HX1.out
  clear hg
  go_simp
  exact Below.refl _ _
 try go_simp
 repeat (refine wpHp fun K hK => ?_; go_simp; refine hK _ ?_; clear hK K)
 refine wpHd (.int .u64 id) (fun w' hg => ?_) ?_
 ·have h := N4.out w' (HG2.out.trans hg.below)
  clear hg
  go_simp
  with_reducible refine h.mono ?_
  rintro e w1 ⟨rfl, rfl⟩
  exact ⟨_, rfl, rfl, Below.refl _ _⟩
 try go_simp
 repeat (refine wpHp fun K hK => ?_; go_simp; refine hK _ ?_; clear hK K)
 refine wpHd (.int .u8 ttl) (fun w' hg => ?_) ?_
 ·have hx := ((HG2.out.trans hg.below).cell (block_lt HX8.out)).trans HX8.out
  clear hg
  go_simp
  exact Below.refl _ _
 try go_simp
 repeat (refine wpHp fun K hK => ?_; go_simp; refine hK _ ?_; clear hK K)
 refine wpHd (.int .u8 pr) (fun w' hg => ?_) ?_
 ·have hx := ((HG2.out.trans hg.below).cell (block_lt HX9.out)).trans HX9.out
  clear hg
  go_simp
  exact Below.refl _ _
 try go_simp
 repeat (refine wpHp fun K hK => ?_; go_simp; refine hK _ ?_; clear hK K)
 refine wpHd (.int .u64 sr) (fun w' hg => ?_) ?_
 ·have h := N12.out w' (HG2.out.trans hg.below)
  clear hg
  go_simp
  with_reducible refine h.mono ?_
  rintro e w1 ⟨rfl, rfl⟩
  exact ⟨_, rfl, rfl, Below.refl _ _⟩
 try go_simp
 repeat (refine wpHp fun K hK => ?_; go_simp; refine hK _ ?_; clear hK K)
 refine wpHd (.int .u64 ds) (fun w' hg => ?_) ?_
 ·have h := N16.out w' (HG2.out.trans hg.below)
  clear hg
  go_simp
  with_reducible refine h.mono ?_
  rintro e w1 ⟨rfl, rfl⟩
  exact ⟨_, rfl, rfl, Below.refl _ _⟩
 try go_simp
 repeat (refine wpHp fun K hK => ?_; go_simp; refine hK _ ?_; clear hK K)
 refine wpH_hid' (OwnB w2.heap.size os) (by intro _ _ h; cases h) rfl (by rfl) (fun u x x' hg h => own_grow h hg.below) (by rfl) (by rfl) (fun w' hg => ?_) ?_
 ·have h := HClO.out w' (HG2.out.trans hg.below)
  have HS := Lib.hid hg.below.size
  clear hg
  go_simp
  with_reducible refine h.mono ?_
  rintro e w1 ⟨u, rfl, hn⟩
  exact ⟨u, rfl, own_less hn.1 HS.out, hn.2⟩
 try go_simp
 refine wpH_hid (BuiltH w2.heap.size (fun v' => .agg #[.int .u8 tos, .int .u16 id, .bool ev, .bool df, .bool mf, .int .i64 fo, .int .u8 ttl, .int .u8 pr, .int .u32 sr, .int .u32 ds, v']) os) rfl (by rfl) (fun u x x' hg ⟨v', h1, h2⟩ => ⟨v', h1, own_grow h2 hg.below⟩) (fun xs => by rfl) (fun xs w' hg hf => ?_) ?_
 ·have h1 := hf _ (List.Mem.head _) (by rfl); dsimp only at h1
  have H1 := Lib.hid h1
  clear hf h1
  simp only [fill]
  generalize xs 65 = y65 at *
  obtain ⟨ao6, cp6, rfl, _, _⟩ := (ints_of_owns H1.out).shape
  go_simp
  exact ⟨⟨_, rfl, H1.out⟩, Below.refl _ _⟩
 try go_simp
 refine wpH_hid' (NewHd w2.heap.size) (by intro _ _ h; cases h) rfl (by rfl) (fun u x x' hg ⟨B, h1, h2, h3⟩ => ⟨B, h1, (hg.below.block B (lt_of_block h2)).trans h2, h3⟩) (by rfl) (by rfl) (fun w' hg => ?_) ?_
 ·have hs := hg.below.size
  have hn := heap_alloc_new w' (.cells #[.int .u8 0, .int .u16 0, .bool false, .bool false, .bool false, .int .i64 0, .int .u8 0, .int .u8 0, .int .u32 0, .int .u32 0, .slice none 0 0] 27)
  have HN := Lib.hid hn
  have HS := Lib.hid hs
  clear hn hs hg
  go_simp
  exact ⟨⟨_, rfl, HN.out, HS.out⟩, (Below.refl _ _).alloc (Nat.le_refl _) _⟩
 refine wpH_nil ?_
 intro xs w3 hg hc hx2
 have hp9 := hx2 _ _ (List.Mem.head _)
 have hp66 := hx2 _ _ (List.Mem.tail _ (List.Mem.head _))
 try dsimp only at hp9 hp66
 obtain ⟨B, hB, hB2, hB3⟩ := hp9
 obtain ⟨vb, hvb, hob⟩ := hp66
 clear hx2 hc
 have hg3 := HG2.out.trans hg.below
 have hz3 := (hg.below.block _ (lt_of_block HZ2.out)).trans HZ2.out
 obtain ⟨⟨q3, q4, q5, q6, q7, q8⟩, q9, q10, q11, q12, q13⟩ := blkHz hB2
 have HG3 := Lib.hid hg3
 have HB2 := Lib.hid hB2
 have HZ3 := Lib.hid hz3
 have HOB' := Lib.hid hob
 have HB3 : Hid (w.heap.size < B) := by have := HG2.out.size; have := lt_of_block HZ2.out; show _ < _; omega
 have hS3 : Hid (w.heap.size ≤ w2.heap.size) := HG2.out.size
 obtain ⟨ao7, cp7, rfl, _, _⟩ := (ints_of_owns hob).shape
 simp only at hvb
 simp only [fill]
 generalize hx65 : xs 65 = y65 at *
 generalize hx9 : xs 9 = y9 at *
 generalize hx66 : xs 66 = y66 at *
 subst hB
 subst hvb
 clear hg hB2 hz3 hg3 hob hB3 hx65 hx9 hx66
 obtain ⟨⟨p0, p1, p2, p3, p4, p5⟩, p6, p7, p8, p9, p10⟩ := blkH HB2.out
 go_simp
 go_wp2_with fail
 generalize hw4 : (((((((((((w3.setCell ⟨B, 0, none⟩ (.int .u8 tos)).setCell ⟨B, 1, none⟩ (.int .u16 id)).setCell ⟨B, 2, none⟩ (.bool ev)).setCell ⟨B, 3, none⟩ (.bool df)).setCell ⟨B, 4, none⟩ (.bool mf)).setCell ⟨B, 5, none⟩ (.int .i64 fo)).setCell ⟨B, 6, none⟩ (.int .u8 ttl)).setCell ⟨B, 7, none⟩ (.int .u8 pr)).setCell ⟨B, 8, none⟩ (.int .u32 sr)).setCell ⟨B, 9, none⟩ (.int .u32 ds)).setCell ⟨B, 10, none⟩ (.slice ao7 os.length cp7)) = w4
 have HB4 : Hid (w4.heap[B]? = some (.cells #[.int .u8 tos, .int .u16 id, .bool ev, .bool df, .bool mf, .int .i64 fo, .int .u8 ttl, .int .u8 pr, .int .u32 sr, .int .u32 ds, .slice ao7 os.length cp7] 27 (0, 0))) := by rw [← hw4]; exact put11 HB2.out _ _ _ _ _ _ _ _ _ _ _
 have HZ4 : Hid (w4.heap[w.heap.size]? = some (.cells #[.int .u8 0, .int .u16 0, .bool false, .bool false, .bool false, .int .i64 0, .int .u8 0, .int .u8 0, .int .u32 0, .int .u32 0, .slice none 0 0] 27 (0, 0))) := by rw [← hw4]; exact (far11 (Nat.ne_of_lt HB3.out) _ _ _ _ _ _ _ _ _ _ _).trans HZ3.out
 have HG4 : Hid (Grow w w4) := by rw [← hw4]; exact grow11 HG3.out (Nat.le_of_lt HB3.out) _ _ _ _ _ _ _ _ _ _ _
 have HO4 : Hid (w4.ownsRow w2.heap.size 5 1 (.slice ao7 os.length cp7) os.length (os.map (Value.int .u8))) := by rw [← hw4]; exact own_far HOB'.out HB2.out (by decide) (fun k hk => far11 hk _ _ _ _ _ _ _ _ _ _ _)
 clear hw4 p0 p1 p2 p3 p4 p5 p6 p7 p8 p9 p10 q3 q4 q5 q6 q7 q8 q9 q10 q11 q12 q13
 refine wpRg 6 ?_
 simp only [List.take_succ_cons, List.take_zero, List.drop_succ_cons, List.drop_zero]
 refine wpHd (.agg #[.int .u8 tos, .int .u16 id, .bool ev, .bool df, .bool mf, .int .i64 fo, .int .u8 ttl, .int .u8 pr, .int .u32 sr, .int .u32 ds, .slice ao7 os.length cp7]) (fun w' hg => ?_) ?_
 ·obtain ⟨⟨p0, p1, p2, p3, p4, p5⟩, p6, p7, p8, p9, p10⟩ := blkH ((hg.below.block _ (lt_of_block HB4.out)).trans HB4.out)
  clear hg
  go_simp
  exact Below.refl _ _
 try go_simp
 repeat (refine wpHp fun K hK => ?_; go_simp; refine hK _ ?_; clear hK K)
 refine wpH_hid' (OwnB w4.heap.size pl) (by intro _ _ h; cases h) rfl (by rfl) (fun u x x' hg h => own_grow h hg.below) (by rfl) (by rfl) (fun w' hg => ?_) ?_
 ·have h := HClP.out w' (HG4.out.trans hg.below)
  have HS := Lib.hid hg.below.size
  clear hg
  go_simp
  with_reducible refine h.mono ?_
  rintro e w1 ⟨u, rfl, hn⟩
  exact ⟨u, rfl, own_less hn.1 HS.out, hn.2⟩
 try go_simp
 refine wpH_nil ?_
 intro xs w5 hg hc hx2
 have hp72 := hx2 _ _ (List.Mem.head _)
 try dsimp only at hp72
 have HG5 := Lib.hid (HG4.out.trans hg.below)
 have HZ5 := Lib.hid ((hg.below.block _ (lt_of_block HZ4.out)).trans HZ4.out)
 have HO5 := Lib.hid (own_grow HO4.out hg.below)
 have HP5 := Lib.hid hp72
 clear hx2 hc hg hp72
 simp only [fill]
 generalize xs 72 = y72 at *
 obtain ⟨ao8, cp8, rfl, _, _⟩ := (ints_of_owns HP5.out).shape
 obtain ⟨⟨q3, q4, q5, q6, q7, q8⟩, q9, q10, q11, q12, q13⟩ := blkHz HZ5.out
 obtain ⟨⟨p0, p1, p2, p3, p4, p5⟩, p6, p7, p8, p9, p10⟩ := blkH HZ5.out
 go_simp
 go_wp2_with fail
 generalize hw6 : (((((((((((w5.setCell ⟨w.heap.size, 0, none⟩ (.int .u8 tos)).setCell ⟨w.heap.size, 1, none⟩ (.int .u16 id)).setCell ⟨w.heap.size, 2, none⟩ (.bool ev)).setCell ⟨w.heap.size, 3, none⟩ (.bool df)).setCell ⟨w.heap.size, 4, none⟩ (.bool mf)).setCell ⟨w.heap.size, 5, none⟩ (.int .i64 fo)).setCell ⟨w.heap.size, 6, none⟩ (.int .u8 ttl)).setCell ⟨w.heap.size, 7, none⟩ (.int .u8 pr)).setCell ⟨w.heap.size, 8, none⟩ (.int .u32 sr)).setCell ⟨w.heap.size, 9, none⟩ (.int .u32 ds)).setCell ⟨w.heap.size, 10, none⟩ (.slice ao7 os.length cp7)) = w6
 have HB6 : Hid (w6.heap[w.heap.size]? = some (.cells #[.int .u8 tos, .int .u16 id, .bool ev, .bool df, .bool mf, .int .i64 fo, .int .u8 ttl, .int .u8 pr, .int .u32 sr, .int .u32 ds, .slice ao7 os.length cp7] 27 (0, 0))) := by rw [← hw6]; exact put11 HZ5.out _ _ _ _ _ _ _ _ _ _ _
 have HG6 : Hid (Grow w w6) := by rw [← hw6]; exact grow11 HG5.out (Nat.le_refl _) _ _ _ _ _ _ _ _ _ _ _
 have HO6 : Hid (BytesV w6 (.slice ao7 os.length cp7) os) := by
  rw [← hw6]
  exact ⟨HOB.out, ints_of_owns (own_far HO5.out HZ5.out (by decide) (fun k hk => far11 hk _ _ _ _ _ _ _ _ _ _ _))⟩
 have HP6 : Hid (BytesV w6 (.slice ao8 pl.length cp8) pl) := by
  rw [← hw6]
  exact ⟨HPB.out, ints_of_owns (own_far HP5.out HZ5.out (by decide) (fun k hk => far11 hk _ _ _ _ _ _ _ _ _ _ _))⟩
 clear hw6 p0 p1 p2 p3 p4 p5 p6 p7 p8 p9 p10 q3 q4 q5 q6 q7 q8 q9 q10 q11 q12 q13
 obtain ⟨⟨p0, p1, p2, p3, p4, p5⟩, p6, p7, p8, p9, p10⟩ := blkH HB6.out
 refine bodyPost_ret (v := .tuple #[.agg #[.int .u8 tos, .int .u16 id, .bool ev, .bool df, .bool mf, .int .i64 fo, .int .u8 ttl, .int .u8 pr, .int .u32 sr, .int .u32 ds, .slice ao7 os.length cp7], .slice ao8 pl.length cp8, .int .i64 0]) (by simp [results, Tryz.results11, go_sem, p0, p1, p2, p3, p4, p5, p6, p7, p8, p9, p10]) rfl ?_
 exact ⟨_, _, by rw [HVal.out], HOk.out _ _ HO6.out, HP6.out, HG6.out⟩
set_option maxHeartbeats 8000000 in
theorem parse_z {w : World} {b off L cap Z S : Nat} {zs : List Int} {h : Hd} {pl : List Int} (p : PktAt w b off L cap Z S zs h pl) (hL : L ≤ 10000) (h20 : ¬ cap = 20) (hcz : cap = Z) :
  Calls Tryz.prog 11 #[.slice (some ⟨b, off, none⟩) L cap] w (Parsed h pl w) := by
 obtain rfl : Z = cap := hcz.symm
 have HWr : Hid (∀ x, Grow w x → Calls Tryz.prog 32 #[.slice (some ⟨b, off, none⟩) L Z] x fun e w' => e = .returned (.int .i64 0) ∧ Grow x w') := fun x hx => wrong_none (p.mono hx)
 have HP := Lib.hid p
 have hz := p.z; have hlz := p.lz; have hcap := p.capL; have hcm := p.capM; have hlen := p.len; have hs4 := p.s4; have hS := p.s; have hmax := p.max
 obtain ⟨tos, etos⟩ : ∃ x, h.tos = x := ⟨_, rfl⟩
 obtain ⟨id, eid⟩ : ∃ x, h.id = x := ⟨_, rfl⟩
 obtain ⟨ev, eev⟩ : ∃ x, h.evil = x := ⟨_, rfl⟩
 obtain ⟨df, edf⟩ : ∃ x, h.df = x := ⟨_, rfl⟩
 obtain ⟨mf, emf⟩ : ∃ x, h.mf = x := ⟨_, rfl⟩
 obtain ⟨fo, efo⟩ : ∃ x, h.off = x := ⟨_, rfl⟩
 obtain ⟨ttl, ettl⟩ : ∃ x, h.ttl = x := ⟨_, rfl⟩
 obtain ⟨pr, epr⟩ : ∃ x, h.proto = x := ⟨_, rfl⟩
 obtain ⟨sr, esr⟩ : ∃ x, h.src = x := ⟨_, rfl⟩
 obtain ⟨ds, eds⟩ : ∃ x, h.dst = x := ⟨_, rfl⟩
 obtain ⟨F, eF⟩ : ∃ x, fwH h = x := ⟨_, rfl⟩
 obtain ⟨b1, b2, b3, b4⟩ := fw_bits p.raw
 have hFb := fwH_bd p.raw
 have q1 := p.raw.id; have q2 := p.raw.src; have q3 := p.raw.dst; have q4 := p.raw.off
 rw [eF, eev] at b1
 rw [eF, edf] at b2
 rw [eF, emf] at b3
 rw [eF, efo] at b4
 rw [eF] at hFb
 have hNum : ∀ (lo k : Nat) (n m : Int), 1 ≤ k ∧ k ≤ 8 → lo + k ≤ 20 → ((pkt h pl).drop lo).take k = bel k m → beN (bel k m) = n → Hid (∀ x, Grow w x → Calls Tryz.prog 33 #[.slice (some ⟨b, off + lo, none⟩) k (Z - lo)] x fun e w' => e = .returned (.int .u64 n) ∧ x = w') := fun lo k n m hk hlo he hn x hx => by
  have := (p.mono hx).num lo k hk hlo
  rw [p.eq, he, hn] at this
  exact this
 have N2 := hNum 2 2 (L : Int) _ (by omega) (by omega) (pkt_tot h pl) (by rw [beN_bel2 (by omega)]; omega)
 have N4 := hNum 4 2 id _ (by omega) (by omega) (pkt_id h pl) (by rw [beN_bel2 q1, eid])
 have N6 := hNum 6 2 F _ (by omega) (by omega) (pkt_fw h pl) (by rw [eF, beN_bel2 hFb])
 have N12 := hNum 12 4 sr _ (by omega) (by omega) (pkt_src h pl) (by rw [beN_bel4' q2, esr])
 have N16 := hNum 16 4 ds _ (by omega) (by omega) (pkt_dst h pl) (by rw [beN_bel4' q3, eds])
 have hx0 := p.cell 0 (by omega)
 rw [p.eq, pkt_0] at hx0
 have e0 : (64 : Int) + (20 + (h.os.length : Int)) / 4 = 64 + (S : Int) := by omega
 rw [e0, Nat.add_zero] at hx0
 have hA := and15 hS
 obtain ⟨x, hx⟩ : ∃ x, 64 + (S : Int) = x := ⟨_, rfl⟩
 rw [hx] at hx0 hA
 have HX0 := Lib.hid hx0
 have hx1 := p.cell 1 (by omega)
 rw [p.eq, pkt_1, etos] at hx1
 have HX1 := Lib.hid hx1
 have hx8 := p.cell 8 (by omega)
 rw [p.eq, pkt_8, ettl] at hx8
 have HX8 := Lib.hid hx8
 have hx9 := p.cell 9 (by omega)
 rw [p.eq, pkt_9, epr] at hx9
 have HX9 := Lib.hid hx9
 obtain ⟨os, eos⟩ : ∃ x, h.os = x := ⟨_, rfl⟩
 have HOl : Hid (os.length = Z - 20) := by show _ = _; rw [← eos]; omega
 have HPl : Hid (pl.length = L - Z) := by show _ = _; omega
 have HOB : Hid (Bytes os) := by show Bytes _; rw [← eos]; exact p.raw.by_
 have HPB : Hid (Bytes pl) := p.by_
 have HOk : Hid (∀ v w', BytesV w' v os → HdOk w' { h with v := v }) := fun v w' hv => by
  refine HdOk.mk p.raw.tos p.raw.id ?_ p.raw.ttl p.raw.proto p.raw.src p.raw.dst ?_
  ·show _ ≤ h.off ∧ h.off ≤ _
   omega
  ·show BytesV w' v h.os
   rw [eos]; exact hv
 have HVal : Hid (∀ v, ({ h with v := v } : Hd).val = .agg #[.int .u8 tos, .int .u16 id, .bool ev, .bool df, .bool mf, .int .i64 fo, .int .u8 ttl, .int .u8 pr, .int .u32 sr, .int .u32 ds, v]) := fun v => by rw [← etos, ← eid, ← eev, ← edf, ← emf, ← efo, ← ettl, ← epr, ← esr, ← eds]; rfl
 have HClO : Hid (∀ x, Grow w x → Calls Tryz.prog 27 #[.slice (some ⟨b, off + 20, none⟩) (Z - 20) (Z - 20)] x fun e w' => ∃ u, e = .returned u ∧ NewBytes x os u w') := fun x hx => by
  rw [← eos]
  have hs := bytes_sub (p.mono hx).bytes 20 Z (by omega) (by rw [p.len]; omega)
  have e : ((zs.drop 20).take (Z - 20)) = h.os := by rw [p.eq, show Z - 20 = h.os.length by omega]; exact pkt_os h pl
  rw [e] at hs
  exact clone_any hs (by omega)
 have HClP : Hid (∀ x, Grow w x → Calls Tryz.prog 27 #[.slice (some ⟨b, off, none⟩) (L - Z) 0] x fun e w' => ∃ u, e = .returned u ∧ NewBytes x pl u w') := fun x hx => by
  have e : pl = [] := List.eq_nil_of_length_eq_zero (by omega)
  rw [e]
  exact clone_any ⟨Bytes.nil, Or.inl ⟨rfl, some ⟨b, off, none⟩, 0, by rw [show L - Z = 0 by omega], Nat.zero_le _, fun hh => by cases hh⟩⟩ (by omega)
 have hsz : 4 * (S : Int) = (Z : Int) := by omega
 have hwL : IntKind.i64.wrap (L : Int) = (L : Int) := IntWalk.i64_in _ (by omega)
 have hwZ : IntKind.i64.wrap (Z : Int) = (Z : Int) := IntWalk.i64_in _ (by omega)
 have hwS : IntKind.i64.wrap (S : Int) = (S : Int) := IntWalk.i64_in _ (by omega)
 have hwI : IntKind.u16.wrap id = id := by rw [wrap16]; unfold U16 at q1; omega
 have hwF : IntKind.i64.wrap fo = fo := IntWalk.i64_in _ (by omega)
 have hwR : IntKind.u32.wrap sr = sr := by unfold U32 at q2; simp [IntKind.wrap, IntKind.signed, IntKind.bits]; omega
 have hwD : IntKind.u32.wrap ds = ds := by unfold U32 at q3; simp [IntKind.wrap, IntKind.signed, IntKind.bits]; omega
 have i1 : (20 : Int) ≤ (L : Int) := by omega
 have i2 : (L : Int) ≤ (Z : Int) := by omega
 have i3 : (20 : Int) ≤ (Z : Int) := by omega
 have i4 : (Z : Int) ≤ (L : Int) := by omega
 have k0 : (0 : Int) < (L : Int) := by omega
 have k1 : (1 : Int) < (L : Int) := by omega
 have k8 : (8 : Int) < (L : Int) := by omega
 have k9 : (9 : Int) < (L : Int) := by omega
 have l0 : 0 < L := by omega
 have l1 : 1 < L := by omega
 have l8 : 8 < L := by omega
 have l9 : 9 < L := by omega
 have i5 : (4 : Int) ≤ (Z : Int) := by omega
 have i6 : (8 : Int) ≤ (Z : Int) := by omega
 have i7 : (6 : Int) ≤ (Z : Int) := by omega
 have i8 : (16 : Int) ≤ (Z : Int) := by omega
 have i9 : (20 : Int) ≤ (Z : Int) := by omega
 have i10 : (Z : Int) ≤ (Z : Int) := by omega
 have j2 : ¬ Z = 2 := by omega
 have j4 : ¬ Z = 4 := by omega
 have j6 : ¬ Z = 6 := by omega
 have j12 : ¬ Z = 12 := by omega
 have j16 : ¬ Z = 16 := by omega
 have hZZ := heap_alloc_new w (.cells #[.int .u8 0, .int .u16 0, .bool false, .bool false, .bool false, .int .i64 0, .int .u8 0, .int .u8 0, .int .u32 0, .int .u32 0, .slice none 0 0] 27)
 have HW0 : Hid (Grow w (w.alloc (.cells #[.int .u8 0, .int .u16 0, .bool false, .bool false, .bool false, .int .i64 0, .int .u8 0, .int .u8 0, .int .u32 0, .int .u32 0, .slice none 0 0] 27))) := (Grow.refl w).alloc _
 generalize hwX : w.alloc (.cells #[.int .u8 0, .int .u16 0, .bool false, .bool false, .bool false, .int .i64 0, .int .u8 0, .int .u8 0, .int .u32 0, .int .u32 0, .slice none 0 0] 27) = wX at *
 have HXX := Lib.hid hwX
 have HZ := Lib.hid hZZ
 unfold maxLen at hcm
 clear p hz hlz hmax hx e0 hS hs4 hx0 hx1 hx8 hx9 hNum q1 q2 q3 q4 hFb etos eid eev edf emf efo ettl epr esr eds eF eos hlen hcap hL hZZ hwX
 go_enter Tryz.func11, Tryz.ntmps11
 go_wp2_with fail
 rw [HXX.out]
 clear HXX
 have HC := Lib.hid (HWr.out wX HW0.out)
 with_reducible refine HC.out.mono ?_
 rintro e w1 ⟨rfl, hg⟩
 have HG1 := Lib.hid (HW0.out.trans hg)
 have HZ1 := Lib.hid ((hg.block _ (lt_of_block HZ.out)).trans HZ.out)
 clear hg HC
 go_wp2_with fail
 refine wpRg 16 ?_
 simp only [List.take_succ_cons, List.take_zero, List.drop_succ_cons, List.drop_zero]
 repeat (refine wpHp fun K hK => ?_; go_simp; refine hK _ ?_; clear hK K)
 refine wpHd (.int .u8 x) (fun w' hg => ?_) ?_
 ·have hx := ((HG1.out.trans hg.below).cell (block_lt HX0.out)).trans HX0.out
  clear hg
  go_simp
  exact Below.refl _ _
 try go_simp
 repeat (refine wpHp fun K hK => ?_; go_simp; refine hK _ ?_; clear hK K)
 refine wpHd (.int .u64 (L : Int)) (fun w' hg => ?_) ?_
 ·have h := N2.out w' (HG1.out.trans hg.below)
  clear hg
  go_simp
  with_reducible refine h.mono ?_
  rintro e w1 ⟨rfl, rfl⟩
  exact ⟨_, rfl, rfl, Below.refl _ _⟩
 try go_simp
 repeat (refine wpHp fun K hK => ?_; go_simp; refine hK _ ?_; clear hK K)
 refine wpHd (.int .u64 F) (fun w' hg => ?_) ?_
 ·have h := N6.out w' (HG1.out.trans hg.below)
  clear hg
  go_simp
  with_reducible refine h.mono ?_
  rintro e w1 ⟨rfl, rfl⟩
  exact ⟨_, rfl, rfl, Below.refl _ _⟩
 try go_simp
 repeat (refine wpHp fun K hK => ?_; go_simp; refine hK _ ?_; clear hK K)
 refine wpH_nil ?_
 intro xs w2 hg hx1 hx2
 have HG2 := Lib.hid (HG1.out.trans hg.below)
 have HZ2 := Lib.hid ((hg.below.block _ (lt_of_block HZ1.out)).trans HZ1.out)
 clear hx1 hx2 hg
 simp only [fill]
 go_simp
 go_wp2_with fail
 refine wpRg 39 ?_
 simp only [List.take_succ_cons, List.take_zero, List.drop_succ_cons, List.drop_zero]
 repeat (refine wpHp fun K hK => ?_; go_simp; refine hK _ ?_; clear hK K)
 refine wpHd (.int .u8 tos) (fun w' hg => ?_) ?_
 ·have hx := ((HG2.out.trans hg.below).cell (block_lt HX1.out)).trans HX1.out
  clear hg
  go_simp
  exact Below.refl _ _
 try go_simp
 repeat (refine wpHp fun K hK => ?_; go_simp; refine hK _ ?_; clear hK K)
 refine wpHd (.int .u64 id) (fun w' hg => ?_) ?_
 ·have h := N4.out w' (HG2.out.trans hg.below)
  clear hg
  go_simp
  with_reducible refine h.mono ?_
  rintro e w1 ⟨rfl, rfl⟩
  exact ⟨_, rfl, rfl, Below.refl _ _⟩
 try go_simp
 repeat (refine wpHp fun K hK => ?_; go_simp; refine hK _ ?_; clear hK K)
 refine wpHd (.int .u8 ttl) (fun w' hg => ?_) ?_
 ·have hx := ((HG2.out.trans hg.below).cell (block_lt HX8.out)).trans HX8.out
  clear hg
  go_simp
  exact Below.refl _ _
 try go_simp
 repeat (refine wpHp fun K hK => ?_; go_simp; refine hK _ ?_; clear hK K)
 refine wpHd (.int .u8 pr) (fun w' hg => ?_) ?_
 ·have hx := ((HG2.out.trans hg.below).cell (block_lt HX9.out)).trans HX9.out
  clear hg
  go_simp
  exact Below.refl _ _
 try go_simp
 repeat (refine wpHp fun K hK => ?_; go_simp; refine hK _ ?_; clear hK K)
 refine wpHd (.int .u64 sr) (fun w' hg => ?_) ?_
 ·have h := N12.out w' (HG2.out.trans hg.below)
  clear hg
  go_simp
  with_reducible refine h.mono ?_
  rintro e w1 ⟨rfl, rfl⟩
  exact ⟨_, rfl, rfl, Below.refl _ _⟩
 try go_simp
 repeat (refine wpHp fun K hK => ?_; go_simp; refine hK _ ?_; clear hK K)
 refine wpHd (.int .u64 ds) (fun w' hg => ?_) ?_
 ·have h := N16.out w' (HG2.out.trans hg.below)
  clear hg
  go_simp
  with_reducible refine h.mono ?_
  rintro e w1 ⟨rfl, rfl⟩
  exact ⟨_, rfl, rfl, Below.refl _ _⟩
 try go_simp
 repeat (refine wpHp fun K hK => ?_; go_simp; refine hK _ ?_; clear hK K)
 refine wpH_hid' (OwnB w2.heap.size os) (by intro _ _ h; cases h) rfl (by rfl) (fun u x x' hg h => own_grow h hg.below) (by rfl) (by rfl) (fun w' hg => ?_) ?_
 ·have h := HClO.out w' (HG2.out.trans hg.below)
  have HS := Lib.hid hg.below.size
  clear hg
  go_simp
  with_reducible refine h.mono ?_
  rintro e w1 ⟨u, rfl, hn⟩
  exact ⟨u, rfl, own_less hn.1 HS.out, hn.2⟩
 try go_simp
 refine wpH_hid (BuiltH w2.heap.size (fun v' => .agg #[.int .u8 tos, .int .u16 id, .bool ev, .bool df, .bool mf, .int .i64 fo, .int .u8 ttl, .int .u8 pr, .int .u32 sr, .int .u32 ds, v']) os) rfl (by rfl) (fun u x x' hg ⟨v', h1, h2⟩ => ⟨v', h1, own_grow h2 hg.below⟩) (fun xs => by rfl) (fun xs w' hg hf => ?_) ?_
 ·have h1 := hf _ (List.Mem.head _) (by rfl); dsimp only at h1
  have H1 := Lib.hid h1
  clear hf h1
  simp only [fill]
  generalize xs 65 = y65 at *
  obtain ⟨ao6, cp6, rfl, _, _⟩ := (ints_of_owns H1.out).shape
  go_simp
  exact ⟨⟨_, rfl, H1.out⟩, Below.refl _ _⟩
 try go_simp
 refine wpH_hid' (NewHd w2.heap.size) (by intro _ _ h; cases h) rfl (by rfl) (fun u x x' hg ⟨B, h1, h2, h3⟩ => ⟨B, h1, (hg.below.block B (lt_of_block h2)).trans h2, h3⟩) (by rfl) (by rfl) (fun w' hg => ?_) ?_
 ·have hs := hg.below.size
  have hn := heap_alloc_new w' (.cells #[.int .u8 0, .int .u16 0, .bool false, .bool false, .bool false, .int .i64 0, .int .u8 0, .int .u8 0, .int .u32 0, .int .u32 0, .slice none 0 0] 27)
  have HN := Lib.hid hn
  have HS := Lib.hid hs
  clear hn hs hg
  go_simp
  exact ⟨⟨_, rfl, HN.out, HS.out⟩, (Below.refl _ _).alloc (Nat.le_refl _) _⟩
 refine wpH_nil ?_
 intro xs w3 hg hc hx2
 have hp9 := hx2 _ _ (List.Mem.head _)
 have hp66 := hx2 _ _ (List.Mem.tail _ (List.Mem.head _))
 try dsimp only at hp9 hp66
 obtain ⟨B, hB, hB2, hB3⟩ := hp9
 obtain ⟨vb, hvb, hob⟩ := hp66
 clear hx2 hc
 have hg3 := HG2.out.trans hg.below
 have hz3 := (hg.below.block _ (lt_of_block HZ2.out)).trans HZ2.out
 obtain ⟨⟨q3, q4, q5, q6, q7, q8⟩, q9, q10, q11, q12, q13⟩ := blkHz hB2
 have HG3 := Lib.hid hg3
 have HB2 := Lib.hid hB2
 have HZ3 := Lib.hid hz3
 have HOB' := Lib.hid hob
 have HB3 : Hid (w.heap.size < B) := by have := HG2.out.size; have := lt_of_block HZ2.out; show _ < _; omega
 have hS3 : Hid (w.heap.size ≤ w2.heap.size) := HG2.out.size
 obtain ⟨ao7, cp7, rfl, _, _⟩ := (ints_of_owns hob).shape
 simp only at hvb
 simp only [fill]
 generalize hx65 : xs 65 = y65 at *
 generalize hx9 : xs 9 = y9 at *
 generalize hx66 : xs 66 = y66 at *
 subst hB
 subst hvb
 clear hg hB2 hz3 hg3 hob hB3 hx65 hx9 hx66
 obtain ⟨⟨p0, p1, p2, p3, p4, p5⟩, p6, p7, p8, p9, p10⟩ := blkH HB2.out
 go_simp
 go_wp2_with fail
 generalize hw4 : (((((((((((w3.setCell ⟨B, 0, none⟩ (.int .u8 tos)).setCell ⟨B, 1, none⟩ (.int .u16 id)).setCell ⟨B, 2, none⟩ (.bool ev)).setCell ⟨B, 3, none⟩ (.bool df)).setCell ⟨B, 4, none⟩ (.bool mf)).setCell ⟨B, 5, none⟩ (.int .i64 fo)).setCell ⟨B, 6, none⟩ (.int .u8 ttl)).setCell ⟨B, 7, none⟩ (.int .u8 pr)).setCell ⟨B, 8, none⟩ (.int .u32 sr)).setCell ⟨B, 9, none⟩ (.int .u32 ds)).setCell ⟨B, 10, none⟩ (.slice ao7 os.length cp7)) = w4
 have HB4 : Hid (w4.heap[B]? = some (.cells #[.int .u8 tos, .int .u16 id, .bool ev, .bool df, .bool mf, .int .i64 fo, .int .u8 ttl, .int .u8 pr, .int .u32 sr, .int .u32 ds, .slice ao7 os.length cp7] 27 (0, 0))) := by rw [← hw4]; exact put11 HB2.out _ _ _ _ _ _ _ _ _ _ _
 have HZ4 : Hid (w4.heap[w.heap.size]? = some (.cells #[.int .u8 0, .int .u16 0, .bool false, .bool false, .bool false, .int .i64 0, .int .u8 0, .int .u8 0, .int .u32 0, .int .u32 0, .slice none 0 0] 27 (0, 0))) := by rw [← hw4]; exact (far11 (Nat.ne_of_lt HB3.out) _ _ _ _ _ _ _ _ _ _ _).trans HZ3.out
 have HG4 : Hid (Grow w w4) := by rw [← hw4]; exact grow11 HG3.out (Nat.le_of_lt HB3.out) _ _ _ _ _ _ _ _ _ _ _
 have HO4 : Hid (w4.ownsRow w2.heap.size 5 1 (.slice ao7 os.length cp7) os.length (os.map (Value.int .u8))) := by rw [← hw4]; exact own_far HOB'.out HB2.out (by decide) (fun k hk => far11 hk _ _ _ _ _ _ _ _ _ _ _)
 clear hw4 p0 p1 p2 p3 p4 p5 p6 p7 p8 p9 p10 q3 q4 q5 q6 q7 q8 q9 q10 q11 q12 q13
 refine wpRg 6 ?_
 simp only [List.take_succ_cons, List.take_zero, List.drop_succ_cons, List.drop_zero]
 refine wpHd (.agg #[.int .u8 tos, .int .u16 id, .bool ev, .bool df, .bool mf, .int .i64 fo, .int .u8 ttl, .int .u8 pr, .int .u32 sr, .int .u32 ds, .slice ao7 os.length cp7]) (fun w' hg => ?_) ?_
 ·obtain ⟨⟨p0, p1, p2, p3, p4, p5⟩, p6, p7, p8, p9, p10⟩ := blkH ((hg.below.block _ (lt_of_block HB4.out)).trans HB4.out)
  clear hg
  go_simp
  exact Below.refl _ _
 try go_simp
 repeat (refine wpHp fun K hK => ?_; go_simp; refine hK _ ?_; clear hK K)
 refine wpH_hid' (OwnB w4.heap.size pl) (by intro _ _ h; cases h) rfl (by rfl) (fun u x x' hg h => own_grow h hg.below) (by rfl) (by rfl) (fun w' hg => ?_) ?_
 ·have h := HClP.out w' (HG4.out.trans hg.below)
  have HS := Lib.hid hg.below.size
  clear hg
  go_simp
  with_reducible refine h.mono ?_
  rintro e w1 ⟨u, rfl, hn⟩
  exact ⟨u, rfl, own_less hn.1 HS.out, hn.2⟩
 try go_simp
 refine wpH_nil ?_
 intro xs w5 hg hc hx2
 have hp72 := hx2 _ _ (List.Mem.head _)
 try dsimp only at hp72
 have HG5 := Lib.hid (HG4.out.trans hg.below)
 have HZ5 := Lib.hid ((hg.below.block _ (lt_of_block HZ4.out)).trans HZ4.out)
 have HO5 := Lib.hid (own_grow HO4.out hg.below)
 have HP5 := Lib.hid hp72
 clear hx2 hc hg hp72
 simp only [fill]
 generalize xs 72 = y72 at *
 obtain ⟨ao8, cp8, rfl, _, _⟩ := (ints_of_owns HP5.out).shape
 obtain ⟨⟨q3, q4, q5, q6, q7, q8⟩, q9, q10, q11, q12, q13⟩ := blkHz HZ5.out
 obtain ⟨⟨p0, p1, p2, p3, p4, p5⟩, p6, p7, p8, p9, p10⟩ := blkH HZ5.out
 go_simp
 go_wp2_with fail
 generalize hw6 : (((((((((((w5.setCell ⟨w.heap.size, 0, none⟩ (.int .u8 tos)).setCell ⟨w.heap.size, 1, none⟩ (.int .u16 id)).setCell ⟨w.heap.size, 2, none⟩ (.bool ev)).setCell ⟨w.heap.size, 3, none⟩ (.bool df)).setCell ⟨w.heap.size, 4, none⟩ (.bool mf)).setCell ⟨w.heap.size, 5, none⟩ (.int .i64 fo)).setCell ⟨w.heap.size, 6, none⟩ (.int .u8 ttl)).setCell ⟨w.heap.size, 7, none⟩ (.int .u8 pr)).setCell ⟨w.heap.size, 8, none⟩ (.int .u32 sr)).setCell ⟨w.heap.size, 9, none⟩ (.int .u32 ds)).setCell ⟨w.heap.size, 10, none⟩ (.slice ao7 os.length cp7)) = w6
 have HB6 : Hid (w6.heap[w.heap.size]? = some (.cells #[.int .u8 tos, .int .u16 id, .bool ev, .bool df, .bool mf, .int .i64 fo, .int .u8 ttl, .int .u8 pr, .int .u32 sr, .int .u32 ds, .slice ao7 os.length cp7] 27 (0, 0))) := by rw [← hw6]; exact put11 HZ5.out _ _ _ _ _ _ _ _ _ _ _
 have HG6 : Hid (Grow w w6) := by rw [← hw6]; exact grow11 HG5.out (Nat.le_refl _) _ _ _ _ _ _ _ _ _ _ _
 have HO6 : Hid (BytesV w6 (.slice ao7 os.length cp7) os) := by
  rw [← hw6]
  exact ⟨HOB.out, ints_of_owns (own_far HO5.out HZ5.out (by decide) (fun k hk => far11 hk _ _ _ _ _ _ _ _ _ _ _))⟩
 have HP6 : Hid (BytesV w6 (.slice ao8 pl.length cp8) pl) := by
  rw [← hw6]
  exact ⟨HPB.out, ints_of_owns (own_far HP5.out HZ5.out (by decide) (fun k hk => far11 hk _ _ _ _ _ _ _ _ _ _ _))⟩
 clear hw6 p0 p1 p2 p3 p4 p5 p6 p7 p8 p9 p10 q3 q4 q5 q6 q7 q8 q9 q10 q11 q12 q13
 obtain ⟨⟨p0, p1, p2, p3, p4, p5⟩, p6, p7, p8, p9, p10⟩ := blkH HB6.out
 refine bodyPost_ret (v := .tuple #[.agg #[.int .u8 tos, .int .u16 id, .bool ev, .bool df, .bool mf, .int .i64 fo, .int .u8 ttl, .int .u8 pr, .int .u32 sr, .int .u32 ds, .slice ao7 os.length cp7], .slice ao8 pl.length cp8, .int .i64 0]) (by simp [results, Tryz.results11, go_sem, p0, p1, p2, p3, p4, p5, p6, p7, p8, p9, p10]) rfl ?_
 exact ⟨_, _, by rw [HVal.out], HOk.out _ _ HO6.out, HP6.out, HG6.out⟩
set_option maxHeartbeats 8000000 in
theorem parse_t {w : World} {b off L cap Z S : Nat} {zs : List Int} {h : Hd} {pl : List Int} (p : PktAt w b off L cap Z S zs h pl) (hL : L ≤ 10000) (h20 : cap = 20) :
  Calls Tryz.prog 11 #[.slice (some ⟨b, off, none⟩) L cap] w (Parsed h pl w) := by
 have hZ20 : Z = 20 := by have := p.z; have := p.lz; have := p.capL; omega
 have hL20 : L = 20 := by have := p.z; have := p.lz; have := p.capL; omega
 subst h20
 subst hZ20
 subst hL20
 have HWr : Hid (∀ x, Grow w x → Calls Tryz.prog 32 #[.slice (some ⟨b, off, none⟩) 20 20] x fun e w' => e = .returned (.int .i64 0) ∧ Grow x w') := fun x hx => wrong_none (p.mono hx)
 have HP := Lib.hid p
 have hz := p.z; have hlz := p.lz; have hcap := p.capL; have hcm := p.capM; have hlen := p.len; have hs4 := p.s4; have hS := p.s; have hmax := p.max
 obtain ⟨tos, etos⟩ : ∃ x, h.tos = x := ⟨_, rfl⟩
 obtain ⟨id, eid⟩ : ∃ x, h.id = x := ⟨_, rfl⟩
 obtain ⟨ev, eev⟩ : ∃ x, h.evil = x := ⟨_, rfl⟩
 obtain ⟨df, edf⟩ : ∃ x, h.df = x := ⟨_, rfl⟩
 obtain ⟨mf, emf⟩ : ∃ x, h.mf = x := ⟨_, rfl⟩
 obtain ⟨fo, efo⟩ : ∃ x, h.off = x := ⟨_, rfl⟩
 obtain ⟨ttl, ettl⟩ : ∃ x, h.ttl = x := ⟨_, rfl⟩
 obtain ⟨pr, epr⟩ : ∃ x, h.proto = x := ⟨_, rfl⟩
 obtain ⟨sr, esr⟩ : ∃ x, h.src = x := ⟨_, rfl⟩
 obtain ⟨ds, eds⟩ : ∃ x, h.dst = x := ⟨_, rfl⟩
 obtain ⟨F, eF⟩ : ∃ x, fwH h = x := ⟨_, rfl⟩
 obtain ⟨b1, b2, b3, b4⟩ := fw_bits p.raw
 have hFb := fwH_bd p.raw
 have q1 := p.raw.id; have q2 := p.raw.src; have q3 := p.raw.dst; have q4 := p.raw.off
 rw [eF, eev] at b1
 rw [eF, edf] at b2
 rw [eF, emf] at b3
 rw [eF, efo] at b4
 rw [eF] at hFb
 have hNum : ∀ (lo k : Nat) (n m : Int), 1 ≤ k ∧ k ≤ 8 → lo + k ≤ 20 → ((pkt h pl).drop lo).take k = bel k m → beN (bel k m) = n → Hid (∀ x, Grow w x → Calls Tryz.prog 33 #[.slice (some ⟨b, off + lo, none⟩) k (20 - lo)] x fun e w' => e = .returned (.int .u64 n) ∧ x = w') := fun lo k n m hk hlo he hn x hx => by
  have := (p.mono hx).num lo k hk hlo
  rw [p.eq, he, hn] at this
  exact this
 have N2 := hNum 2 2 (20 : Int) _ (by omega) (by omega) (pkt_tot h pl) (by rw [beN_bel2 (by omega)]; omega)
 have N4 := hNum 4 2 id _ (by omega) (by omega) (pkt_id h pl) (by rw [beN_bel2 q1, eid])
 have N6 := hNum 6 2 F _ (by omega) (by omega) (pkt_fw h pl) (by rw [eF, beN_bel2 hFb])
 have N12 := hNum 12 4 sr _ (by omega) (by omega) (pkt_src h pl) (by rw [beN_bel4' q2, esr])
 have N16 := hNum 16 4 ds _ (by omega) (by omega) (pkt_dst h pl) (by rw [beN_bel4' q3, eds])
 have hx0 := p.cell 0 (by omega)
 rw [p.eq, pkt_0] at hx0
 have e0 : (64 : Int) + (20 + (h.os.length : Int)) / 4 = 64 + (S : Int) := by omega
 rw [e0, Nat.add_zero] at hx0
 have hA := and15 hS
 obtain ⟨x, hx⟩ : ∃ x, 64 + (S : Int) = x := ⟨_, rfl⟩
 rw [hx] at hx0 hA
 have HX0 := Lib.hid hx0
 have hx1 := p.cell 1 (by omega)
 rw [p.eq, pkt_1, etos] at hx1
 have HX1 := Lib.hid hx1
 have hx8 := p.cell 8 (by omega)
 rw [p.eq, pkt_8, ettl] at hx8
 have HX8 := Lib.hid hx8
 have hx9 := p.cell 9 (by omega)
 rw [p.eq, pkt_9, epr] at hx9
 have HX9 := Lib.hid hx9
 obtain ⟨os, eos⟩ : ∃ x, h.os = x := ⟨_, rfl⟩
 have HOl : Hid (os.length = 20 - 20) := by show _ = _; rw [← eos]; omega
 have HPl : Hid (pl.length = 20 - 20) := by show _ = _; omega
 have HOB : Hid (Bytes os) := by show Bytes _; rw [← eos]; exact p.raw.by_
 have HPB : Hid (Bytes pl) := p.by_
 have HOk : Hid (∀ v w', BytesV w' v os → HdOk w' { h with v := v }) := fun v w' hv => by
  refine HdOk.mk p.raw.tos p.raw.id ?_ p.raw.ttl p.raw.proto p.raw.src p.raw.dst ?_
  ·show _ ≤ h.off ∧ h.off ≤ _
   omega
  ·show BytesV w' v h.os
   rw [eos]; exact hv
 have HVal : Hid (∀ v, ({ h with v := v } : Hd).val = .agg #[.int .u8 tos, .int .u16 id, .bool ev, .bool df, .bool mf, .int .i64 fo, .int .u8 ttl, .int .u8 pr, .int .u32 sr, .int .u32 ds, v]) := fun v => by rw [← etos, ← eid, ← eev, ← edf, ← emf, ← efo, ← ettl, ← epr, ← esr, ← eds]; rfl
 have HClO : Hid (∀ x, Grow w x → Calls Tryz.prog 27 #[.slice (some ⟨b, off, none⟩) (20 - 20) 0] x fun e w' => ∃ u, e = .returned u ∧ NewBytes x os u w') := fun x hx => by
  rw [← eos]
  have e : h.os = [] := List.eq_nil_of_length_eq_zero (by omega)
  rw [e]
  exact clone_any ⟨Bytes.nil, Or.inl ⟨rfl, some ⟨b, off, none⟩, 0, by rw [show 20 - 20 = 0 by omega], Nat.zero_le _, fun hh => by cases hh⟩⟩ (by omega)
 have HClP : Hid (∀ x, Grow w x → Calls Tryz.prog 27 #[.slice (some ⟨b, off, none⟩) (20 - 20) 0] x fun e w' => ∃ u, e = .returned u ∧ NewBytes x pl u w') := fun x hx => by
  have e : pl = [] := List.eq_nil_of_length_eq_zero (by omega)
  rw [e]
  exact clone_any ⟨Bytes.nil, Or.inl ⟨rfl, some ⟨b, off, none⟩, 0, by rw [show 20 - 20 = 0 by omega], Nat.zero_le _, fun hh => by cases hh⟩⟩ (by omega)
 have hsz : 4 * (S : Int) = (20 : Int) := by omega
 have hwL : IntKind.i64.wrap (20 : Int) = (20 : Int) := IntWalk.i64_in _ (by omega)
 have hwZ : IntKind.i64.wrap (20 : Int) = (20 : Int) := IntWalk.i64_in _ (by omega)
 have hwS : IntKind.i64.wrap (S : Int) = (S : Int) := IntWalk.i64_in _ (by omega)
 have hwI : IntKind.u16.wrap id = id := by rw [wrap16]; unfold U16 at q1; omega
 have hwF : IntKind.i64.wrap fo = fo := IntWalk.i64_in _ (by omega)
 have hwR : IntKind.u32.wrap sr = sr := by unfold U32 at q2; simp [IntKind.wrap, IntKind.signed, IntKind.bits]; omega
 have hwD : IntKind.u32.wrap ds = ds := by unfold U32 at q3; simp [IntKind.wrap, IntKind.signed, IntKind.bits]; omega
 have i1 : (20 : Int) ≤ (20 : Int) := by omega
 have i2 : (20 : Int) ≤ (20 : Int) := by omega
 have i3 : (20 : Int) ≤ (20 : Int) := by omega
 have i4 : (20 : Int) ≤ (20 : Int) := by omega
 have k0 : (0 : Int) < (20 : Int) := by omega
 have k1 : (1 : Int) < (20 : Int) := by omega
 have k8 : (8 : Int) < (20 : Int) := by omega
 have k9 : (9 : Int) < (20 : Int) := by omega
 have l0 : 0 < 20 := by omega
 have l1 : 1 < 20 := by omega
 have l8 : 8 < 20 := by omega
 have l9 : 9 < 20 := by omega
 have i5 : (4 : Int) ≤ (20 : Int) := by omega
 have i6 : (8 : Int) ≤ (20 : Int) := by omega
 have i7 : (6 : Int) ≤ (20 : Int) := by omega
 have i8 : (16 : Int) ≤ (20 : Int) := by omega
 have i9 : (20 : Int) ≤ (20 : Int) := by omega
 have i10 : (20 : Int) ≤ (20 : Int) := by omega
 have j2 : ¬ 20 = 2 := by omega
 have j4 : ¬ 20 = 4 := by omega
 have j6 : ¬ 20 = 6 := by omega
 have j12 : ¬ 20 = 12 := by omega
 have j16 : ¬ 20 = 16 := by omega
 have hZZ := heap_alloc_new w (.cells #[.int .u8 0, .int .u16 0, .bool false, .bool false, .bool false, .int .i64 0, .int .u8 0, .int .u8 0, .int .u32 0, .int .u32 0, .slice none 0 0] 27)
 have HW0 : Hid (Grow w (w.alloc (.cells #[.int .u8 0, .int .u16 0, .bool false, .bool false, .bool false, .int .i64 0, .int .u8 0, .int .u8 0, .int .u32 0, .int .u32 0, .slice none 0 0] 27))) := (Grow.refl w).alloc _
 generalize hwX : w.alloc (.cells #[.int .u8 0, .int .u16 0, .bool false, .bool false, .bool false, .int .i64 0, .int .u8 0, .int .u8 0, .int .u32 0, .int .u32 0, .slice none 0 0] 27) = wX at *
 have HXX := Lib.hid hwX
 have HZ := Lib.hid hZZ
 unfold maxLen at hcm
 clear p hz hlz hmax hx e0 hS hs4 hx0 hx1 hx8 hx9 hNum q1 q2 q3 q4 hFb etos eid eev edf emf efo ettl epr esr eds eF eos hlen hcap hL hZZ hwX
 go_enter Tryz.func11, Tryz.ntmps11
 go_wp2_with fail
 rw [HXX.out]
 clear HXX
 have HC := Lib.hid (HWr.out wX HW0.out)
 with_reducible refine HC.out.mono ?_
 rintro e w1 ⟨rfl, hg⟩
 have HG1 := Lib.hid (HW0.out.trans hg)
 have HZ1 := Lib.hid ((hg.block _ (lt_of_block HZ.out)).trans HZ.out)
 clear hg HC
 go_wp2_with fail
 refine wpRg 16 ?_
 simp only [List.take_succ_cons, List.take_zero, List.drop_succ_cons, List.drop_zero]
 repeat (refine wpHp fun K hK => ?_; go_simp; refine hK _ ?_; clear hK K)
 refine wpHd (.int .u8 x) (fun w' hg => ?_) ?_
 ·have hx := ((HG1.out.trans hg.below).cell (block_lt HX0.out)).trans HX0.out
  clear hg
  go_simp
  exact Below.refl _ _
 try go_simp
 repeat (refine wpHp fun K hK => ?_; go_simp; refine hK _ ?_; clear hK K)
 refine wpHd (.int .u64 (20 : Int)) (fun w' hg => ?_) ?_
 ·have h := N2.out w' (HG1.out.trans hg.below)
  clear hg
  go_simp
  with_reducible refine h.mono ?_
  rintro e w1 ⟨rfl, rfl⟩
  exact ⟨_, rfl, rfl, Below.refl _ _⟩
 try go_simp
 repeat (refine wpHp fun K hK => ?_; go_simp; refine hK _ ?_; clear hK K)
 refine wpHd (.int .u64 F) (fun w' hg => ?_) ?_
 ·have h := N6.out w' (HG1.out.trans hg.below)
  clear hg
  go_simp
  with_reducible refine h.mono ?_
  rintro e w1 ⟨rfl, rfl⟩
  exact ⟨_, rfl, rfl, Below.refl _ _⟩
 try go_simp
 repeat (refine wpHp fun K hK => ?_; go_simp; refine hK _ ?_; clear hK K)
 refine wpH_nil ?_
 intro xs w2 hg hx1 hx2
 have HG2 := Lib.hid (HG1.out.trans hg.below)
 have HZ2 := Lib.hid ((hg.below.block _ (lt_of_block HZ1.out)).trans HZ1.out)
 clear hx1 hx2 hg
 simp only [fill]
 go_simp
 go_wp2_with fail
 refine wpRg 39 ?_
 simp only [List.take_succ_cons, List.take_zero, List.drop_succ_cons, List.drop_zero]
 repeat (refine wpHp fun K hK => ?_; go_simp; refine hK _ ?_; clear hK K)
 refine wpHd (.int .u8 tos) (fun w' hg => ?_) ?_
 ·have hx := ((HG2.out.trans hg.below).cell (block_lt HX1.out)).trans HX1.out
  clear hg
  go_simp
  exact Below.refl _ _
 try go_simp
 repeat (refine wpHp fun K hK => ?_; go_simp; refine hK _ ?_; clear hK K)
 refine wpHd (.int .u64 id) (fun w' hg => ?_) ?_
 ·have h := N4.out w' (HG2.out.trans hg.below)
  clear hg
  go_simp
  with_reducible refine h.mono ?_
  rintro e w1 ⟨rfl, rfl⟩
  exact ⟨_, rfl, rfl, Below.refl _ _⟩
 try go_simp
 repeat (refine wpHp fun K hK => ?_; go_simp; refine hK _ ?_; clear hK K)
 refine wpHd (.int .u8 ttl) (fun w' hg => ?_) ?_
 ·have hx := ((HG2.out.trans hg.below).cell (block_lt HX8.out)).trans HX8.out
  clear hg
  go_simp
  exact Below.refl _ _
 try go_simp
 repeat (refine wpHp fun K hK => ?_; go_simp; refine hK _ ?_; clear hK K)
 refine wpHd (.int .u8 pr) (fun w' hg => ?_) ?_
 ·have hx := ((HG2.out.trans hg.below).cell (block_lt HX9.out)).trans HX9.out
  clear hg
  go_simp
  exact Below.refl _ _
 try go_simp
 repeat (refine wpHp fun K hK => ?_; go_simp; refine hK _ ?_; clear hK K)
 refine wpHd (.int .u64 sr) (fun w' hg => ?_) ?_
 ·have h := N12.out w' (HG2.out.trans hg.below)
  clear hg
  go_simp
  with_reducible refine h.mono ?_
  rintro e w1 ⟨rfl, rfl⟩
  exact ⟨_, rfl, rfl, Below.refl _ _⟩
 try go_simp
 repeat (refine wpHp fun K hK => ?_; go_simp; refine hK _ ?_; clear hK K)
 refine wpHd (.int .u64 ds) (fun w' hg => ?_) ?_
 ·have h := N16.out w' (HG2.out.trans hg.below)
  clear hg
  go_simp
  with_reducible refine h.mono ?_
  rintro e w1 ⟨rfl, rfl⟩
  exact ⟨_, rfl, rfl, Below.refl _ _⟩
 try go_simp
 repeat (refine wpHp fun K hK => ?_; go_simp; refine hK _ ?_; clear hK K)
 refine wpH_hid' (OwnB w2.heap.size os) (by intro _ _ h; cases h) rfl (by rfl) (fun u x x' hg h => own_grow h hg.below) (by rfl) (by rfl) (fun w' hg => ?_) ?_
 ·have h := HClO.out w' (HG2.out.trans hg.below)
  have HS := Lib.hid hg.below.size
  clear hg
  go_simp
  with_reducible refine h.mono ?_
  rintro e w1 ⟨u, rfl, hn⟩
  exact ⟨u, rfl, own_less hn.1 HS.out, hn.2⟩
 try go_simp
 refine wpH_hid (BuiltH w2.heap.size (fun v' => .agg #[.int .u8 tos, .int .u16 id, .bool ev, .bool df, .bool mf, .int .i64 fo, .int .u8 ttl, .int .u8 pr, .int .u32 sr, .int .u32 ds, v']) os) rfl (by rfl) (fun u x x' hg ⟨v', h1, h2⟩ => ⟨v', h1, own_grow h2 hg.below⟩) (fun xs => by rfl) (fun xs w' hg hf => ?_) ?_
 ·have h1 := hf _ (List.Mem.head _) (by rfl); dsimp only at h1
  have H1 := Lib.hid h1
  clear hf h1
  simp only [fill]
  generalize xs 65 = y65 at *
  obtain ⟨ao6, cp6, rfl, _, _⟩ := (ints_of_owns H1.out).shape
  go_simp
  exact ⟨⟨_, rfl, H1.out⟩, Below.refl _ _⟩
 try go_simp
 refine wpH_hid' (NewHd w2.heap.size) (by intro _ _ h; cases h) rfl (by rfl) (fun u x x' hg ⟨B, h1, h2, h3⟩ => ⟨B, h1, (hg.below.block B (lt_of_block h2)).trans h2, h3⟩) (by rfl) (by rfl) (fun w' hg => ?_) ?_
 ·have hs := hg.below.size
  have hn := heap_alloc_new w' (.cells #[.int .u8 0, .int .u16 0, .bool false, .bool false, .bool false, .int .i64 0, .int .u8 0, .int .u8 0, .int .u32 0, .int .u32 0, .slice none 0 0] 27)
  have HN := Lib.hid hn
  have HS := Lib.hid hs
  clear hn hs hg
  go_simp
  exact ⟨⟨_, rfl, HN.out, HS.out⟩, (Below.refl _ _).alloc (Nat.le_refl _) _⟩
 refine wpH_nil ?_
 intro xs w3 hg hc hx2
 have hp9 := hx2 _ _ (List.Mem.head _)
 have hp66 := hx2 _ _ (List.Mem.tail _ (List.Mem.head _))
 try dsimp only at hp9 hp66
 obtain ⟨B, hB, hB2, hB3⟩ := hp9
 obtain ⟨vb, hvb, hob⟩ := hp66
 clear hx2 hc
 have hg3 := HG2.out.trans hg.below
 have hz3 := (hg.below.block _ (lt_of_block HZ2.out)).trans HZ2.out
 obtain ⟨⟨q3, q4, q5, q6, q7, q8⟩, q9, q10, q11, q12, q13⟩ := blkHz hB2
 have HG3 := Lib.hid hg3
 have HB2 := Lib.hid hB2
 have HZ3 := Lib.hid hz3
 have HOB' := Lib.hid hob
 have HB3 : Hid (w.heap.size < B) := by have := HG2.out.size; have := lt_of_block HZ2.out; show _ < _; omega
 have hS3 : Hid (w.heap.size ≤ w2.heap.size) := HG2.out.size
 obtain ⟨ao7, cp7, rfl, _, _⟩ := (ints_of_owns hob).shape
 simp only at hvb
 simp only [fill]
 generalize hx65 : xs 65 = y65 at *
 generalize hx9 : xs 9 = y9 at *
 generalize hx66 : xs 66 = y66 at *
 subst hB
 subst hvb
 clear hg hB2 hz3 hg3 hob hB3 hx65 hx9 hx66
 obtain ⟨⟨p0, p1, p2, p3, p4, p5⟩, p6, p7, p8, p9, p10⟩ := blkH HB2.out
 go_simp
 go_wp2_with fail
 generalize hw4 : (((((((((((w3.setCell ⟨B, 0, none⟩ (.int .u8 tos)).setCell ⟨B, 1, none⟩ (.int .u16 id)).setCell ⟨B, 2, none⟩ (.bool ev)).setCell ⟨B, 3, none⟩ (.bool df)).setCell ⟨B, 4, none⟩ (.bool mf)).setCell ⟨B, 5, none⟩ (.int .i64 fo)).setCell ⟨B, 6, none⟩ (.int .u8 ttl)).setCell ⟨B, 7, none⟩ (.int .u8 pr)).setCell ⟨B, 8, none⟩ (.int .u32 sr)).setCell ⟨B, 9, none⟩ (.int .u32 ds)).setCell ⟨B, 10, none⟩ (.slice ao7 os.length cp7)) = w4
 have HB4 : Hid (w4.heap[B]? = some (.cells #[.int .u8 tos, .int .u16 id, .bool ev, .bool df, .bool mf, .int .i64 fo, .int .u8 ttl, .int .u8 pr, .int .u32 sr, .int .u32 ds, .slice ao7 os.length cp7] 27 (0, 0))) := by rw [← hw4]; exact put11 HB2.out _ _ _ _ _ _ _ _ _ _ _
 have HZ4 : Hid (w4.heap[w.heap.size]? = some (.cells #[.int .u8 0, .int .u16 0, .bool false, .bool false, .bool false, .int .i64 0, .int .u8 0, .int .u8 0, .int .u32 0, .int .u32 0, .slice none 0 0] 27 (0, 0))) := by rw [← hw4]; exact (far11 (Nat.ne_of_lt HB3.out) _ _ _ _ _ _ _ _ _ _ _).trans HZ3.out
 have HG4 : Hid (Grow w w4) := by rw [← hw4]; exact grow11 HG3.out (Nat.le_of_lt HB3.out) _ _ _ _ _ _ _ _ _ _ _
 have HO4 : Hid (w4.ownsRow w2.heap.size 5 1 (.slice ao7 os.length cp7) os.length (os.map (Value.int .u8))) := by rw [← hw4]; exact own_far HOB'.out HB2.out (by decide) (fun k hk => far11 hk _ _ _ _ _ _ _ _ _ _ _)
 clear hw4 p0 p1 p2 p3 p4 p5 p6 p7 p8 p9 p10 q3 q4 q5 q6 q7 q8 q9 q10 q11 q12 q13
 refine wpRg 6 ?_
 simp only [List.take_succ_cons, List.take_zero, List.drop_succ_cons, List.drop_zero]
 refine wpHd (.agg #[.int .u8 tos, .int .u16 id, .bool ev, .bool df, .bool mf, .int .i64 fo, .int .u8 ttl, .int .u8 pr, .int .u32 sr, .int .u32 ds, .slice ao7 os.length cp7]) (fun w' hg => ?_) ?_
 ·obtain ⟨⟨p0, p1, p2, p3, p4, p5⟩, p6, p7, p8, p9, p10⟩ := blkH ((hg.below.block _ (lt_of_block HB4.out)).trans HB4.out)
  clear hg
  go_simp
  exact Below.refl _ _
 try go_simp
 repeat (refine wpHp fun K hK => ?_; go_simp; refine hK _ ?_; clear hK K)
 refine wpH_hid' (OwnB w4.heap.size pl) (by intro _ _ h; cases h) rfl (by rfl) (fun u x x' hg h => own_grow h hg.below) (by rfl) (by rfl) (fun w' hg => ?_) ?_
 ·have h := HClP.out w' (HG4.out.trans hg.below)
  have HS := Lib.hid hg.below.size
  clear hg
  go_simp
  with_reducible refine h.mono ?_
  rintro e w1 ⟨u, rfl, hn⟩
  exact ⟨u, rfl, own_less hn.1 HS.out, hn.2⟩
 try go_simp
 refine wpH_nil ?_
 intro xs w5 hg hc hx2
 have hp72 := hx2 _ _ (List.Mem.head _)
 try dsimp only at hp72
 have HG5 := Lib.hid (HG4.out.trans hg.below)
 have HZ5 := Lib.hid ((hg.below.block _ (lt_of_block HZ4.out)).trans HZ4.out)
 have HO5 := Lib.hid (own_grow HO4.out hg.below)
 have HP5 := Lib.hid hp72
 clear hx2 hc hg hp72
 simp only [fill]
 generalize xs 72 = y72 at *
 obtain ⟨ao8, cp8, rfl, _, _⟩ := (ints_of_owns HP5.out).shape
 obtain ⟨⟨q3, q4, q5, q6, q7, q8⟩, q9, q10, q11, q12, q13⟩ := blkHz HZ5.out
 obtain ⟨⟨p0, p1, p2, p3, p4, p5⟩, p6, p7, p8, p9, p10⟩ := blkH HZ5.out
 go_simp
 go_wp2_with fail
 generalize hw6 : (((((((((((w5.setCell ⟨w.heap.size, 0, none⟩ (.int .u8 tos)).setCell ⟨w.heap.size, 1, none⟩ (.int .u16 id)).setCell ⟨w.heap.size, 2, none⟩ (.bool ev)).setCell ⟨w.heap.size, 3, none⟩ (.bool df)).setCell ⟨w.heap.size, 4, none⟩ (.bool mf)).setCell ⟨w.heap.size, 5, none⟩ (.int .i64 fo)).setCell ⟨w.heap.size, 6, none⟩ (.int .u8 ttl)).setCell ⟨w.heap.size, 7, none⟩ (.int .u8 pr)).setCell ⟨w.heap.size, 8, none⟩ (.int .u32 sr)).setCell ⟨w.heap.size, 9, none⟩ (.int .u32 ds)).setCell ⟨w.heap.size, 10, none⟩ (.slice ao7 os.length cp7)) = w6
 have HB6 : Hid (w6.heap[w.heap.size]? = some (.cells #[.int .u8 tos, .int .u16 id, .bool ev, .bool df, .bool mf, .int .i64 fo, .int .u8 ttl, .int .u8 pr, .int .u32 sr, .int .u32 ds, .slice ao7 os.length cp7] 27 (0, 0))) := by rw [← hw6]; exact put11 HZ5.out _ _ _ _ _ _ _ _ _ _ _
 have HG6 : Hid (Grow w w6) := by rw [← hw6]; exact grow11 HG5.out (Nat.le_refl _) _ _ _ _ _ _ _ _ _ _ _
 have HO6 : Hid (BytesV w6 (.slice ao7 os.length cp7) os) := by
  rw [← hw6]
  exact ⟨HOB.out, ints_of_owns (own_far HO5.out HZ5.out (by decide) (fun k hk => far11 hk _ _ _ _ _ _ _ _ _ _ _))⟩
 have HP6 : Hid (BytesV w6 (.slice ao8 pl.length cp8) pl) := by
  rw [← hw6]
  exact ⟨HPB.out, ints_of_owns (own_far HP5.out HZ5.out (by decide) (fun k hk => far11 hk _ _ _ _ _ _ _ _ _ _ _))⟩
 clear hw6 p0 p1 p2 p3 p4 p5 p6 p7 p8 p9 p10 q3 q4 q5 q6 q7 q8 q9 q10 q11 q12 q13
 obtain ⟨⟨p0, p1, p2, p3, p4, p5⟩, p6, p7, p8, p9, p10⟩ := blkH HB6.out
 refine bodyPost_ret (v := .tuple #[.agg #[.int .u8 tos, .int .u16 id, .bool ev, .bool df, .bool mf, .int .i64 fo, .int .u8 ttl, .int .u8 pr, .int .u32 sr, .int .u32 ds, .slice ao7 os.length cp7], .slice ao8 pl.length cp8, .int .i64 0]) (by simp [results, Tryz.results11, go_sem, p0, p1, p2, p3, p4, p5, p6, p7, p8, p9, p10]) rfl ?_
 exact ⟨_, _, by rw [HVal.out], HOk.out _ _ HO6.out, HP6.out, HG6.out⟩
theorem parse_any {w : World} {b off L cap Z S : Nat} {zs : List Int} {h : Hd} {pl : List Int} (p : PktAt w b off L cap Z S zs h pl) (hL : L ≤ 10000) :
  Calls Tryz.prog 11 #[.slice (some ⟨b, off, none⟩) L cap] w (Parsed h pl w) := by
 by_cases h20 : cap = 20
 ·exact parse_t p hL h20
 ·by_cases hcz : cap = Z
  ·exact parse_z p hL h20 hcz
  ·exact parse_g p hL h20 hcz
end
end Go.Proofs.YtgckhdepnmiejaaGreat
namespace Go.Proofs.YtgckhdepnmiejaaGreat
section
set_option maxRecDepth 100000
open Go.RowKit
set_option maxHeartbeats 2000000 in
theorem fits_any {w : World} {b off L cap Z S : Nat} {zs : List Int} {h : Hd} {pl : List Int} (p : PktAt w b off L cap Z S zs h pl) (hL : L ≤ 10000) (M : Int) (hM : 68 ≤ M ∧ M ≤ 65535) :
  Calls Tryz.prog 67 #[.slice (some ⟨b, off, none⟩) L cap, .int .i64 M] w fun e w' => e = .returned (.tuple #[.bool (decide ((L : Int) ≤ M)), .int .i64 0]) ∧ Grow w w' := by
 have HPa := Lib.hid (parse_any p hL)
 have hmay := p.raw.may
 have hz := p.z; have hlz := p.lz
 have h1 : ¬ (M < 68) := by omega
 have h2 : ¬ (65535 < M) := by omega
 have hcm := p.capM
 have hcl := p.capL
 unfold maxLen at hcm
 have HLZ : Hid ((20 + (h.os.length : Int)) + (pl.length : Int) = (L : Int)) := by show _ = _; omega
 have hwL : IntKind.i64.wrap (L : Int) = (L : Int) := IntWalk.i64_in _ (by omega)
 clear p hz hlz hL
 go_enter Tryz.func67, Tryz.ntmps67
 go_wp2_with fail
 with_reducible refine HPa.out.mono ?_
 rintro e w1 ⟨v, u, rfl, hok, hu, hg⟩
 have HSz : Hid (∀ x, Grow w1 x → Calls Tryz.prog 28 #[({ h with v := v } : Hd).val] x fun e w' => e = .returned (.int .i64 (20 + h.os.length)) ∧ Grow x w') := fun x hx => size_hdr { h with v := v } x (hok.mono hx) hmay
 have HG1 := Lib.hid hg
 have hbo : BytesV w1 v h.os := hok.body
 obtain ⟨ao, c1, rfl, _, _⟩ := hbo.shape
 obtain ⟨bo, c2, rfl, _, _⟩ := hu.shape
 clear hok hu hg HPa hmay hbo
 obtain ⟨tos, id, evil, df, mf, of, ttl, proto, src, dst, v0, os⟩ := h
 simp only [Hd.val, Hd.cells, hdCells] at *
 have HG2 : Hid (Grow w1 (w1.alloc (.cells #[.int .u8 tos, .int .u16 id, .bool evil, .bool df, .bool mf, .int .i64 of, .int .u8 ttl, .int .u8 proto, .int .u32 src, .int .u32 dst, .slice ao os.length c1] 27))) := (Grow.refl w1).alloc _
 go_wp2_with fail
 have HC := Lib.hid (HSz.out _ HG2.out)
 with_reducible refine HC.out.mono ?_
 rintro e w2 ⟨rfl, hg⟩
 have HG3 := Lib.hid (HG1.out.trans (HG2.out.trans hg))
 have hlz := HLZ.out
 clear hg HC HLZ
 go_wp2_with fail
 go_ret2
 exact ⟨by first | rfl | simp, HG3.out⟩
end
end Go.Proofs.YtgckhdepnmiejaaGreat
