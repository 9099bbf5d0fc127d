/- TopPieces, where what comes in is of bulk at most 1048576: a packet that goes over ports of any MTUs, one behind the other, cut again and again, is put together again as it was, but for its TTL. Conditions: none but the statement's own. -/
import Derived.Test.YtgckhdepnmiejaaGreatRows
import Derived.WalkKit
import Derived.ProofKit
import Derived.OpenShut
import Derived.ShutString
import Derived.ChangeOld
import Derived.Below
import Derived.JoinedCond
import Derived.Deep.Slices
import Derived.Deep.Matrix
import Derived.Test.YtgckhdepnmiejaaGreatZ25
set_option linter.unusedVariables false
set_option linter.unusedSimpArgs false
namespace Go.Proofs.YtgckhdepnmiejaaGreat.topPieces
section
set_option maxRecDepth 100000
open Go.ChangeShapes Go.WideShapes Go.ChangeAt Go.RowKit Go.Deep
open Go.ChangeMaps (open_string shut_string)
theorem own : ownKnob Tryz.prog.godebug = none := by kernel_rfl
theorem laidOut : laidOutB Tryz.prog = true := by kernel_rfl
theorem wf_u8 {n : Int} (h : (Lit.int .u8 n).wf = true) : 0 ≤ n ∧ n < 256 := by
 have h : 0 ≤ n ∧ n ≤ 255 := by simpa [Lit.wf, IntKind.min, IntKind.max, IntKind.signed, IntKind.bits] using h
 omega
theorem wf_u16 {n : Int} (h : (Lit.int .u16 n).wf = true) : 0 ≤ n ∧ n < 65536 := by
 have h : 0 ≤ n ∧ n ≤ 65535 := by simpa [Lit.wf, IntKind.min, IntKind.max, IntKind.signed, IntKind.bits] using h
 omega
theorem wf_i64 {n : Int} (h : (Lit.int .i64 n).wf = true) : -9223372036854775808 ≤ n ∧ n ≤ 9223372036854775807 := by
 simpa [Lit.wf, IntKind.min, IntKind.max, IntKind.signed, IntKind.bits] using h
theorem wf_u32 {n : Int} (h : (Lit.int .u32 n).wf = true) : 0 ≤ n ∧ n < 4294967296 := by
 have h : 0 ≤ n ∧ n ≤ 4294967295 := by simpa [Lit.wf, IntKind.min, IntKind.max, IntKind.signed, IntKind.bits] using h
 omega
theorem numsV_of {k : IntKind} {w : World} {ao : Option Addr} {len cap : Nat} {zs : List Int} (hl : len ≤ cap) (hm : cap ≤ maxLen) (hz : zs.length = cap)
  (hn : ao = none → cap = 0) (hc : ∀ a, ao = some a → ∀ i, i < cap → w.cell? (a.add i) = some (.int k (zs.getD i 0))) : IntsV k w (.slice ao len cap) (zs.take len) := by
 have hlen : (zs.take len).length = len := by simp; omega
 by_cases h0 : len = 0
 ·subst h0
  exact Or.inl ⟨by simp, ao, cap, rfl, hm, hn⟩
 ·match ao, hn, hc with
  | none, hn, _ => have := hn rfl; omega
  | some a, _, hc =>
   have hx := hc a rfl 0 (by omega)
   obtain ⟨b, off, path⟩ := a
   cases path with
   | none =>
    refine Or.inr ⟨b, off, cap, by rw [hlen], by omega, hm, fun i hi => ?_⟩
    rw [hlen] at hi
    have := hc _ rfl i (by omega)
    rw [Addr.add_lit] at this
    rw [this]
    simp [List.getD_eq_getElem?_getD, hi]
   | some x =>
   simp only [World.cell?, Addr.add] at hx
   split at hx <;> simp_all
section
variable {H : Type} {enc : TypeId × Value → H} {w : World} {base : Nat}
theorem bulk_lits (k : IntKind) : ∀ zs : List Int, Rows.uptoBulkAll (H := H) (lits k zs) = zs.length
 | [] => by simp [lits, Rows.uptoBulkAll]
 | z :: r => by
  have := bulk_lits k r
  simp only [lits, List.map_cons, Rows.uptoBulkAll, Rows.uptoBulk, List.length_cons] at this ⊢
  omega
theorem nums_of_trod {P : Program} {k : IntKind} {t e : TypeId} {v : Value} {n : Nat} {y : DataW H × List MemPlace} (ht : P.underlying t = some (.slice e)) (he : P.underlying e = some (.int k)) (ce : P.cellsOf e = 1)
  (h : DataW.trod enc P w 0 (fun _ => true) true n t [v] = some y) : ∃ zs, (∀ z ∈ zs, (Lit.int k z).wf = true) ∧ IntsV k w v zs ∧ zs.length ≤ Rows.uptoBulk y.1 := by
 rcases open_ints ht he ce h with ⟨hcs, _⟩ | ⟨x, l, c, zs, hcs, _, hl, hm, hz, hy, hcell, hwz⟩
 ·simp at hcs
  subst hcs
  exact ⟨[], by simp, Or.inl ⟨rfl, _, _, rfl, Nat.zero_le _, fun _ => rfl⟩, Nat.zero_le _⟩
 ·simp at hcs
  subst hcs
  simp only [if_true] at hz
  refine ⟨zs.take l, fun z hz' => hwz z (List.mem_of_mem_take hz'), numsV_of hl hm hz (fun hh => by cases hh) (fun a ha i hi => by cases ha; exact hcell i (by omega)), ?_⟩
  rw [hy]
  simp only [Rows.uptoBulk, bulk_lits]
  omega
theorem part_le {d : DataW H} {l : List (DataW H)} (h : d ∈ l) : Rows.uptoBulk d ≤ Rows.uptoBulkAll l := by
 induction l with
 | nil => cases h
 | cons x r ih =>
  simp only [Rows.uptoBulkAll]
  cases List.mem_cons.1 h with
  | inl e => subst e; omega
  | inr e => have := ih e; omega
theorem hdr_of_trod {n : Nat} {cs : List Value} {x : DataW H × List MemPlace} (h : DataW.trod enc Tryz.prog w 0 (fun _ => true) true n 27 cs = some x) : ∃ f : Hd, cs = f.cells.toList ∧ HdOk w f ∧ f.os.length ≤ Rows.uptoBulk x.1 := by
 obtain ⟨xs, m, _, rfl, hl, hx, hf⟩ := DataW.trod_struct Tryz.underlying27 h
 have hl11 : cs.length = 11 := hl.trans (by kernel_rfl)
 match cs, hl11 with
 | [c0, c1, c2, c3, c4, c5, c6, c7, c8, c9, c10], _ =>
  match xs, hx with
  | [y0, y1, y2, y3, y4, y5, y6, y7, y8, y9, y10], _ =>
   have k3 : Tryz.prog.cellsOf 3 = 1 := by kernel_rfl
   have k4 : Tryz.prog.cellsOf 4 = 1 := by kernel_rfl
   have k5 : Tryz.prog.cellsOf 5 = 1 := by kernel_rfl
   have k22 : Tryz.prog.cellsOf 22 = 1 := by kernel_rfl
   have k24 : Tryz.prog.cellsOf 24 = 1 := by kernel_rfl
   have k25 : Tryz.prog.cellsOf 25 = 1 := by kernel_rfl
   have f0 : DataW.trod enc Tryz.prog w 0 (fun _ => true) true m 5 [c0] = some y0 := by have h := hf 0 _ rfl; simpa [k3, k4, k5, k22, k24, k25] using h
   have f1 : DataW.trod enc Tryz.prog w 0 (fun _ => true) true m 22 [c1] = some y1 := by have h := hf 1 _ rfl; simpa [k3, k4, k5, k22, k24, k25] using h
   have f2 : DataW.trod enc Tryz.prog w 0 (fun _ => true) true m 4 [c2] = some y2 := by have h := hf 2 _ rfl; simpa [k3, k4, k5, k22, k24, k25] using h
   have f3 : DataW.trod enc Tryz.prog w 0 (fun _ => true) true m 4 [c3] = some y3 := by have h := hf 3 _ rfl; simpa [k3, k4, k5, k22, k24, k25] using h
   have f4 : DataW.trod enc Tryz.prog w 0 (fun _ => true) true m 4 [c4] = some y4 := by have h := hf 4 _ rfl; simpa [k3, k4, k5, k22, k24, k25] using h
   have f5 : DataW.trod enc Tryz.prog w 0 (fun _ => true) true m 3 [c5] = some y5 := by have h := hf 5 _ rfl; simpa [k3, k4, k5, k22, k24, k25] using h
   have f6 : DataW.trod enc Tryz.prog w 0 (fun _ => true) true m 5 [c6] = some y6 := by have h := hf 6 _ rfl; simpa [k3, k4, k5, k22, k24, k25] using h
   have f7 : DataW.trod enc Tryz.prog w 0 (fun _ => true) true m 5 [c7] = some y7 := by have h := hf 7 _ rfl; simpa [k3, k4, k5, k22, k24, k25] using h
   have f8 : DataW.trod enc Tryz.prog w 0 (fun _ => true) true m 24 [c8] = some y8 := by have h := hf 8 _ rfl; simpa [k3, k4, k5, k22, k24, k25] using h
   have f9 : DataW.trod enc Tryz.prog w 0 (fun _ => true) true m 24 [c9] = some y9 := by have h := hf 9 _ rfl; simpa [k3, k4, k5, k22, k24, k25] using h
   have f10 : DataW.trod enc Tryz.prog w 0 (fun _ => true) true m 25 [c10] = some y10 := by have h := hf 10 _ rfl; simpa [k3, k4, k5, k22, k24, k25] using h
   obtain ⟨a0, e0, _, w0⟩ := DataW.trod_int Tryz.underlying5 f0
   obtain ⟨a1, e1, _, w1⟩ := DataW.trod_int Tryz.underlying22 f1
   obtain ⟨a2, e2, _⟩ := DataW.trod_bool Tryz.underlying4 f2
   obtain ⟨a3, e3, _⟩ := DataW.trod_bool Tryz.underlying4 f3
   obtain ⟨a4, e4, _⟩ := DataW.trod_bool Tryz.underlying4 f4
   obtain ⟨a5, e5, _, w5⟩ := DataW.trod_int Tryz.underlying3 f5
   obtain ⟨a6, e6, _, w6⟩ := DataW.trod_int Tryz.underlying5 f6
   obtain ⟨a7, e7, _, w7⟩ := DataW.trod_int Tryz.underlying5 f7
   obtain ⟨a8, e8, _, w8⟩ := DataW.trod_int Tryz.underlying24 f8
   obtain ⟨a9, e9, _, w9⟩ := DataW.trod_int Tryz.underlying24 f9
   obtain ⟨zs, hw10, hz, hb⟩ := nums_of_trod Tryz.underlying25 Tryz.underlying5 k5 f10
   simp at e0 e1 e2 e3 e4 e5 e6 e7 e8 e9
   subst e0 e1 e2 e3 e4 e5 e6 e7 e8 e9
   refine ⟨⟨a0, a1, a2, a3, a4, a5, a6, a7, a8, a9, c10, zs⟩, rfl, ⟨wf_u8 w0, wf_u16 w1, wf_i64 w5, wf_u8 w6, wf_u8 w7, wf_u32 w8, wf_u32 w9, ⟨fun z hz' => wf_u8 (hw10 z hz'), hz⟩⟩, ?_⟩
   refine Nat.le_trans hb ?_
   simp only [Rows.uptoBulk]
   exact Nat.le_succ_of_le (part_le (by simp))
end
/-- The law, whatever came in. -/
theorem walk (f : Hd) (pv mv ov : Value) (P ms xs : List Int) (w : World) (hok : HdOk w f) (hP : BytesV w pv P) (hms : IntsV .i64 w mv ms) (hxs : IntsV .i64 w ov xs) (hl : f.os.length ≤ 1048576) :
  Calls Tryz.prog 3 #[f.val, pv, mv, ov] w fun e w' => e = .returned (.bool true) ∧ Below w.heap.size w w' := by
 have HN := Lib.hid (nil_ok w)
 obtain ⟨va, vc, hv, _, _⟩ := hok.body.shape
 obtain ⟨pa, pc, rfl, _, _⟩ := hP.shape
 obtain ⟨ma, mc, rfl, _, _⟩ := hms.shape
 obtain ⟨ra, rc, rfl, _, _⟩ := hxs.shape
 obtain ⟨tos, id, evil, df, mf, off, ttl, proto, src, dst, v, os⟩ := f
 dsimp only at hv hl
 subst hv
 show Calls Tryz.prog 3 #[.agg #[.int .u8 tos, .int .u16 id, .bool evil, .bool df, .bool mf, .int .i64 off, .int .u8 ttl, .int .u8 proto, .int .u32 src, .int .u32 dst, .slice va os.length vc], .slice pa P.length pc, .slice ma ms.length mc, .slice ra xs.length rc] w (Yes w)
 cases hm : mayH ⟨tos, id, evil, false, false, 0, ttl, proto, 167772165, 184549381, .slice va os.length vc, os⟩ with
 | false => exact top_no1 hok HN rfl hl hm
 | true =>
 cases hr : routedO os with
 | true => exact top_no2 hok HN rfl hl hm hr
 | false =>
 rcases Nat.lt_or_ge 1400 P.length with h1 | h1
 ·exact top_no3 hok HN rfl hl hm hr h1
 rcases Nat.lt_or_ge ms.length 1 with h2 | h2
 ·exact top_no4 hok HN rfl hl hm hr h1 h2
 rcases Nat.lt_or_ge 6 ms.length with h3 | h3
 ·exact top_no5 hok HN rfl hl hm hr h1 h2 h3
 rcases Int.lt_or_le (ms.length : Int) ttl with h4 | h4
 case inr => exact top_no6 hok HN rfl hl hm hr h1 h2 h3 h4
 rcases Nat.lt_or_ge 100 xs.length with h5 | h5
 ·exact top_no7 hok HN rfl hl hm hr h1 h2 h3 h4 h5
 exact top_go hok hP hms hxs HN rfl rfl rfl rfl hm hr h1 h2 h3 h4 h5
theorem open_hdr {H : Type} {enc : TypeId × Value → H} {w : World} {base : Nat} {v : Value} {d : DataW H} {p : List MemPlace} (hv : Value.okWide Tryz.prog w .any base 27 v) (h : DataW.Trod enc Tryz.prog w 0 (fun _ => true) true 27 v d p) :
  ∃ f : Hd, v = f.val ∧ HdOk w f ∧ f.os.length ≤ Rows.uptoBulk d := by
 obtain ⟨cs, rfl, hsz⟩ := okWide_struct Tryz.underlying27 hv
 obtain ⟨fuel, hf⟩ := h
 obtain ⟨f, e, hok, hb⟩ := hdr_of_trod hf
 refine ⟨f, ?_, hok, hb⟩
 unfold Hd.val
 congr 1
 apply Array.ext'
 simpa [Value.cells] using e
theorem open_row {H : Type} {enc : TypeId × Value → H} {P : Program} {w : World} {base : Nat} {k : IntKind} {t e : TypeId} {v : Value} {d : DataW H} {p : List MemPlace} (ht : P.underlying t = some (.slice e)) (he : P.underlying e = some (.int k)) (ce : P.cellsOf e = 1)
  (hv : Value.okWide P w .any base t v) (h : DataW.Trod enc P w 0 (fun _ => true) true t v d p) : ∃ zs : List Int, (∀ z ∈ zs, (Lit.int k z).wf = true) ∧ IntsV k w v zs := by
 obtain ⟨a0, len0, cap0, rfl⟩ := okWide_slice ht hv
 obtain ⟨fuel, hf⟩ := h
 obtain ⟨zs, h1, h2, _⟩ := nums_of_trod (v := .slice a0 len0 cap0) ht he ce hf
 exact ⟨zs, h1, h2⟩
theorem contract (H : Type) (enc : TypeId × Value → H) (W : World) (base : Nat) (args : Array Value) (ds gs : List (DataW H)) (before : List MemPlace)
  (hval0 : ∀ (j : Nat) t v, Tryz.f3.params[j]? = some t → args[j]? = some v → Value.okWide Tryz.prog W .any base t v)
  (hW : DataW.Whole enc Tryz.prog Tryz.f3.params.toList Rows.topPiecesSpec.vars false W args.toList ds gs before) (hk : Rows.uptoSmall H (ds ++ gs) = true) :
  Calls Tryz.prog 3 args W fun e W' => ∃ v, e = .returned v ∧ Rows.topPiecesSpec.post enc Tryz.prog Tryz.f3 false true false false W args v W' := by
 have hval : ∀ (j : Nat) t v, Tryz.f3.params[j]? = some t → args[j]? = some v → Value.okWide Tryz.prog W .any base t v := hval0
 have hW' := hW
 obtain ⟨p, q, hA0, hV, rfl, hfz, hnd⟩ := hW
 have hA : DataW.TrodAll enc Tryz.prog W 0 (fun _ => true) true Tryz.f3.params.toList args.toList ds p := hA0
 rw [Tryz.params3] at hA hval
 obtain ⟨v0, vs0, d0, ds0, p0, q0, hargs, rfl, rfl, h0, r0⟩ := trodAll_cons hA
 obtain ⟨v1, vs1, d1, ds1, p1, q1, rfl, rfl, rfl, h1, r1⟩ := trodAll_cons r0
 obtain ⟨v2, vs2, d2, ds2, p2, q2, rfl, rfl, rfl, h2, r2⟩ := trodAll_cons r1
 obtain ⟨v3, vs3, d3, ds3, p3, q3, rfl, rfl, rfl, h3, r3⟩ := trodAll_cons r2
 obtain ⟨rfl, rfl, rfl⟩ := trodAll_nil r3
 obtain rfl : args = #[v0, v1, v2, v3] := by cases args; simp_all
 obtain ⟨rfl, rfl⟩ := trodVars_none hV
 have k0 := h0
 have lt0 : ∀ x ∈ p0, x.block < W.heap.size := by obtain ⟨m, hm⟩ := k0; exact DataW.trod_lt m _ _ _ hm
 have k1 := h1
 have lt1 : ∀ x ∈ p1, x.block < W.heap.size := by obtain ⟨m, hm⟩ := k1; exact DataW.trod_lt m _ _ _ hm
 have k2 := h2
 have lt2 : ∀ x ∈ p2, x.block < W.heap.size := by obtain ⟨m, hm⟩ := k2; exact DataW.trod_lt m _ _ _ hm
 have k3 := h3
 have lt3 : ∀ x ∈ p3, x.block < W.heap.size := by obtain ⟨m, hm⟩ := k3; exact DataW.trod_lt m _ _ _ hm
 obtain ⟨f, rfl, w0, hb⟩ := open_hdr (hval 0 27 v0 rfl rfl) h0
 obtain ⟨z1, e1, w1⟩ := open_row Tryz.underlying25 Tryz.underlying5 (by kernel_rfl) (hval 1 25 v1 rfl rfl) h1
 obtain ⟨z2, e2, w2⟩ := open_row Tryz.underlying28 Tryz.underlying3 (by kernel_rfl) (hval 2 28 v2 rfl rfl) h2
 obtain ⟨z3, e3, w3⟩ := open_row Tryz.underlying28 Tryz.underlying3 (by kernel_rfl) (hval 3 28 v3 rfl rfl) h3
 have hsm : f.os.length ≤ 1048576 := by
  have h : Rows.uptoBulkAll _ ≤ 1048576 := of_decide_eq_true hk
  exact Nat.le_trans hb (Nat.le_trans (part_le (by simp)) h)
 clear hA0 hval0
 refine (walk f v1 v2 v3 z1 z2 z3 W w0 ⟨fun z hz => wf_u8 (e1 z hz), w1⟩ w2 w3 hsm).mono fun e W' ⟨he, bel⟩ => ?_
 subst he
 exact ⟨_, rfl, _, _, _, [], _, [], hW', trodAll_mk1 (shut_bool Tryz.underlying4 _), (trodAll_cons_mk (Below.trod laidOut (by kernel_rfl) (of_decide_eq_true (by kernel_rfl)) k0 bel lt0) (trodAll_cons_mk (Below.trod laidOut (by kernel_rfl) (of_decide_eq_true (by kernel_rfl)) k1 bel lt1) (trodAll_cons_mk (Below.trod laidOut (by kernel_rfl) (of_decide_eq_true (by kernel_rfl)) k2 bel lt2) (trodAll_cons_mk (Below.trod laidOut (by kernel_rfl) (of_decide_eq_true (by kernel_rfl)) k3 bel lt3) trodAll_mk0)))), rfl, bel.frame _, fun h => by cases h⟩
theorem lifted (os : Os) (started : os.Started) (H : Type) (enc : TypeId × Value → H) (F : Stop.Interp) :
  ReturnsInHanded {} Tryz.checked os 3 .any ((Rows.OpenSpec.upto Rows.topPiecesSpec).pre6 enc Tryz.prog Tryz.f3 Rows.topPiecesUptoRow.domain false) (((Rows.OpenSpec.upto Rows.topPiecesSpec).at F).post enc Tryz.prog Tryz.f3 false true false false) := by
 refine returnsInHanded_of_cond (C := Tryz.checked) (s := Rows.OpenSpec.upto Rows.topPiecesSpec) (k := Rows.uptoSmall) rfl own started (by kernel_rfl) Tryz.func3
  (OpenSpec.witness (enc := enc) (C := Tryz.checked) (s := Rows.OpenSpec.upto Rows.topPiecesSpec) (k := Rows.uptoSmall) rfl false ⟨#[], #[.agg #[.int .u8 0, .int .u16 0, .bool false, .bool false, .bool false, .int .i64 0, .int .u8 0, .int .u8 0, .int .u32 0, .int .u32 0, .slice none 0 0], .slice none 0 0, .slice none 0 0, .slice none 0 0], []⟩ 8 (by kernel_rfl) (by kernel_rfl) (by kernel_rfl)
   (x := ([.agg [.lit (.int .u8 0), .lit (.int .u16 0), .lit (.bool false), .lit (.bool false), .lit (.bool false), .lit (.int .i64 0), .lit (.int .u8 0), .lit (.int .u8 0), .lit (.int .u32 0), .lit (.int .u32 0), .nil], .nil, .nil, .nil], [], [])) (by kernel_rfl) rfl (by kernel_rfl)) ?_
 intro W base args ds gs before hval hW _ hk _
 exact contract H enc W base args ds gs before hval hW hk
theorem over : Rows.topPiecesUptoRow.holds Tryz.pinned (Rows.OpenSpec.upto Rows.topPiecesSpec) :=
 OpenClaim.holds_of_cond 3 Tryz.f3 rfl rfl rfl rfl rfl rfl rfl ⟨rfl, rfl, rfl, rfl, rfl⟩ rfl rfl rfl rfl rfl (by kernel_rfl) Tryz.func3 (by kernel_rfl)
  (of_decide_eq_true (by kernel_rfl)) (by unfold Func.isWrapper; first | (rw [if_pos (by decide +kernel)]; kernel_rfl) | (rw [if_neg (by decide +kernel)]; exact ⟨rfl, rfl⟩))
  (fun os started H enc _ F => lifted os started H enc F)
/-- The statement. -/
theorem proved : Rows.TopPiecesUptoSaid := over
end
end Go.Proofs.YtgckhdepnmiejaaGreat.topPieces
