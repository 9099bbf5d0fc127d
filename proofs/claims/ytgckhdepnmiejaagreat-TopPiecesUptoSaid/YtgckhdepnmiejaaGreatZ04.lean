/- The contracts of the functions that add with carry, in the program and in the reference (and what stands on it). -/
import Derived.Test.YtgckhdepnmiejaaGreatRows
import Derived.WalkKit
import Derived.WalkLawsBesides
import Derived.WalkSpells
import Derived.Laws.BitsAllLaws
import Derived.LoopTactic
import Derived.ChangeAlike
import Derived.Lib.Hide
import Derived.IntWalk
import Derived.Laws.CopyOwn
import Derived.Test.YtgckhdepnmiejaaGreatZ01
import Derived.Test.YtgckhdepnmiejaaGreatZ02
import Derived.Test.YtgckhdepnmiejaaGreatZ03
set_option linter.unusedVariables false
set_option linter.unusedSimpArgs false
namespace Go.Proofs.YtgckhdepnmiejaaGreat
section
set_option maxRecDepth 100000
open Go.RowKit
theorem ret_int {k : IntKind} {a b : Int} (h : a = b) : Ending.returned (.int k a) = .returned (.int k b) := by rw [h]
theorem wrap16 (n : Int) : IntKind.u16.wrap n = n % 65536 := by
 simp [IntKind.wrap, IntKind.signed, IntKind.bits]
theorem nat_not16 (c : Nat) (h : c < 65536) : 65535 ^^^ c = 65535 - c := by
 have h1 : (BitVec.ofNat 16 c).toNat = c := by simp [BitVec.toNat_ofNat]; omega
 have h2 := BitVec.toNat_not (x := BitVec.ofNat 16 c)
 rw [BitVec.not_def, BitVec.toNat_xor, BitVec.toNat_allOnes, h1] at h2
 exact h2
/-- All bits of a 16-bit number are turned. -/
theorem not16 {c : Int} (h : 0 ≤ c) (h' : c < 65536) : bits .xor .u16 IntKind.u16.max c = 65535 - c := by
 have e : IntKind.u16.max = 65535 := rfl
 rw [e, u16_xor 65535 c (by omega) (by omega) h h']
 have : (65535 : Int).toNat = 65535 := rfl
 rw [this, nat_not16 _ (by omega)]
 omega
/-- Two bytes are joined to a word. -/
theorem or16 {a b : Int} (h1 : 0 ≤ a) (h2 : a < 256) (h3 : 0 ≤ b) (h4 : b < 256) : bits .or .u16 (a * 256) b = 256 * a + b := by
 rw [u16_or _ _ (by omega) (by omega) (by omega) (by omega), nat_join 8 _ _ (by omega) (by omega)]
 omega
theorem add_any (x y : Int) (w : World) (hx : 0 ≤ x) (hx' : x < 65536) (hy : 0 ≤ y) (hy' : y < 65536) :
  Calls Tryz.prog 112 #[.int .u16 x, .int .u16 y] w fun e w' => e = .returned (.int .u16 (addc x y)) ∧ w = w' := by
 go_enter Tryz.func112, Tryz.ntmps112
 go_wp2
 go_ret
 refine ⟨ret_int ?_, rfl⟩
 rw [wrap16]
 unfold addc
 split <;> omega
theorem refAdd_any (x y : Int) (w : World) (hx : 0 ≤ x) (hx' : x < 65536) (hy : 0 ≤ y) (hy' : y < 65536) :
  Calls Tryz.prog 70 #[.int .u16 x, .int .u16 y] w fun e w' => e = .returned (.int .u16 (addc x y)) ∧ w = w' := by
 go_enter Tryz.func70, Tryz.ntmps70
 go_wp2
 all_goals
  go_ret
  refine ⟨ret_int ?_, rfl⟩
  try rw [wrap16]
  unfold addc
  split <;> omega
end
end Go.Proofs.YtgckhdepnmiejaaGreat
namespace Go.Proofs.YtgckhdepnmiejaaGreat
section
set_option maxRecDepth 100000
open Go.RowKit
/-- The three captured variables of Total: the sum so far, the high byte, whether there is one. -/
structure TotSt (B : Nat) (s : Int × Int × Bool) (w : World) : Prop where
 n : w.heap[B]? = some (.cells #[.int .u16 s.1] 22 (0, 0))
 h : w.heap[B + 1]? = some (.cells #[.int .u8 s.2.1] 5 (0, 0))
 o : w.heap[B + 1 + 1]? = some (.cells #[.bool s.2.2] 4 (0, 0))
theorem heap_other {w : World} {b k : Nat} (u : Value) (h : k ≠ b) : (w.setCell ⟨b, 0, none⟩ u).heap[k]? = w.heap[k]? := Below.heap_setCell _ _ _ _ h
theorem below_put {B : Nat} {a w : World} (h : Below B a w) {b : Nat} (hp : B ≤ b) (u : Value) : Below B a (w.setCell ⟨b, 0, none⟩ u) := h.setCell hp u
theorem take_any (B : Nat) (b n h : Int) (odd : Bool) (w : World) (hs : TotSt B (n, h, odd) w) (hb : 0 ≤ b) (hb' : b < 256) (hn : 0 ≤ n) (hn' : n < 65536) (hh : 0 ≤ h) (hh' : h < 256) :
  Calls Tryz.prog 114 #[.int .u8 b, .pointer (some ⟨B + 1 + 1, 0, none⟩), .pointer (some ⟨B, 0, none⟩), .pointer (some ⟨B + 1, 0, none⟩)] w fun e w' => e = .returned (.tuple #[]) ∧ TotSt B (tstep (n, h, odd) b) w' ∧ Below B w w' := by
 obtain ⟨h1, h2, h3⟩ := hs
 have c1 := cell_of_one h1
 have f1 := free_of_one h1
 have c2 := cell_of_one h2
 have f2 := free_of_one h2
 have c3 := cell_of_one h3
 have f3 := free_of_one h3
 have H1 := Lib.hid h1
 have H2 := Lib.hid h2
 have H3 := Lib.hid h3
 clear h1 h2 h3
 cases odd
 ·go_enter Tryz.func114, Tryz.ntmps114
  go_wp2
  go_region
  go_wp2
  go_end0
  refine ⟨rfl, ⟨?_, ?_, ?_⟩, ?_⟩
  ·exact (heap_other _ (by omega)).trans ((heap_other _ (by omega)).trans H1.out)
  ·exact (heap_other _ (by omega)).trans (one_setCell H2.out)
  ·exact one_setCell ((heap_other _ (by omega)).trans H3.out)
  ·exact (below_put (below_put (Below.refl _ _) (by omega) _) (by omega) _).drew
 ·have ho := or16 hh hh' hb hb'
  go_enter Tryz.func114, Tryz.ntmps114
  go_wp2_with fail
  refine (add_any _ _ _ hn hn' (by omega) (by omega)).mono ?_; rintro e w' ⟨rfl, rfl⟩
  go_wp2
  go_region
  go_wp2
  go_end0
  refine ⟨rfl, ⟨?_, ?_, ?_⟩, ?_⟩
  ·exact (heap_other _ (by omega)).trans ((heap_other _ (by omega)).trans (one_setCell H1.out))
  ·exact (heap_other _ (by omega)).trans (one_setCell ((heap_other _ (by omega)).trans H2.out))
  ·exact one_setCell ((heap_other _ (by omega)).trans ((heap_other _ (by omega)).trans H3.out))
  ·exact (below_put (below_put (below_put (Below.refl _ _) (by omega) _) (by omega) _) (by omega) _).drew
theorem totSt_start (w : World) : TotSt w.heap.size (0, 0, false) (((w.alloc (.cells #[.int .u16 0] 22)).alloc (.cells #[.int .u8 0] 5)).alloc (.cells #[.bool false] 4)) := by
 refine ⟨?_, ?_, ?_⟩
 ·rw [Below.heap_alloc _ _ _ (by simp; omega), Below.heap_alloc _ _ _ (by simp), heap_alloc_new]
 ·rw [Below.heap_alloc _ _ _ (by simp)]
  have := heap_alloc_new (w.alloc (.cells #[.int .u16 0] 22)) (.cells #[.int .u8 0] 5)
  rwa [World.size_alloc] at this
 ·have := heap_alloc_new ((w.alloc (.cells #[.int .u16 0] 22)).alloc (.cells #[.int .u8 0] 5)) (.cells #[.bool false] 4)
  rwa [World.size_alloc, World.size_alloc] at this
theorem take_succ' {α : Type} (l : List α) (k : Nat) (d : α) (h : k < l.length) : l.take (k + 1) = l.take k ++ [l.getD k d] := by
 rw [List.take_succ_eq_append_getElem h]; simp [h]
theorem flat_succ (rows : List (List Int)) (k : Nat) (h : k < rows.length) : (rows.take (k + 1)).flatten = (rows.take k).flatten ++ rows.getD k [] := by
 rw [take_succ' rows k [] h]; simp
/-- All bytes of rows are bytes. -/
def AllBytes (rows : List (List Int)) : Prop := ∀ r ∈ rows, Bytes r
theorem AllBytes.flat {rows : List (List Int)} (h : AllBytes rows) : Bytes rows.flatten := fun z hz => by
 obtain ⟨r, hr, hz⟩ := List.mem_flatten.1 hz
 exact h r hr z hz
theorem AllBytes.take {rows : List (List Int)} (h : AllBytes rows) (k : Nat) : AllBytes (rows.take k) := fun r hr => h r (List.mem_of_mem_take hr)
theorem AllBytes.getD {rows : List (List Int)} (h : AllBytes rows) (k : Nat) : Bytes (rows.getD k []) := by
 by_cases hk : k < rows.length
 ·have : rows.getD k [] = rows[k] := by simp [hk]
  rw [this]; exact h _ (List.getElem_mem hk)
 ·have : rows.getD k [] = [] := by simp [Nat.le_of_not_lt hk]
  rw [this]; exact Bytes.nil
theorem RowsV.bytes {w : World} {v : Value} {rows : List (List Int)} (h : RowsV w v rows) : AllBytes rows := by
 rcases h with ⟨rfl, _⟩ | ⟨b, off, cap, _, _, _, h4⟩
 ·exact fun r hr => by cases hr
 ·intro r hr
  obtain ⟨i, hi, rfl⟩ := List.mem_iff_getElem.1 hr
  obtain ⟨x, _, hx⟩ := h4 i hi
  have : rows.getD i [] = rows[i] := by simp [hi]
  rw [← this]; exact hx.1
/-- What the loops hold: the state behind the bytes 'bs'; memory that was there is as it was. -/
def TotInv (w : World) (bs : List Int) (wr : World) : Prop := TotSt w.heap.size (tst bs) wr ∧ Grow w wr
theorem TotInv.take {w wr : World} {bs : List Int} {b : Int} (h : TotInv w bs wr) (hbs : Bytes bs) (hb : 0 ≤ b) (hb' : b < 256) :
  Calls Tryz.prog 114 #[.int .u8 b, .pointer (some ⟨w.heap.size + 1 + 1, 0, none⟩), .pointer (some ⟨w.heap.size, 0, none⟩), .pointer (some ⟨w.heap.size + 1, 0, none⟩)] wr fun e w' => e = .returned (.tuple #[]) ∧ TotInv w (bs ++ [b]) w' := by
 have hd := tst_bd bs hbs
 refine (take_any w.heap.size b (tst bs).1 (tst bs).2.1 (tst bs).2.2 wr h.1 hb hb' hd.1.1 hd.1.2 hd.2.1 hd.2.2).mono ?_
 rintro e w' ⟨rfl, h1, h2⟩
 exact ⟨rfl, by rw [TotInv, tst_snoc]; exact ⟨h1, Below.trans h.2 h2⟩⟩
/-- A slice whose place does not matter, being empty. -/
theorem total_none (ao : Option Addr) (cap : Nat) (w : World) :
  Calls Tryz.prog 98 #[.slice ao 0 cap] w fun e w' => e = .returned (.int .u16 0) ∧ Grow w w' := by
 have hs := totSt_start w
 have c1 := cell_of_one hs.n
 have c3 := cell_of_one hs.o
 clear hs
 go_enter Tryz.func98, Tryz.ntmps98
 go_wp2
 refine wp_loop_rounds 1 ?_
 rw [rounds_succ]
 go_wp2
 go_ret
 exact ⟨rfl, (((Grow.refl w).alloc _).alloc _).alloc _⟩
/-- What is read behind the loops, and what a last byte of nought makes of it. -/
theorem finish {w wr : World} {bs : List Int} (hbs : Bytes bs) (hI : TotInv w bs wr) : ∃ (n : Int) (odd : Bool), wr.cell? ⟨w.heap.size + 1 + 1, 0, none⟩ = some (.bool odd) ∧
  (wr.cell? ⟨w.heap.size, 0, none⟩ = some (.int .u16 n) ∧ (odd = false → Hid (n = nrm (bsum bs))) ∧
  (odd = true → Hid (Calls Tryz.prog 114 #[.int .u8 0, .pointer (some ⟨w.heap.size + 1 + 1, 0, none⟩), .pointer (some ⟨w.heap.size, 0, none⟩), .pointer (some ⟨w.heap.size + 1, 0, none⟩)] wr
   fun e w' => e = .returned (.tuple #[]) ∧ w'.cell? ⟨w.heap.size, 0, none⟩ = some (.int .u16 (nrm (bsum bs))) ∧ Grow w w')) ∧ Grow w wr) := by
 have ht := tfin_tst bs hbs
 have hd := tst_bd bs hbs
 refine ⟨(tst bs).1, (tst bs).2.2, cell_of_one hI.1.o, cell_of_one hI.1.n, fun ho => ?_, fun ho => ?_, hI.2⟩
 ·show (tst bs).1 = _
  rw [← ht, tfin, ho]; rfl
 ·refine (take_any w.heap.size 0 (tst bs).1 (tst bs).2.1 (tst bs).2.2 wr hI.1 (by omega) (by omega) hd.1.1 hd.1.2 hd.2.1 hd.2.2).mono ?_
  rintro e w' ⟨rfl, h1, h2⟩
  refine ⟨rfl, ?_, Below.trans hI.2 h2⟩
  have h3 := cell_of_one h1.n
  have h4 : (tstep ((tst bs).1, (tst bs).2.1, (tst bs).2.2) 0).1 = nrm (bsum bs) := by
   rw [← ht, tfin, tstep, ho]
   simp
  rw [h3, h4]
set_option maxHeartbeats 400000 in
theorem total_any (v : Value) (rows : List (List Int)) (w : World) (hv : RowsV w v rows) :
  Calls Tryz.prog 98 #[v] w fun e w' => e = .returned (.int .u16 (nrm (bsum rows.flatten))) ∧ Grow w w' := by
 have hall := hv.bytes
 rcases hv with ⟨rfl, ao, cap, rfl, hcap⟩ | ⟨b, off, cap, rfl, hl, hcap, hc⟩
 ·exact total_none ao cap w
 ·unfold maxLen at hcap
  have hs := totSt_start w
  have I0 : TotInv w [] (((w.alloc (.cells #[.int .u16 0] 22)).alloc (.cells #[.int .u8 0] 5)).alloc (.cells #[.bool false] 4)) := ⟨hs, (((Grow.refl w).alloc _).alloc _).alloc _⟩
  clear hs
  have HC := Lib.hid hc
  clear hc
  go_enter Tryz.func98, Tryz.ntmps98
  go_wp2
  go_loopw [13] (fun i wr => ∃ k : Nat, k ≤ rows.length ∧ i = .int .i64 k ∧ TotInv w (rows.take k).flatten wr) (fun i _ => rows.length - (intOf i).toNat)
  case atStart => exact ⟨0, Nat.zero_le _, rfl, I0⟩
  case round =>
   clear I0
   obtain ⟨k, hk, rfl, hI⟩ := hrel
   by_cases hlt : k < rows.length
   ·obtain ⟨x, hx, hr⟩ := HC.out k hlt
    have hx' : wr.cell? ⟨b, off + k, none⟩ = some x := (hI.2.cell (block_lt hx)).trans hx
    obtain ⟨hrb, ⟨hr0, ao, rc, rfl, hrc, _⟩ | ⟨rb, ro, rc, rfl, hrl, hrc, hrr⟩⟩ := hr
    ·have e0 : (rows.take (k + 1)).flatten = (rows.take k).flatten := by rw [flat_succ rows k hlt, hr0, List.append_nil]
     have HI := Lib.hid hI
     clear hI
     have E0 := Lib.hid e0
     clear e0 hr0
     go_wp2
     refine wp_loop_rounds 1 ?_
     rw [rounds_succ]
     go_wp2
     go_roundw
     case rel => exact ⟨k + 1, by omega, by go_num, by rw [E0.out]; exact HI.out⟩
     case measure => simp [intOf]; omega
    ·have HR := Lib.hid hrr
     clear hrr
     unfold maxLen at hrc
     have hlen : 0 ≤ ((rows.getD k []).length : Int) := by omega
     generalize hrow : rows.getD k [] = row at *
     have E0 : Hid ((rows.take (k + 1)).flatten = (rows.take k).flatten ++ row) := by rw [← hrow]; exact flat_succ rows k hlt
     clear hrow
     have hbs : Bytes (rows.take k).flatten := (hall.take k).flat
     go_wp2
     obtain ⟨wo, HO⟩ : ∃ wo : World, Hid (wo = wr) := ⟨_, rfl⟩
     go_loopw [19] (fun j wr => ∃ m : Nat, m ≤ row.length ∧ j = .int .i64 m ∧ TotInv w ((rows.take k).flatten ++ row.take m) wr) (fun j _ => row.length - (intOf j).toNat)
     case atStart => exact ⟨0, Nat.zero_le _, rfl, by simpa using hI⟩
     case round =>
      clear hI hx'
      obtain ⟨m, hm, rfl, hJ⟩ := hrel
      by_cases hlt2 : m < row.length
      ·have hy := HR.out m hlt2
       have hy' := (hJ.2.cell (block_lt hy)).trans hy
       have hyb := Bytes.getD hrb m
       have hsn := take_succ' row m 0 hlt2
       generalize row.getD m 0 = y at *
       clear hy
       have HS := Lib.hid hsn
       clear hsn
       have HJ := Lib.hid hJ
       have HB := Lib.hid (hbs.append (hrb.take m))
       clear hJ
       go_wp2_with (go_at_call 114; refine (TotInv.take HJ.out HB.out hyb.1 hyb.2).mono ?_; rintro e w' ⟨rfl, hK⟩; have HK := Lib.hid hK; clear hK)
       go_roundw
       case rel => exact ⟨m + 1, by omega, by go_num, by rw [HS.out, ← List.append_assoc]; exact HK.out⟩
       case measure => simp [intOf]; omega
      ·have hmm : row.take m = row := List.take_of_length_le (by omega)
       rw [hmm] at hJ
       have HJ := Lib.hid hJ
       clear hJ hmm
       go_wp2
       go_roundw
       case rel => exact ⟨k + 1, by omega, by go_num, by rw [E0.out]; exact HJ.out⟩
       case measure => simp [intOf]; omega
   ·have hkl : rows.take k = rows := List.take_of_length_le (by omega)
    rw [hkl] at hI
    have hf := finish hall.flat hI
    obtain ⟨n, odd, c3, hf⟩ := hf
    have HF := Lib.hid hf
    clear hf hI hkl
    cases odd
    ·have cn := HF.out.1
     have HN := HF.out.2.1 rfl
     go_wp2
     go_ret
     exact ⟨ret_int HN.out, HF.out.2.2.2⟩
    ·have HC := HF.out.2.2.1 rfl
     go_wp2_with (go_at_call 114; refine (HC.out).mono ?_; rintro e w' ⟨rfl, hK, hG⟩; have HG := Lib.hid hG; clear hG)
     go_ret
     exact ⟨rfl, HG.out⟩
theorem check_any (v : Value) (rows : List (List Int)) (w : World) (hv : RowsV w v rows) :
  Calls Tryz.prog 76 #[v] w fun e w' => e = .returned (.int .u16 (65535 - nrm (bsum rows.flatten))) ∧ Grow w w' := by
 have hb := nrm_bd (bsum rows.flatten)
 have e1 := not16 hb.1 hb.2
 go_enter Tryz.func76, Tryz.ntmps76
 go_wp2_with fail
 refine (total_any v rows _ hv).mono ?_; rintro e w' ⟨rfl, hg⟩
 have HG := Lib.hid hg
 clear hg
 go_wp2
 go_ret
 exact ⟨rfl, HG.out⟩
end
end Go.Proofs.YtgckhdepnmiejaaGreat
namespace Go.Proofs.YtgckhdepnmiejaaGreat
section
set_option maxRecDepth 100000
open Go.RowKit
set_option maxHeartbeats 1000000 in
theorem good_yes {w : World} {v : Value} {zs : List Int} (hv : BytesV w v zs) (hn : nrm (bsum zs) = 65535) : Calls Tryz.prog 51 #[v] w fun e w' => e = .returned (.bool true) ∧ Grow w w' := by
 obtain ⟨ao, cap, rfl, h1, h2⟩ := hv.shape
 have hr := rows_new (w := w) [.slice ao zs.length cap] [zs] 25 rfl (by simp [maxLen]) (fun i x hx => by
  match i, hx with
  | 0, hx => simp at hx; subst hx; exact hv)
 simp only [List.length_cons, List.length_nil, Nat.zero_add] at hr
 have hck := check_any _ _ _ hr
 have e : 65535 - nrm (bsum [zs].flatten) = 0 := by simp [hn]
 rw [e] at hck
 have HC := Lib.hid hck
 have HG : Hid (Grow w (w.alloc (.cells #[.slice ao zs.length cap] 25))) := (Grow.refl w).alloc _
 clear hck hr e hv hn
 generalize zs.length = m at *
 go_enter Tryz.func51, Tryz.ntmps51
 go_wp2_with fail
 with_reducible refine HC.out.mono ?_
 rintro e w1 ⟨rfl, hg⟩
 have HG1 := Lib.hid (HG.out.trans hg)
 clear hg
 go_wp2_with fail
 go_ret
 exact ⟨by first | rfl | simp, HG1.out⟩
theorem and15 {S : Nat} (h : 5 ≤ S ∧ S ≤ 15) : bits .and .u8 (64 + (S : Int)) 15 = S := by
 have : S = 5 ∨ S = 6 ∨ S = 7 ∨ S = 8 ∨ S = 9 ∨ S = 10 ∨ S = 11 ∨ S = 12 ∨ S = 13 ∨ S = 14 ∨ S = 15 := by omega
 rcases this with rfl | rfl | rfl | rfl | rfl | rfl | rfl | rfl | rfl | rfl | rfl <;> decide +kernel
/-- Facts of a packet's bytes in memory that walks lean on. -/
structure PktAt (w : World) (b off L cap Z S : Nat) (zs : List Int) (h : Hd) (pl : List Int) : Prop where
 raw : Raw h
 by_ : Bytes pl
 eq : zs = pkt h pl
 len : zs.length = L
 z : Z = 20 + h.os.length
 lz : L = Z + pl.length
 max : L ≤ 65535
 capL : L ≤ cap
 capM : cap ≤ maxLen
 s4 : 4 * S = Z
 s : 5 ≤ S ∧ S ≤ 15
 cell : ∀ i, i < L → w.cell? ⟨b, off + i, none⟩ = some (.int .u8 (zs.getD i 0))
theorem pktAt_of {w : World} {v : Value} {h : Hd} {pl : List Int} (r : Raw h) (hp : Bytes pl) (hl : 20 + h.os.length + pl.length ≤ 65535) (hv : BytesV w v (pkt h pl)) :
  ∃ b off L cap Z S, v = .slice (some ⟨b, off, none⟩) L cap ∧ PktAt w b off L cap Z S (pkt h pl) h pl := by
 obtain ⟨b, off, cap, rfl, h1, h2⟩ := hv.2.solid (fun e => by have := congrArg List.length e; rw [pkt_length] at this; simp at this)
 have h4 := r.four
 have h40 := r.len
 refine ⟨b, off, _, cap, 20 + h.os.length, (20 + h.os.length) / 4, rfl, r, hp, rfl, rfl, rfl, pkt_length h pl, by rw [pkt_length]; exact hl, h1, h2, by omega, by omega, hv.2.cells⟩
theorem PktAt.mono {w w' : World} {b off L cap Z S : Nat} {zs : List Int} {h : Hd} {pl : List Int} (p : PktAt w b off L cap Z S zs h pl) (hg : Grow w w') : PktAt w' b off L cap Z S zs h pl :=
 ⟨p.raw, p.by_, p.eq, p.len, p.z, p.lz, p.max, p.capL, p.capM, p.s4, p.s, fun i hi => (hg.cell (block_lt (p.cell i hi))).trans (p.cell i hi)⟩
theorem PktAt.bytes {w : World} {b off L cap Z S : Nat} {zs : List Int} {h : Hd} {pl : List Int} (p : PktAt w b off L cap Z S zs h pl) : BytesV w (.slice (some ⟨b, off, none⟩) L cap) zs :=
 ⟨by rw [p.eq]; exact pkt_bytes p.raw p.by_, Or.inr ⟨b, off, cap, by rw [p.len], by rw [p.len]; exact p.capL, p.capM, fun i hi => p.cell i (by rw [← p.len]; exact hi)⟩⟩
theorem PktAt.num {w : World} {b off L cap Z S : Nat} {zs : List Int} {h : Hd} {pl : List Int} (p : PktAt w b off L cap Z S zs h pl) (lo k : Nat) (hk : 1 ≤ k ∧ k ≤ 8) (hlo : lo + k ≤ 20) :
  Calls Tryz.prog 33 #[.slice (some ⟨b, off + lo, none⟩) k (cap - lo)] w fun e w' => e = .returned (.int .u64 (beN ((zs.drop lo).take k))) ∧ w = w' := by
 have hz := p.z; have hlz := p.lz; have hl := p.len; have hc := p.capL; have hcm := p.capM
 unfold maxLen at hcm
 have hs := bytes_sub p.bytes lo (lo + k) (by omega) (by omega)
 rw [show lo + k - lo = k by omega] at hs
 exact number_any b (off + lo) (cap - lo) k _ w hs.1 hs.2.cells (by rw [List.length_take, List.length_drop]; omega) hk (by omega) (by unfold maxLen; omega)
set_option maxHeartbeats 4000000 in
theorem wrong_none {w : World} {b off L cap Z S : Nat} {zs : List Int} {h : Hd} {pl : List Int} (p : PktAt w b off L cap Z S zs h pl) :
  Calls Tryz.prog 32 #[.slice (some ⟨b, off, none⟩) L cap] w fun e w' => e = .returned (.int .i64 0) ∧ Grow w w' := by
 have hz := p.z; have hlz := p.lz; have hmax := p.max; have hcap := p.capL; have hcm := p.capM; have hs4 := p.s4; have hS := p.s; have hmo := p.raw.len
 have HN : Hid (∀ x, Grow w x → Calls Tryz.prog 33 #[.slice (some ⟨b, off + 2, none⟩) 2 (cap - 2)] x fun e w' => e = .returned (.int .u64 (L : Int)) ∧ x = w') := fun x hx => by
  have := (p.mono hx).num 2 2 (by omega) (by omega)
  rw [p.eq, pkt_tot, beN_bel2 (by omega)] at this
  rwa [show (20 + (h.os.length : Int) + pl.length) = (L : Int) by omega] at this
 have HGd : Hid (∀ x, Grow w x → Calls Tryz.prog 51 #[.slice (some ⟨b, off, none⟩) Z cap] x fun e w' => e = .returned (.bool true) ∧ Grow x w') := fun x hx => by
  have hs := bytes_sub (p.mono hx).bytes 0 Z (by omega) (by rw [p.len]; omega)
  simp only [Nat.sub_zero, Nat.add_zero, List.drop_zero] at hs
  rw [hz, p.eq, pkt_hdr] at hs
  rw [hz]
  exact good_yes hs (hdr_good p.raw _)
 have HO : Hid (∀ x, Grow w x → Calls Tryz.prog 13 #[.slice (if cap = 20 then some ⟨b, off, none⟩ else some ⟨b, off + 20, none⟩) (Z - 20) (cap - 20)] x fun e w' => ∃ u, e = .returned (.tuple #[u, .bool true]) ∧ Grow x w') := fun x hx => by
  have h0 : 0 < x.heap.size := Nat.lt_of_le_of_lt (Nat.zero_le _) (block_lt ((p.mono hx).cell 0 (by omega)))
  refine opts_good (os := h.os) (w := x) ?_ (by omega) p.raw.good x (Grow.refl _) h0
  by_cases hc : cap = 20
  ·rw [if_pos hc]
   have e : h.os = [] := List.eq_nil_of_length_eq_zero (by omega)
   rw [e]
   exact ⟨Bytes.nil, Or.inl ⟨rfl, some ⟨b, off, none⟩, cap - 20, by rw [show Z - 20 = 0 by omega], by unfold maxLen at *; omega, fun hh => by cases hh⟩⟩
  ·rw [if_neg hc]
   have hs := bytes_sub (p.mono hx).bytes 20 Z (by omega) (by rw [p.len]; omega)
   have e : ((zs.drop 20).take (Z - 20)) = h.os := by rw [p.eq, show Z - 20 = h.os.length by omega]; exact pkt_os h pl
   rwa [e] at hs
 have hx0 := p.cell 0 (by omega)
 rw [p.eq, pkt_0] at hx0
 have e0 : (64 : Int) + (20 + (h.os.length : Int)) / 4 = 64 + (S : Int) := by omega
 rw [e0] at hx0
 have hA := and15 hS
 obtain ⟨x, hx⟩ : ∃ x, 64 + (S : Int) = x := ⟨_, rfl⟩
 have hsh : (x / 16 != 4) = false := by
  have : x / 16 = 4 := by omega
  rw [this]; rfl
 have hxb : 0 ≤ x ∧ x < 256 := by omega
 rw [hx] at hx0 hA
 rw [Nat.add_zero] at hx0
 have HX0 := Lib.hid hx0
 have hsz : 4 * (S : Int) = (Z : Int) := by omega
 have i1 : (20 : Int) ≤ (L : Int) := by omega
 have i2 : (L : Int) ≤ (cap : Int) := by omega
 have i3 : (20 : Int) ≤ (Z : Int) := by omega
 have i4 : (Z : Int) ≤ (L : Int) := by omega
 have i5 : (4 : Int) ≤ (cap : Int) := by omega
 have i6 : 0 < L := by omega
 have i7 : (Z : Int) ≤ (cap : Int) := by omega
 have i8 : (L : Int) ≤ 65535 := by omega
 have i9 : (Z : Int) ≤ 60 := by omega
 have j2 : ¬ cap = 2 := by omega
 have hwL : IntKind.i64.wrap (L : Int) = (L : Int) := IntWalk.i64_in _ (by omega)
 have hwS : IntKind.i64.wrap (S : Int) = (S : Int) := IntWalk.i64_in _ (by omega)
 have HG0 : Hid (Grow w w) := Grow.refl w
 unfold maxLen at hcm
 clear p hz hlz hmax hmo hx e0 hS hs4 hx0
 go_enter Tryz.func32, Tryz.ntmps32
 go_wp2_with fail
 refine wpRg 12 ?_
 simp only [List.take_succ_cons, List.take_zero, List.drop_succ_cons, List.drop_zero]
 repeat (refine wpHp fun K hK => ?_; go_simp; refine hK _ ?_; clear hK K)
 refine wpHd (.int .u8 x) (fun w' hg => ?_) ?_
 ·have hx := (hg.below.cell (block_lt HX0.out)).trans HX0.out
  clear hg
  go_simp
  exact Below.refl _ _
 try go_simp
 repeat (refine wpHp fun K hK => ?_; go_simp; refine hK _ ?_; clear hK K)
 refine wpHd (.int .u64 (L : Int)) (fun w' hg => ?_) ?_
 ·have h := HN.out w' hg.below
  clear hg
  go_simp
  with_reducible refine h.mono ?_
  rintro e w1 ⟨rfl, rfl⟩
  exact ⟨_, rfl, rfl, Below.refl _ _⟩
 try go_simp
 repeat (refine wpHp fun K hK => ?_; go_simp; refine hK _ ?_; clear hK K)
 refine wpH_nil ?_
 intro xs w1 hg hx1 hx2
 have HG1 := Lib.hid (HG0.out.trans hg.below)
 have hx1' := (hg.below.cell (block_lt HX0.out)).trans HX0.out
 clear hx1 hx2 hg
 simp only [fill]
 go_simp
 go_wp2_with fail
 have HC := Lib.hid (HGd.out w1 HG1.out)
 clear hx1'
 with_reducible refine HC.out.mono ?_
 rintro e w2 ⟨rfl, hg⟩
 have HG2 := Lib.hid (HG1.out.trans hg)
 clear hg HC
 go_wp2_with fail
 ·have h := HO.out w2 HG2.out
  have hc : cap = 20 := by assumption
  rw [if_pos hc, hc] at h
  have HC := Lib.hid h
  clear h
  with_reducible refine HC.out.mono ?_
  rintro e w3 ⟨u, rfl, hg⟩
  have HG3 := Lib.hid (HG2.out.trans hg)
  clear hg HC
  go_wp2_with fail
  go_ret
  exact ⟨by first | rfl | simp, HG3.out⟩
 ·have h := HO.out w2 HG2.out
  rw [if_neg (by assumption)] at h
  have HC := Lib.hid h
  clear h
  with_reducible refine HC.out.mono ?_
  rintro e w3 ⟨u, rfl, hg⟩
  have HG3 := Lib.hid (HG2.out.trans hg)
  clear hg HC
  go_wp2_with fail
  go_ret
  exact ⟨by first | rfl | simp, HG3.out⟩
end
end Go.Proofs.YtgckhdepnmiejaaGreat
namespace Go.Proofs.YtgckhdepnmiejaaGreat
section
set_option maxRecDepth 100000
open Go.RowKit
theorem own_row {w : World} {base : Nat} {e : TypeId} {v : Value} {n : Nat} {xs : List Value} (h : w.ownsRow base e 1 v n xs) (hn : 0 < n) :
  ∃ g cap cur, v = .slice (some ⟨g, 0, none⟩) n cap ∧ base ≤ g ∧ w.heap[g]? = some (.cells cur e (0, 0)) ∧ n ≤ cap ∧ cap ≤ maxLen ∧ cur.size = cap ∧ cur.toList.take n = xs := by
 obtain ⟨h1, h2⟩ := h
 rcases h2 with ⟨_, h2⟩ | ⟨g, cap, cur, e1, e2, e3, e4, e5, e6, e7⟩
 ·omega
 ·exact ⟨g, cap, cur, e1, e2, e3, e4, e5, by simpa using e6, by simpa using e7⟩
theorem own_of_row {w : World} {base g cap n : Nat} {e : TypeId} {cur : Array Value} {xs : List Value} (e2 : base ≤ g) (e3 : w.heap[g]? = some (.cells cur e (0, 0))) (e4 : n ≤ cap) (e5 : cap ≤ maxLen) (e6 : cur.size = cap) (e7 : cur.toList.take n = xs) :
  w.ownsRow base e 1 (.slice (some ⟨g, 0, none⟩) n cap) n xs := by
 refine ⟨?_, Or.inr ⟨g, cap, cur, rfl, e2, e3, e4, e5, by simpa using e6, by simpa using e7⟩⟩
 rw [← e7, List.length_take]
 simp only [Array.length_toList]
 omega
theorem splice_take {α : Type} (l cs : List α) (off n : Nat) (h : off + cs.length ≤ n) (h2 : n ≤ l.length) : (splice l off cs).take n = (l.take n).take off ++ cs ++ (l.take n).drop (off + cs.length) := by
 unfold splice
 rw [List.take_append, List.take_append, List.take_take, List.take_take, List.length_take, show min n off = off by omega, show min off l.length = off by omega, show min off n = off by omega, List.take_of_length_le (show cs.length ≤ n - off by omega), List.append_assoc]
 congr 2
 rw [List.drop_take]
 congr 1
 omega
/-- The first 'c2.length' bytes from 'off' on are others. -/
def putB (fb : List Int) (off : Nat) (c : List Int) : List Int := fb.take off ++ c ++ fb.drop (off + c.length)
theorem wpList_put2 {P : Program} {w : World} {ops : Array Oper} {rest : List Oper} {o : Oper} {a : Act} {Q : Exit → Act → World → Prop} (hgd : o.guard = none) (d s : Operand) (t e : TypeId)
  (ho : o.op = .call { callee := .builtin .copy, args := #[d, s], argTypes := #[t, t] }) (hu : P.underlying t = some (.slice e)) (hsz : (P.info? e).map (·.size) = some 1)
  (g n cap off dLen dCap : Nat) (hd : a.eval d = .slice (some ⟨g, off, none⟩) dLen dCap) (src : Value) (hs : a.eval s = src) (c : List Int) (k : Nat) (hc : c.length = k) (hk : 0 < k) (hsv : BytesV w src c) (h2 : k ≤ dLen)
  (base : Nat) (w0 : World) (fb : List Int) (hr : w.ownsRow base e 1 (.slice (some ⟨g, 0, none⟩) n cap) n (fb.map (Value.int .u8))) (hoff : off + k ≤ n) (hb : Below base w0 w)
  (h : ∀ w' v, Hid (w'.ownsRow base e 1 (.slice (some ⟨g, 0, none⟩) n cap) n ((putB fb off c).map (Value.int .u8))) → Below base w0 w' → wpList P ops Q rest (a.put o.dst v) w') :
  wpList P ops Q (o :: rest) a w := by
 obtain ⟨g', cap', cur, he, hbg, hcur, hncp, hcpm, hcsz, hct⟩ := own_row hr (by omega)
 injection he with h1 h3 h4
 injection h1 with h1
 injection h1 with h1
 subst h1; subst h4
 have hcl : cur.toList.length = cap := by simpa using hcsz
 obtain ⟨b48, o48, c48, rfl, _, _⟩ := hsv.2.solid (fun e => by rw [e] at hc; simp at hc; omega)
 have hl := hsv.2.cells
 refine wpList_copy_splice (w := w) hgd d s t t ho e hu hsz (some ⟨g, off, none⟩) (some ⟨b48, o48, none⟩) dLen dCap c.length c48 hd hs g off cur.toList e (by simpa using hcur) (c.map (Value.int .u8)) (by rw [List.length_map]; exact (Nat.min_eq_left (by omega)).symm)
  (fun _ => ⟨rfl, _, rfl, fun j v hj => ?_⟩) (by rw [List.length_map]; omega) (fun v hv => ?_) base w0 hb hbg ?_
 ·have hj2 : j < c.length := by
   rcases Nat.lt_or_ge j c.length with h | h
   ·exact h
   ·rw [List.getElem?_eq_none (by rw [List.length_map]; exact h)] at hj; cases hj
  rw [List.getElem?_map] at hj
  have hcc := hl j hj2
  have e : c[j]? = some (c.getD j 0) := by simp [hj2]
  rw [e] at hj
  simp only [Option.map_some, Option.some.injEq] at hj
  subst hj
  rw [Addr.add_lit]
  exact hcc
 ·obtain ⟨_, _, rfl⟩ := List.mem_map.1 hv
  rfl
 intro w4 HR4 hb4
 refine h w4 _ ?_ hb4
 show World.ownsRow _ _ _ _ _ _ _
 refine own_of_row hbg HR4.out hncp hcpm ?_ ?_
 ·simp only [List.size_toArray]
  rw [length_splice _ _ _ (by rw [List.length_map]; omega), hcl]
 ·simp only [List.toList_toArray]
  rw [splice_take _ _ _ _ (by rw [List.length_map]; omega) (by rw [hcl]; exact hncp), hct]
  unfold putB
  rw [List.map_append, List.map_append, List.map_take, List.map_drop, List.length_map]
/-- A cell of a row is set. -/
theorem own_set {w : World} {base g n cap i : Nat} {e : TypeId} {xs : List Value} (h : w.ownsRow base e 1 (.slice (some ⟨g, 0, none⟩) n cap) n xs) (hi : i < n) (v : Value) :
  (w.setCell ⟨g, i, none⟩ v).ownsRow base e 1 (.slice (some ⟨g, 0, none⟩) n cap) n (xs.set i v) := by
 obtain ⟨g', cap', cur, he, hbg, hcur, hncp, hcpm, hcsz, hct⟩ := own_row h (by omega)
 injection he with h1 h3 h4
 injection h1 with h1
 injection h1 with h1
 subst h1; subst h4
 refine own_of_row hbg (heap_setCell_same w g i cur e v hcur) hncp hcpm (by simpa using hcsz) ?_
 rw [← hct, Array.toList_setIfInBounds, List.take_set]
theorem own_base {w : World} {base g n cap : Nat} {e : TypeId} {xs : List Value} (h : w.ownsRow base e 1 (.slice (some ⟨g, 0, none⟩) n cap) n xs) (hn : 0 < n) : base ≤ g := by
 obtain ⟨g', cap', cur, he, hbg, _⟩ := own_row h hn
 injection he with h1 h3 h4
 injection h1 with h1
 injection h1 with h1
 subst h1
 exact hbg
end
end Go.Proofs.YtgckhdepnmiejaaGreat
namespace Go.Proofs.YtgckhdepnmiejaaGreat
section
set_option maxRecDepth 100000
open Go.RowKit
theorem own_less {w : World} {base base' n : Nat} {e : TypeId} {v : Value} {xs : List Value} (h : w.ownsRow base e 1 v n xs) (hb : base' ≤ base) : w.ownsRow base' e 1 v n xs := by
 obtain ⟨h1, h2⟩ := h
 refine ⟨h1, ?_⟩
 rcases h2 with h2 | ⟨g, cap, cur, e1, e2, e3⟩
 ·exact Or.inl h2
 ·exact Or.inr ⟨g, cap, cur, e1, Nat.le_trans hb e2, e3⟩
theorem own_stays {w w' : World} {base n : Nat} {e : TypeId} {v : Value} {xs : List Value} (h : w.ownsRow base e 1 v n xs) (hg : Grow w w') : w'.ownsRow base e 1 v n xs := by
 obtain ⟨h1, h2⟩ := h
 refine ⟨h1, ?_⟩
 rcases h2 with h2 | ⟨g, cap, cur, e1, e2, e3, e4⟩
 ·exact Or.inl h2
 ·exact Or.inr ⟨g, cap, cur, e1, e2, (hg.block _ (lt_of_block e3)).trans e3, e4⟩
theorem change_any (c m n : Int) (w : World) (hc : 0 ≤ c) (hc' : c < 65536) (hm : 0 ≤ m) (hm' : m < 65536) (hn : 0 ≤ n) (hn' : n < 65536) :
  Calls Tryz.prog 92 #[.int .u16 c, .int .u16 m, .int .u16 n] w fun e w' => e = .returned (.int .u16 (65535 - addc (addc (65535 - c) (65535 - m)) n)) ∧ w = w' := by
 have e1 := not16 hc hc'
 have e2 := not16 hm hm'
 have b1 := addc_bd (x := 65535 - c) (y := 65535 - m) (by omega) (by omega) (by omega) (by omega)
 have b2 := addc_bd b1.1 b1.2 hn hn'
 have e3 := not16 b2.1 b2.2
 go_enter Tryz.func92, Tryz.ntmps92
 go_wp2_with fail
 refine (add_any _ _ _ (by omega) (by omega) (by omega) (by omega)).mono ?_; rintro e w' ⟨rfl, rfl⟩
 go_wp2_with fail
 refine (add_any _ _ _ b1.1 b1.2 hn hn').mono ?_; rintro e w' ⟨rfl, rfl⟩
 go_wp2
 go_ret
 exact ⟨rfl, rfl⟩
theorem less_list (h : Hd) (pl : List Int) : putB ((pkt h pl).set 8 (h.ttl - 1)) 10 (bel 2 (ckH h.less pl.length)) = pkt h.less pl := by
 rw [pkt_eq, pkt_eq, bel2']
 rfl
set_option maxHeartbeats 4000000 in
theorem less_any {w : World} {b off L cap Z S : Nat} {zs : List Int} {h : Hd} {pl : List Int} (p : PktAt w b off L cap Z S zs h pl) (h1 : 1 ≤ h.ttl) (hL : L ≤ 10000) :
  Calls Tryz.prog 66 #[.slice (some ⟨b, off, none⟩) L cap] w fun e w' => ∃ u, e = .returned (.tuple #[u, .int .i64 0]) ∧ NewBytes w (pkt h.less pl) u w' := by
 have HWr := Lib.hid (wrong_none p)
 have HP := Lib.hid p
 have hz := p.z; have hlz := p.lz; have hcap := p.capL; have hcm := p.capM; have hlen := p.len
 have httl := p.raw.ttl; have hpr := p.raw.proto
 unfold U8 at httl hpr
 obtain ⟨t, ht⟩ : ∃ t, h.ttl = t := ⟨_, rfl⟩
 obtain ⟨W, hW⟩ : ∃ W, 256 * h.ttl + h.proto = W := ⟨_, rfl⟩
 obtain ⟨C, hC⟩ : ∃ C, ckH h pl.length = C := ⟨_, rfl⟩
 obtain ⟨D, hD⟩ : ∃ D, ckH h.less pl.length = D := ⟨_, rfl⟩
 have hCb := ckH_bd h pl.length
 have hDb := ckH_bd h.less pl.length
 have hWb : 256 ≤ W ∧ W < 65536 := by omega
 have HDC : Hid (65535 - addc (addc (65535 - C) (65535 - W)) (W - 256) = D) := by
  have := less_ck p.raw pl.length h1
  show _ = _
  rw [hC, hW, hD] at this
  exact this
 rw [hC] at hCb
 rw [hD] at hDb
 have HN1 : Hid (∀ x, Grow w x → Calls Tryz.prog 33 #[.slice (some ⟨b, off + 8, none⟩) 2 (cap - 8)] x fun e w' => e = .returned (.int .u64 W) ∧ x = w') := fun x hx => by
  have := (p.mono hx).num 8 2 (by omega) (by omega)
  rw [p.eq, pkt_tp] at this
  rwa [show beN [h.ttl, h.proto] = W by simp only [beN, List.foldl_cons, List.foldl_nil]; omega] at this
 have HN2 : Hid (∀ x, Grow w x → Calls Tryz.prog 33 #[.slice (some ⟨b, off + 10, none⟩) 2 (cap - 10)] x fun e w' => e = .returned (.int .u64 C) ∧ x = w') := fun x hx => by
  have := (p.mono hx).num 10 2 (by omega) (by omega)
  rw [p.eq, pkt_ck, hC, beN_bel2 hCb] at this
  exact this
 have HCl : Hid (∀ x, Grow w x → Calls Tryz.prog 27 #[.slice (some ⟨b, off, none⟩) L cap] x fun e w' => ∃ u, e = .returned u ∧ NewBytes x zs u w') := fun x hx => clone_any (p.mono hx).bytes hL
 have HCh : Hid (∀ x, Calls Tryz.prog 92 #[.int .u16 C, .int .u16 W, .int .u16 (W - 256)] x fun e w' => e = .returned (.int .u16 D) ∧ x = w') := fun x => by
  have := change_any C W (W - 256) x (by omega) (by omega) (by omega) (by omega) (by omega) (by omega)
  rwa [HDC.out] at this
 have HPu : Hid (∀ x, Calls Tryz.prog 74 #[.int .u64 D, .int .i64 2] x fun e w' => ∃ v, e = .returned v ∧ NewBytes x (bel 2 D) v w') := fun x => iput_2 D x hDb
 have hx8 := p.cell 8 (by omega)
 rw [p.eq, pkt_8, ht] at hx8
 have HX8 := Lib.hid hx8
 have HZ8 : Hid (zs.getD 8 0 = t) := by show _ = _; rw [p.eq, pkt_8, ht]
 have HBz : Hid (Bytes zs) := by show Bytes _; rw [p.eq]; exact pkt_bytes p.raw p.by_
 have HRes : Hid (putB (zs.set 8 (t - 1)) 10 (bel 2 D) = pkt h.less pl) := by show _ = _; rw [p.eq, ← ht, ← hD]; exact less_list h pl
 have HRl : Hid ((pkt h.less pl).length = L) := by show _ = _; rw [pkt_length, show h.less.os = h.os from rfl]; omega
 have hlenH := Lib.hid hlen
 have i0 : (t == 0) = false := by rw [beq_eq_false_iff_ne]; omega
 have i1 : IntKind.u16.wrap W = W := by rw [wrap16]; omega
 have i2 : IntKind.u16.wrap C = C := by rw [wrap16]; omega
 have i3 : IntKind.u16.wrap (W - 256) = W - 256 := by rw [wrap16]; omega
 have i4 : IntKind.u64.wrap D = D := by simp [IntKind.wrap, IntKind.signed, IntKind.bits]; omega
 have i5 : IntKind.u8.wrap (t - 1) = t - 1 := by simp [IntKind.wrap, IntKind.signed, IntKind.bits]; omega
 have j0 : 20 ≤ L := by omega
 have j1 : (8 : Int) < (L : Int) := by omega
 have j2 : (12 : Int) ≤ (cap : Int) := by omega
 have j4 : ¬ cap = 8 := by omega
 have j5 : ¬ cap = 10 := by omega
 have j6 : (10 : Int) ≤ (L : Int) := by omega
 have HG0 : Hid (Grow w w) := Grow.refl w
 have HJ := Lib.hid j0
 have hCm := Lib.hid hcap
 unfold maxLen at hcm
 clear p hz hlz hcap hlen httl hpr ht hW hC hD hCb hDb hWb h1 hL hx8 HDC j0
 go_enter Tryz.func66, Tryz.ntmps66
 go_wp2_with fail
 with_reducible refine HWr.out.mono ?_
 rintro e w1 ⟨rfl, hg⟩
 have HG1 := Lib.hid hg
 have hx8 := (hg.cell (block_lt HX8.out)).trans HX8.out
 clear hg
 go_wp2_with fail
 have HC := Lib.hid (HCl.out w1 HG1.out)
 clear hx8
 with_reducible refine HC.out.mono ?_
 rintro e w2 ⟨u, rfl, hown, hg⟩
 have HG2 := Lib.hid (HG1.out.trans hg)
 have hown := own_less hown (HG1.out.size)
 rw [hlenH.out] at hown
 clear hg HC
 obtain ⟨g, cp, cur, rfl, hbg, hcur, hncp, hcpm, hcsz, hct⟩ := own_row hown (by have := HJ.out; omega)
 have HB := Lib.hid (show BytesV w2 _ zs from ⟨HBz.out, ints_of_owns hown⟩)
 have hc8 : w2.cell? ⟨g, 8, none⟩ = some (.int .u8 t) := by
  have := HB.out.2.cells 8 (by rw [hlenH.out]; have := HJ.out; omega)
  rw [HZ8.out] at this
  simpa using this
 have HC8 := Lib.hid hc8
 have HOwn := Lib.hid hown
 have HBG := Lib.hid hbg
 have k1 : (L : Int) ≤ (cp : Int) := by omega
 have k2 : ¬ cp = 10 := by have := HJ.out; omega
 have k3 : (10 : Int) ≤ (cp : Int) := by omega
 unfold maxLen at hcpm
 clear hown hcur hncp hcsz hct hbg hc8
 go_wp2_with fail
 have HC := Lib.hid (HN1.out w2 HG2.out)
 with_reducible refine HC.out.mono ?_
 rintro e w3 ⟨rfl, rfl⟩
 have hc8 := HC8.out
 have hf8 := HOwn.out.frozenAt 8
 clear HC
 go_wp2_with fail
 have HO4 : Hid ((w2.setCell ⟨g, 8, none⟩ (.int .u8 (t - 1))).ownsRow w.heap.size 5 1 (.slice (some ⟨g, 0, none⟩) L cp) L ((zs.set 8 (t - 1)).map (Value.int .u8))) := by
  show World.ownsRow _ _ _ _ _ _ _
  rw [List.map_set]
  exact own_set HOwn.out (by have := HJ.out; omega) _
 have HG4 : Hid (Grow w (w2.setCell ⟨g, 8, none⟩ (.int .u8 (t - 1)))) := HG2.out.setCell HBG.out _
 clear hc8 hf8
 refine wpRg 12 ?_
 simp only [List.take_succ_cons, List.take_zero, List.drop_succ_cons, List.drop_zero]
 repeat (refine wpHp fun K hK => ?_; go_simp; refine hK _ ?_; clear hK K)
 refine wpHd (.int .u64 C) (fun w' hg => ?_) ?_
 ·have h := HN2.out w' (HG4.out.trans hg.below)
  clear hg
  go_simp
  with_reducible refine h.mono ?_
  rintro e w1 ⟨rfl, rfl⟩
  exact ⟨_, rfl, rfl, Below.refl _ _⟩
 try go_simp
 repeat (refine wpHp fun K hK => ?_; go_simp; refine hK _ ?_; clear hK K)
 refine wpHd (.int .u16 D) (fun w' hg => ?_) ?_
 ·have h := HCh.out w'
  clear hg
  go_simp
  with_reducible refine h.mono ?_
  rintro e w1 ⟨rfl, rfl⟩
  exact ⟨_, rfl, rfl, Below.refl _ _⟩
 try go_simp
 repeat (refine wpHp fun K hK => ?_; go_simp; refine hK _ ?_; clear hK K)
 refine wpH_hid' (fun u x => BytesV x u (bel 2 D)) (by intro _ _ h; cases h) rfl (by rfl) (bytes_stay _) (by rfl) (by rfl) (fun w' hg => ?_) ?_
 ·have h := HPu.out w'
  clear hg
  go_simp
  with_reducible refine h.mono ?_
  rintro e w1 ⟨v, rfl, h⟩
  exact ⟨_, rfl, newb_bytes h (bel_bytes _ _), h.2⟩
 try go_simp
 refine wpH_nil ?_
 intro xs w5 hg hx1 hx2
 have hy := hx2 _ _ (List.Mem.head _)
 try dsimp only at hy
 clear hx1 hx2
 have HG5 := Lib.hid (HG4.out.trans hg.below)
 have HO5 := Lib.hid (own_stays HO4.out hg.below)
 have HY := Lib.hid hy
 clear hg hy
 simp only [fill]
 generalize xs 37 = y37 at *
 go_simp
 refine wpList_put2 rfl _ _ 25 5 rfl Tryz.underlying25 (by kernel_rfl) g L cp 10 (L - 10) (cp - 10) rfl y37 rfl (bel 2 D) 2 (bel_length _ _) (by omega) HY.out (by have := HJ.out; omega) w.heap.size w (zs.set 8 (t - 1)) HO5.out (by have := HJ.out; omega) HG5.out ?_
 rw [HRes.out]
 intro w6 v HO6 hb6
 have HR : Hid (NewBytes w (pkt h.less pl) (.slice (some ⟨g, 0, none⟩) L cp) w6) := ⟨by rw [HRl.out]; exact HO6.out, hb6⟩
 clear hb6
 go_wp2_with fail
 go_ret2
 exact ⟨_, rfl, HR.out⟩
end
end Go.Proofs.YtgckhdepnmiejaaGreat
namespace Go.Proofs.YtgckhdepnmiejaaGreat
section
set_option maxRecDepth 100000
open Go.RowKit
theorem and_bit (x i : Nat) (h : x < 65536) (hi : i < 16) : bits .and .u64 (x : Int) ((2 ^ i : Nat) : Int) = (((x / 2 ^ i % 2) * 2 ^ i : Nat) : Int) := by
 have hp : 2 ^ i < 65536 := Nat.pow_lt_pow_right (by omega) (show i < 16 from hi)
 rw [u64_and_nat x (2 ^ i) (by omega) (by omega), nat_bit]
theorem and_low (x : Nat) (h : x < 65536) : bits .and .u64 (x : Int) 8191 = ((x % 8192 : Nat) : Int) := by
 have := u64_and_nat x 8191 (by omega) (by omega)
 rw [show (8191 : Int) = ((8191 : Nat) : Int) from rfl, this, show (8191 : Nat) = 2 ^ 13 - 1 from rfl, Nat.and_two_pow_sub_one_eq_mod]
theorem fw_nat {h : Hd} (r : Raw h) : ∃ n k : Nat, fwH h = (n : Int) ∧ h.off = (k : Int) ∧ k < 8192 ∧ n = (if h.evil then 32768 else 0) + (if h.df then 16384 else 0) + (if h.mf then 8192 else 0) + k := by
 have := r.off
 refine ⟨((if h.evil then 32768 else 0) + (if h.df then 16384 else 0) + (if h.mf then 8192 else 0) + h.off.toNat), h.off.toNat, ?_, by omega, by omega, rfl⟩
 unfold fwH
 cases h.evil <;> cases h.df <;> cases h.mf <;> simp <;> omega
theorem fw_plain (n k : Nat) (e d m : Bool) (hk : k < 8192) (h : n = (if e then 32768 else 0) + (if d then 16384 else 0) + (if m then 8192 else 0) + k) :
  n < 65536 ∧ n / 32768 % 2 = e.toNat ∧ n / 16384 % 2 = d.toNat ∧ n / 8192 % 2 = m.toNat ∧ n % 8192 = k := by
 cases e <;> cases d <;> cases m <;> simp at h ⊢ <;> omega
theorem fw_bits {h : Hd} (r : Raw h) : (bits .and .u64 (fwH h) 32768 != 0) = h.evil ∧ (bits .and .u64 (fwH h) 16384 != 0) = h.df ∧ (bits .and .u64 (fwH h) 8192 != 0) = h.mf ∧ bits .and .u64 (fwH h) 8191 = h.off := by
 obtain ⟨n, k, e1, e2, hk, e3⟩ := fw_nat r
 obtain ⟨hn, c1, c2, c3, c4⟩ := fw_plain n k h.evil h.df h.mf hk e3
 rw [e1, e2]
 have a1 : bits .and .u64 (n : Int) 32768 = ((n / 32768 % 2 * 32768 : Nat) : Int) := and_bit n 15 hn (by omega)
 have a2 : bits .and .u64 (n : Int) 16384 = ((n / 16384 % 2 * 16384 : Nat) : Int) := and_bit n 14 hn (by omega)
 have a3 : bits .and .u64 (n : Int) 8192 = ((n / 8192 % 2 * 8192 : Nat) : Int) := and_bit n 13 hn (by omega)
 rw [a1, a2, a3, and_low n hn, c1, c2, c3, c4]
 refine ⟨?_, ?_, ?_, rfl⟩
 ·cases h.evil <;> rfl
 ·cases h.df <;> rfl
 ·cases h.mf <;> rfl
end
end Go.Proofs.YtgckhdepnmiejaaGreat
