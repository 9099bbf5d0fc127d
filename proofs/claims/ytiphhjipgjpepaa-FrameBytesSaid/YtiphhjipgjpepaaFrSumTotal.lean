/- The contracts of Total's closure, of Total, of Check and of Good. -/
import Derived.Test.YtiphhjipgjpepaaFrSumAdd
import Derived.Test.YtiphhjipgjpepaaSumReads
import Derived.LoopTactic
import Derived.ChangeAlike
import Derived.Lib.Hide
set_option linter.unusedVariables false
namespace Go.Proofs.Ytiphhjipgjpepaa
open Go.RowKit

/-- The three captured variables of Total: the sum so far, the high byte, whether there is one. -/
structure TotSt (B : Nat) (s : Int × Int × Bool) (w : World) : Prop where
  n : w.heap[B]? = some (.cells #[.int .u16 s.1] 42 (0, 0))
  h : w.heap[B + 1]? = some (.cells #[.int .u8 s.2.1] 5 (0, 0))
  o : w.heap[B + 1 + 1]? = some (.cells #[.bool s.2.2] 4 (0, 0))

theorem heap_other {w : World} {b k : Nat} (u : Value) (h : k ≠ b) : (w.setCell ⟨b, 0, none⟩ u).heap[k]? = w.heap[k]? := Below.heap_setCell _ _ _ _ h

theorem below_put {B : Nat} {a w : World} (h : Below B a w) {b : Nat} (hp : B ≤ b) (u : Value) : Below B a (w.setCell ⟨b, 0, none⟩ u) := h.setCell hp u

theorem take_any (B : Nat) (b n h : Int) (odd : Bool) (w : World) (hs : TotSt B (n, h, odd) w) (hb : 0 ≤ b) (hb' : b < 256) (hn : 0 ≤ n) (hn' : n < 65536) (hh : 0 ≤ h) (hh' : h < 256) :
    Calls Try.prog 50 #[.int .u8 b, .pointer (some ⟨B + 1 + 1, 0, none⟩), .pointer (some ⟨B, 0, none⟩), .pointer (some ⟨B + 1, 0, none⟩)] w fun e w' => e = .returned (.tuple #[]) ∧ TotSt B (tstep (n, h, odd) b) w' ∧ Below B w w' := by
  obtain ⟨h1, h2, h3⟩ := hs
  have c1 := cell_of_one h1
  have f1 := free_of_one h1
  have c2 := cell_of_one h2
  have f2 := free_of_one h2
  have c3 := cell_of_one h3
  have f3 := free_of_one h3
  have H1 := Lib.hid h1
  have H2 := Lib.hid h2
  have H3 := Lib.hid h3
  clear h1 h2 h3
  cases odd
  · go_enter Try.func50, Try.ntmps50
    go_wp2
    go_region
    go_wp2
    go_end0
    refine ⟨rfl, ⟨?_, ?_, ?_⟩, ?_⟩
    · exact (heap_other _ (by omega)).trans ((heap_other _ (by omega)).trans H1.out)
    · exact (heap_other _ (by omega)).trans (one_setCell H2.out)
    · exact one_setCell ((heap_other _ (by omega)).trans H3.out)
    · exact (below_put (below_put (Below.refl _ _) (by omega) _) (by omega) _).drew
  · have ho := or16 hh hh' hb hb'
    go_enter Try.func50, Try.ntmps50
    go_wp2_with fail
    refine (add_any _ _ _ hn hn' (by omega) (by omega)).mono ?_; rintro e w' ⟨rfl, rfl⟩
    go_wp2
    go_region
    go_wp2
    go_end0
    refine ⟨rfl, ⟨?_, ?_, ?_⟩, ?_⟩
    · exact (heap_other _ (by omega)).trans ((heap_other _ (by omega)).trans (one_setCell H1.out))
    · exact (heap_other _ (by omega)).trans (one_setCell ((heap_other _ (by omega)).trans H2.out))
    · exact one_setCell ((heap_other _ (by omega)).trans ((heap_other _ (by omega)).trans H3.out))
    · exact (below_put (below_put (below_put (Below.refl _ _) (by omega) _) (by omega) _) (by omega) _).drew

theorem totSt_start (w : World) : TotSt w.heap.size (0, 0, false) (((w.alloc (.cells #[.int .u16 0] 42)).alloc (.cells #[.int .u8 0] 5)).alloc (.cells #[.bool false] 4)) := by
  refine ⟨?_, ?_, ?_⟩
  · rw [Below.heap_alloc _ _ _ (by simp; omega), Below.heap_alloc _ _ _ (by simp), heap_alloc_new]
  · rw [Below.heap_alloc _ _ _ (by simp)]
    have := heap_alloc_new (w.alloc (.cells #[.int .u16 0] 42)) (.cells #[.int .u8 0] 5)
    rwa [World.size_alloc] at this
  · have := heap_alloc_new ((w.alloc (.cells #[.int .u16 0] 42)).alloc (.cells #[.int .u8 0] 5)) (.cells #[.bool false] 4)
    rwa [World.size_alloc, World.size_alloc] at this

theorem take_succ' {α : Type} (l : List α) (k : Nat) (d : α) (h : k < l.length) : l.take (k + 1) = l.take k ++ [l.getD k d] := by
  rw [List.take_succ_eq_append_getElem h]; simp [h]

theorem flat_succ (rows : List (List Int)) (k : Nat) (h : k < rows.length) : (rows.take (k + 1)).flatten = (rows.take k).flatten ++ rows.getD k [] := by
  rw [take_succ' rows k [] h]; simp

/-- All bytes of rows are bytes. -/
def AllBytes (rows : List (List Int)) : Prop := ∀ r ∈ rows, Bytes r
theorem AllBytes.flat {rows : List (List Int)} (h : AllBytes rows) : Bytes rows.flatten := fun z hz => by
  obtain ⟨r, hr, hz⟩ := List.mem_flatten.1 hz
  exact h r hr z hz
theorem AllBytes.take {rows : List (List Int)} (h : AllBytes rows) (k : Nat) : AllBytes (rows.take k) := fun r hr => h r (List.mem_of_mem_take hr)
theorem AllBytes.getD {rows : List (List Int)} (h : AllBytes rows) (k : Nat) : Bytes (rows.getD k []) := by
  by_cases hk : k < rows.length
  · have : rows.getD k [] = rows[k] := by simp [hk]
    rw [this]; exact h _ (List.getElem_mem hk)
  · have : rows.getD k [] = [] := by simp [Nat.le_of_not_lt hk]
    rw [this]; exact Bytes.nil
theorem RowsV.bytes {w : World} {v : Value} {rows : List (List Int)} (h : RowsV w v rows) : AllBytes rows := by
  rcases h with ⟨rfl, _⟩ | ⟨b, off, cap, _, _, _, h4⟩
  · exact fun r hr => by cases hr
  · intro r hr
    obtain ⟨i, hi, rfl⟩ := List.mem_iff_getElem.1 hr
    obtain ⟨x, _, hx⟩ := h4 i hi
    have : rows.getD i [] = rows[i] := by simp [hi]
    rw [← this]; exact hx.1

/-- What the loops hold: the state behind the bytes 'bs'; memory that was there is as it was. -/
def TotInv (w : World) (bs : List Int) (wr : World) : Prop := TotSt w.heap.size (tst bs) wr ∧ Grow w wr

theorem TotInv.take {w wr : World} {bs : List Int} {b : Int} (h : TotInv w bs wr) (hbs : Bytes bs) (hb : 0 ≤ b) (hb' : b < 256) :
    Calls Try.prog 50 #[.int .u8 b, .pointer (some ⟨w.heap.size + 1 + 1, 0, none⟩), .pointer (some ⟨w.heap.size, 0, none⟩), .pointer (some ⟨w.heap.size + 1, 0, none⟩)] wr fun e w' => e = .returned (.tuple #[]) ∧ TotInv w (bs ++ [b]) w' := by
  have hd := tst_bd bs hbs
  refine (take_any w.heap.size b (tst bs).1 (tst bs).2.1 (tst bs).2.2 wr h.1 hb hb' hd.1.1 hd.1.2 hd.2.1 hd.2.2).mono ?_
  rintro e w' ⟨rfl, h1, h2⟩
  exact ⟨rfl, by rw [TotInv, tst_snoc]; exact ⟨h1, Below.trans h.2 h2⟩⟩

/-- A slice whose place does not matter, being empty. -/
theorem total_none (ao : Option Addr) (cap : Nat) (w : World) :
    Calls Try.prog 46 #[.slice ao 0 cap] w fun e w' => e = .returned (.int .u16 0) ∧ Grow w w' := by
  have hs := totSt_start w
  have c1 := cell_of_one hs.n
  have c3 := cell_of_one hs.o
  clear hs
  go_enter Try.func46, Try.ntmps46
  go_wp2
  refine wp_loop_rounds 1 ?_
  rw [rounds_succ]
  go_wp2
  go_ret
  exact ⟨rfl, (((Grow.refl w).alloc _).alloc _).alloc _⟩

/-- What is read behind the loops, and what a last byte of nought makes of it. -/
theorem finish {w wr : World} {bs : List Int} (hbs : Bytes bs) (hI : TotInv w bs wr) : ∃ (n : Int) (odd : Bool), wr.cell? ⟨w.heap.size + 1 + 1, 0, none⟩ = some (.bool odd) ∧
    (wr.cell? ⟨w.heap.size, 0, none⟩ = some (.int .u16 n) ∧ (odd = false → Hid (n = nrm (bsum bs))) ∧
    (odd = true → Hid (Calls Try.prog 50 #[.int .u8 0, .pointer (some ⟨w.heap.size + 1 + 1, 0, none⟩), .pointer (some ⟨w.heap.size, 0, none⟩), .pointer (some ⟨w.heap.size + 1, 0, none⟩)] wr
      fun e w' => e = .returned (.tuple #[]) ∧ w'.cell? ⟨w.heap.size, 0, none⟩ = some (.int .u16 (nrm (bsum bs))) ∧ Grow w w')) ∧ Grow w wr) := by
  have ht := tfin_tst bs hbs
  have hd := tst_bd bs hbs
  refine ⟨(tst bs).1, (tst bs).2.2, cell_of_one hI.1.o, cell_of_one hI.1.n, fun ho => ?_, fun ho => ?_, hI.2⟩
  · show (tst bs).1 = _
    rw [← ht, tfin, ho]; rfl
  · refine (take_any w.heap.size 0 (tst bs).1 (tst bs).2.1 (tst bs).2.2 wr hI.1 (by omega) (by omega) hd.1.1 hd.1.2 hd.2.1 hd.2.2).mono ?_
    rintro e w' ⟨rfl, h1, h2⟩
    refine ⟨rfl, ?_, Below.trans hI.2 h2⟩
    have h3 := cell_of_one h1.n
    have h4 : (tstep ((tst bs).1, (tst bs).2.1, (tst bs).2.2) 0).1 = nrm (bsum bs) := by
      rw [← ht, tfin, tstep, ho]
      simp
    rw [h3, h4]

set_option maxHeartbeats 400000 in
theorem total_any (v : Value) (rows : List (List Int)) (w : World) (hv : RowsV w v rows) :
    Calls Try.prog 46 #[v] w fun e w' => e = .returned (.int .u16 (nrm (bsum rows.flatten))) ∧ Grow w w' := by
  have hall := hv.bytes
  rcases hv with ⟨rfl, ao, cap, rfl, hcap⟩ | ⟨b, off, cap, rfl, hl, hcap, hc⟩
  · exact total_none ao cap w
  · unfold maxLen at hcap
    have hs := totSt_start w
    have I0 : TotInv w [] (((w.alloc (.cells #[.int .u16 0] 42)).alloc (.cells #[.int .u8 0] 5)).alloc (.cells #[.bool false] 4)) := ⟨hs, (((Grow.refl w).alloc _).alloc _).alloc _⟩
    clear hs
    have HC := Lib.hid hc
    clear hc
    go_enter Try.func46, Try.ntmps46
    go_wp2
    go_loopw [13] (fun i wr => ∃ k : Nat, k ≤ rows.length ∧ i = .int .i64 k ∧ TotInv w (rows.take k).flatten wr) (fun i _ => rows.length - (intOf i).toNat)
    case atStart => exact ⟨0, Nat.zero_le _, rfl, I0⟩
    case round =>
      clear I0
      obtain ⟨k, hk, rfl, hI⟩ := hrel
      by_cases hlt : k < rows.length
      · obtain ⟨x, hx, hr⟩ := HC.out k hlt
        have hx' : wr.cell? ⟨b, off + k, none⟩ = some x := (hI.2.cell (block_lt hx)).trans hx
        obtain ⟨hrb, ⟨hr0, ao, rc, rfl, hrc, _⟩ | ⟨rb, ro, rc, rfl, hrl, hrc, hrr⟩⟩ := hr
        · have e0 : (rows.take (k + 1)).flatten = (rows.take k).flatten := by rw [flat_succ rows k hlt, hr0, List.append_nil]
          have HI := Lib.hid hI
          clear hI
          have E0 := Lib.hid e0
          clear e0 hr0
          go_wp2
          refine wp_loop_rounds 1 ?_
          rw [rounds_succ]
          go_wp2
          go_roundw
          case rel => exact ⟨k + 1, by omega, by go_num, by rw [E0.out]; exact HI.out⟩
          case measure => simp [intOf]; omega
        · have HR := Lib.hid hrr
          clear hrr
          unfold maxLen at hrc
          have hlen : 0 ≤ ((rows.getD k []).length : Int) := by omega
          generalize hrow : rows.getD k [] = row at *
          have E0 : Hid ((rows.take (k + 1)).flatten = (rows.take k).flatten ++ row) := by rw [← hrow]; exact flat_succ rows k hlt
          clear hrow
          have hbs : Bytes (rows.take k).flatten := (hall.take k).flat
          go_wp2
          obtain ⟨wo, HO⟩ : ∃ wo : World, Hid (wo = wr) := ⟨_, rfl⟩
          go_loopw [19] (fun j wr => ∃ m : Nat, m ≤ row.length ∧ j = .int .i64 m ∧ TotInv w ((rows.take k).flatten ++ row.take m) wr) (fun j _ => row.length - (intOf j).toNat)
          case atStart => exact ⟨0, Nat.zero_le _, rfl, by simpa using hI⟩
          case round =>
            clear hI hx'
            obtain ⟨m, hm, rfl, hJ⟩ := hrel
            by_cases hlt2 : m < row.length
            · have hy := HR.out m hlt2
              have hy' := (hJ.2.cell (block_lt hy)).trans hy
              have hyb := Bytes.getD hrb m
              have hsn := take_succ' row m 0 hlt2
              generalize row.getD m 0 = y at *
              clear hy
              have HS := Lib.hid hsn
              clear hsn
              have HJ := Lib.hid hJ
              have HB := Lib.hid (hbs.append (hrb.take m))
              clear hJ
              go_wp2_with (go_at_call 50; refine (TotInv.take HJ.out HB.out hyb.1 hyb.2).mono ?_; rintro e w' ⟨rfl, hK⟩; have HK := Lib.hid hK; clear hK)
              go_roundw
              case rel => exact ⟨m + 1, by omega, by go_num, by rw [HS.out, ← List.append_assoc]; exact HK.out⟩
              case measure => simp [intOf]; omega
            · have hmm : row.take m = row := List.take_of_length_le (by omega)
              rw [hmm] at hJ
              have HJ := Lib.hid hJ
              clear hJ hmm
              go_wp2
              go_roundw
              case rel => exact ⟨k + 1, by omega, by go_num, by rw [E0.out]; exact HJ.out⟩
              case measure => simp [intOf]; omega
      · have hkl : rows.take k = rows := List.take_of_length_le (by omega)
        rw [hkl] at hI
        have hf := finish hall.flat hI
        obtain ⟨n, odd, c3, hf⟩ := hf
        have HF := Lib.hid hf
        clear hf hI hkl
        cases odd
        · have cn := HF.out.1
          have HN := HF.out.2.1 rfl
          go_wp2
          go_ret
          exact ⟨ret_int HN.out, HF.out.2.2.2⟩
        · have HC := HF.out.2.2.1 rfl
          go_wp2_with (go_at_call 50; refine (HC.out).mono ?_; rintro e w' ⟨rfl, hK, hG⟩; have HG := Lib.hid hG; clear hG)
          go_ret
          exact ⟨rfl, HG.out⟩

theorem check_any (v : Value) (rows : List (List Int)) (w : World) (hv : RowsV w v rows) :
    Calls Try.prog 42 #[v] w fun e w' => e = .returned (.int .u16 (65535 - nrm (bsum rows.flatten))) ∧ Grow w w' := by
  have hb := nrm_bd (bsum rows.flatten)
  have e1 := not16 hb.1 hb.2
  go_enter Try.func42, Try.ntmps42
  go_wp2_with fail
  refine (total_any v rows _ hv).mono ?_; rintro e w' ⟨rfl, hg⟩
  have HG := Lib.hid hg
  clear hg
  go_wp2
  go_ret
  exact ⟨rfl, HG.out⟩

end Go.Proofs.Ytiphhjipgjpepaa
