/- Has a store these bytes? -/
import Derived.Test.YteakedikmaobfaaStDo2
import Derived.Test.YteakedikmaobfaaOpenInts
set_option linter.unusedVariables false
namespace Go.Proofs.Yteakedikmaobfaa
open Go.RowKit

theorem Grow.drewN {a b : World} (h : Grow a b) (n : Nat) : Grow a (b.drewN n) := ⟨h.os, h.tape, h.output, h.size, h.block⟩

theorem part_one {st : St} {k : Nat} (hk : k < st.cells.length) : part st k 1 = [st.cells.getD k (0, false)] := by
  unfold part
  rw [List.drop_eq_getElem_cons hk, List.take_succ_cons, List.take_zero]; simp [hk]

def OneByte (x : Int) (w : World) (e : Ending) (w' : World) : Prop :=
  ∃ bb oo cp : Nat, e = .returned (.tuple #[.slice (some ⟨bb, oo, none⟩) 1 cp, .int .i64 0]) ∧ w'.cell? ⟨bb, oo, none⟩ = some (.int .u8 x) ∧ Grow w w'

theorem read1_ok {w : World} {P g : Nat} {st : St} (h : StoreV w P g st) (k : Nat) (hk : k < st.cells.length) (hd : st.dead = false) (x : Int) (hx : st.cells.getD k (0, false) = (x, false)) :
    Calls Try.prog 11 #[.pointer (some ⟨P, 0, none⟩), .int .i64 k, .int .i64 1] w (OneByte x w) := by
  refine (read_any h k 1 (by omega) hd).mono ?_
  rintro e w' ⟨v, err, rfl, hr, hg⟩
  unfold readRes at hr
  rw [part_one hk, hx, if_neg (by simp)] at hr
  obtain ⟨rfl, hb⟩ := hr
  obtain ⟨bb, oo, cp, rfl, _, _, hc⟩ := hb.2.solidC (by simp)
  exact ⟨bb, oo, cp, rfl, by simpa using hc 0 (by simp), hg⟩

theorem read1_torn {w : World} {P g : Nat} {st : St} (h : StoreV w P g st) (k : Nat) (hk : k < st.cells.length) (hd : st.dead = false) (x : Int) (hx : st.cells.getD k (0, false) = (x, true)) :
    Calls Try.prog 11 #[.pointer (some ⟨P, 0, none⟩), .int .i64 k, .int .i64 1] w fun e w' => e = .returned (.tuple #[.slice none 0 0, .int .i64 8]) ∧ Grow w w' := by
  refine (read_any h k 1 (by omega) hd).mono ?_
  rintro e w' ⟨v, err, rfl, hr, hg⟩
  unfold readRes at hr
  rw [part_one hk, hx, if_pos (by simp)] at hr
  obtain ⟨rfl, rfl⟩ := hr
  exact ⟨rfl, hg⟩

set_option maxRecDepth 20000 in
set_option maxHeartbeats 2000000 in
theorem bytes_any {w0 w : World} {P g : Nat} {R : RAt} {st : St} (h : Both w0 w P g R st st) :
    Calls Try.prog 17 #[.pointer (some ⟨P, 0, none⟩), .pointer (some ⟨R.p, 0, none⟩)] w fun e w' => e = .returned (.bool true) ∧ Grow w w' := by
  have HB := Lib.hid h
  have hl := h.s.le
  have hp := h.s.pos
  obtain ⟨n, hn⟩ : ∃ n, st.cells.length = n := ⟨_, rfl⟩
  have HN := Lib.hid hn
  rw [hn] at hl hp
  obtain ⟨sr, hsr⟩ : ∃ sr, ({ st with dead := false, fuse := -1 } : St) = sr := ⟨_, rfl⟩
  have HC : Hid (sr.cells = st.cells ∧ sr.dead = false) := by rw [← hsr]; exact ⟨rfl, rfl⟩
  have HSR := Lib.hid hsr
  clear h hn hsr
  go_enter Try.func17, Try.ntmps17
  go_wp2_with fail
  refine (copy_any HB.out.s).mono ?_
  rintro e w1 ⟨P2, g2, rfl, hs, hg, hP2, hg2⟩
  have HS1 := Lib.hid hs
  have HG1 := Lib.hid hg
  have HPG : Hid (w.heap.size ≤ P2 ∧ w.heap.size ≤ g2) := ⟨hP2, hg2⟩
  clear hs hg hP2 hg2
  go_wp2_with fail
  refine (raise_any HS1.out).mono ?_
  rintro e w2 ⟨rfl, hs, hg⟩
  have HS2 : Hid (StoreV w2 P2 g2 sr) := by rw [← HSR.out]; exact hs
  have HG2 : Hid (Grow w w2) := by
    have h1 := HPG.out.1
    have h2 := HPG.out.2
    exact below_but HG1.out hg (fun k hk => by simp only [Own] at hk; omega)
  clear hs hg HS1 HG1
  go_wp2_with fail
  go_loopw [6] (fun i wr => ∃ k : Nat, k ≤ n ∧ i = .int .i64 k ∧ Hid (StoreV wr P2 g2 sr ∧ Grow w wr)) (fun i _ => n - (intOf i).toNat)
  case atStart => exact ⟨0, Nat.zero_le _, rfl, HS2.out, HG2.out⟩
  case round =>
    obtain ⟨k, hk, rfl, HI⟩ := hrel
    have HBr := Lib.hid (HB.out.grow HI.out.2)
    obtain ⟨cb, cu, ⟨hcb, hcu⟩, c0, c1, c2, c3, c4, c5, hf⟩ := HBr.out.r.cellsP
    rw [HN.out] at c0 c1 hcb hcu
    clear c2 c3 c4 c5 hf
    by_cases hlt : k < n
    · have hlt' : (k : Int) < (n : Int) := by omega
      obtain ⟨x, hx⟩ : ∃ x, st.cells.getD k (0, false) = x := ⟨_, rfl⟩
      obtain ⟨x, u⟩ := x
      have HX := Lib.hid hx
      clear hx
      cases u
      · have HRD := Lib.hid (read1_ok HI.out.1 k (by rw [HC.out.1, HN.out]; exact hlt) HC.out.2 x (by rw [HC.out.1]; exact HX.out))
        go_wp2_with fail
        refine HRD.out.mono ?_
        rintro e w3 ⟨bb, oo, cp, rfl, hb, hg⟩
        have HS3 : Hid (StoreV w3 P2 g2 sr ∧ Grow w w3) := ⟨HI.out.1.stay (M := NoBlock) (GrowBut.of_below hg) (fun h => h) (fun h => h), Grow.trans HI.out.2 hg⟩
        have HB3 := Lib.hid (HBr.out.grow hg)
        have d0 := (hg.cell (block_lt c0)).trans c0
        have d1 := (hg.cell (block_lt c1)).trans c1
        obtain ⟨g0, g1, _, _⟩ := HB3.out.r.cellsR k (by rw [HN.out]; exact hlt)
        rw [HX.out] at g0 g1
        dsimp only at g0 g1
        clear c0 c1 hg HRD HI HBr
        go_wp2_with fail
        go_quiet (fail)
        go_wp2_with fail
        go_roundw
        case rel => exact ⟨k + 1, by omega, by go_num, HS3.out.1.drewN _, HS3.out.2.drewN _⟩
        case measure => simp [intOf]; omega
      · have HRD := Lib.hid (read1_torn HI.out.1 k (by rw [HC.out.1, HN.out]; exact hlt) HC.out.2 x (by rw [HC.out.1]; exact HX.out))
        go_wp2_with fail
        refine HRD.out.mono ?_
        rintro e w3 ⟨rfl, hg⟩
        have HS3 : Hid (StoreV w3 P2 g2 sr ∧ Grow w w3) := ⟨HI.out.1.stay (M := NoBlock) (GrowBut.of_below hg) (fun h => h) (fun h => h), Grow.trans HI.out.2 hg⟩
        have HB3 := Lib.hid (HBr.out.grow hg)
        have d0 := (hg.cell (block_lt c0)).trans c0
        have d1 := (hg.cell (block_lt c1)).trans c1
        obtain ⟨g0, g1, _, _⟩ := HB3.out.r.cellsR k (by rw [HN.out]; exact hlt)
        rw [HX.out] at g0 g1
        dsimp only at g0 g1
        clear c0 c1 hg HRD HI HBr
        go_wp2_with fail
        go_quiet (fail)
        go_wp2_with fail
        go_roundw
        case rel => exact ⟨k + 1, by omega, by go_num, HS3.out.1.drewN _, HS3.out.2.drewN _⟩
        case measure => simp [intOf]; omega
    · have hkn : k = n := by omega
      subst hkn
      obtain ⟨_, _, _, _, _, _, _, _, e5, _⟩ := HBr.out.r.cellsP
      have HLE : Hid (∀ q, Calls Try.prog 23 #[.pointer (some ⟨P, 0, none⟩)] (wr.drewN q) fun e w' => e = .returned (.int .i64 k) ∧ w' = wr.drewN q) := fun q => by
        have := same_left (len_any (HBr.out.drewN q).s)
        rwa [HN.out] at this
      have HDE : Hid (∀ q, Calls Try.prog 13 #[.pointer (some ⟨P, 0, none⟩)] (wr.drewN q) fun e w' => e = .returned (.bool st.dead) ∧ w' = wr.drewN q) := fun q => same_left (dead_any (HBr.out.drewN q).s)
      generalize st.dead = dd at *
      go_wp2_with fail
      go_quiet ((first | (go_at_call 23; exact Calls.quiet_of_same (HLE.out _)) | (go_at_call 13; exact Calls.quiet_of_same (HDE.out _))))
      go_wp2_with fail
      go_ret
      exact ⟨rfl, HI.out.2.drewN _⟩
end Go.Proofs.Yteakedikmaobfaa
