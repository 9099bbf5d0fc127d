/- Reads of one byte. -/
import Derived.Test.YtajmfgadbphjbaaStBoth
import Derived.Test.YtajmfgadbphjbaaOpenInts
set_option linter.unusedVariables false
set_option linter.unusedSimpArgs false
namespace Go.Proofs.Ytajmfgadbphjbaa
open Go.RowKit

theorem Grow.drewN {a b : World} (h : Grow a b) (n : Nat) : Grow a (b.drewN n) := ⟨h.os, h.tape, h.output, h.size, h.block⟩

theorem part_one {st : St} {k : Nat} (hk : k < st.cells.length) : part st k 1 = [st.cells.getD k (0, false)] := by
  unfold part
  rw [List.drop_eq_getElem_cons hk, List.take_succ_cons, List.take_zero]; simp [hk]

def OneByte (x : Int) (w : World) (e : Ending) (w' : World) : Prop :=
  ∃ bb oo cp : Nat, e = .returned (.tuple #[.slice (some ⟨bb, oo, none⟩) 1 cp, .int .i64 0]) ∧ w'.cell? ⟨bb, oo, none⟩ = some (.int .u8 x) ∧ Grow w w'

theorem read1_ok {w : World} {P g : Nat} {st : St} (h : StoreV w P g st) (k : Nat) (hk : k < st.cells.length) (hd : st.dead = false) (x : Int) (hx : st.cells.getD k (0, false) = (x, false)) :
    Calls Try.prog 16 #[.pointer (some ⟨P, 0, none⟩), .int .i64 k, .int .i64 1] w (OneByte x w) := by
  refine (read_any h k 1 (by omega) hd).mono ?_
  rintro e w' ⟨v, err, rfl, hr, hg⟩
  unfold readRes at hr
  rw [part_one hk, hx, if_neg (by simp)] at hr
  obtain ⟨rfl, hb⟩ := hr
  obtain ⟨bb, oo, cp, rfl, _, _, hc⟩ := hb.2.solidC (by simp)
  exact ⟨bb, oo, cp, rfl, by simpa using hc 0 (by simp), hg⟩

theorem read1_torn {w : World} {P g : Nat} {st : St} (h : StoreV w P g st) (k : Nat) (hk : k < st.cells.length) (hd : st.dead = false) (x : Int) (hx : st.cells.getD k (0, false) = (x, true)) :
    Calls Try.prog 16 #[.pointer (some ⟨P, 0, none⟩), .int .i64 k, .int .i64 1] w fun e w' => e = .returned (.tuple #[.slice none 0 0, .int .i64 8]) ∧ Grow w w' := by
  refine (read_any h k 1 (by omega) hd).mono ?_
  rintro e w' ⟨v, err, rfl, hr, hg⟩
  unfold readRes at hr
  rw [part_one hk, hx, if_pos (by simp)] at hr
  obtain ⟨rfl, rfl⟩ := hr
  exact ⟨rfl, hg⟩

end Go.Proofs.Ytajmfgadbphjbaa
