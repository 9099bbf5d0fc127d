/- A store of the call's own. -/
import Derived.Test.YtajmfgadbphjbaaStWrite
import Derived.Laws.BytesArg
set_option linter.unusedVariables false
namespace Go.Proofs.Ytajmfgadbphjbaa
open Go.RowKit

/-- A slice of bytes as a string. -/
theorem str_of {w : World} {v : Value} {zs : List Int} (h : BytesV w v zs) : (convert 23 9 v).run Try.prog w = .ok (.string (strOfNums zs)) w := by
  rcases h.2 with ⟨rfl, ao, cap, rfl, _⟩ | ⟨b, off, cap, rfl, _, _, hc⟩
  · cases ao with
    | none => exact run_convert_bytes_nil w _ 5 rfl rfl 0 cap _ rfl
    | some a =>
      rw [run_convert_bytes_string w _ _ 5 _ 0 cap rfl rfl rfl, run_bytesToString w a 0 cap [] (by simp [loadCells]; rfl)]
      rfl
  · exact run_convert_bytes_arg w _ 5 rfl rfl b off zs.length cap zs rfl hc _ rfl

/-- New bytes stay whatever the store does. -/
theorem held_new {P g : Nat} {w : World} (hP : P < w.heap.size) (hg : g < w.heap.size) (l : List Value) (zs : List Int) (T : TypeId) (hl : l = zs.map (Value.int .u8)) (hb : Bytes zs) (hm : zs.length ≤ maxLen) :
    Held P g (w.alloc (.cells l.toArray T)) (.slice (some ⟨w.heap.size, 0, none⟩) zs.length zs.length) zs := by
  intro w' hw
  refine ⟨hb, Or.inr ⟨w.heap.size, 0, zs.length, rfl, Nat.le_refl _, hm, fun i hi => ?_⟩⟩
  rw [Nat.zero_add]
  have hc := cell_new w l T i (.int .u8 (zs.getD i 0)) (by subst hl; simp [hi])
  unfold World.cell? at hc ⊢
  rw [hw.block w.heap.size (by simp) (by simp only [Own]; omega)]
  exact hc


/-- A store of the call's own: what it is, and that elder memory stands. -/
structure Mine (w0 w : World) (P g : Nat) (st : St) : Prop where
  store : StoreV w P g st
  below : Below w0.heap.size w0 w
  hP : w0.heap.size ≤ P
  hg : w0.heap.size ≤ g

theorem Mine.turn {w0 w w' : World} {P g : Nat} {st st' : St} (h : Mine w0 w P g st) (hs : StoreV w' P g st') (hg : GrowBut (Own P g) w w') : Mine w0 w' P g st' := by
  refine ⟨hs, ?_, h.hP, h.hg⟩
  have h1 := h.hP
  have h2 := h.hg
  exact ⟨hg.os.trans h.below.os, hg.tape.trans h.below.tape, hg.output.trans h.below.output, Nat.le_trans h.below.size hg.size, fun k hk => (hg.block k (Nat.lt_of_lt_of_le hk h.below.size) (by simp only [Own]; omega)).trans (h.below.block k hk)⟩

theorem Mine.grow {w0 w w' : World} {P g : Nat} {st : St} (h : Mine w0 w P g st) (hg : Grow w w') : Mine w0 w' P g st :=
  ⟨h.store.stay (M := fun _ => False) (GrowBut.of_below hg) id id, h.below.trans (Below.mono hg h.below.size), h.hP, h.hg⟩

theorem Mine.alloc {w0 w : World} {P g : Nat} {st : St} (h : Mine w0 w P g st) (o : Obj) : Mine w0 (w.alloc o) P g st := h.grow ((Grow.refl w).alloc o)

theorem Mine.of_new {w w' : World} {P g n : Nat} (hs : StoreV w' P g (St.fresh n)) (hg : Grow w w') (h1 : w.heap.size ≤ P) (h2 : w.heap.size ≤ g) : Mine w w' P g (St.fresh n) := ⟨hs, hg, h1, h2⟩

theorem mine_write {w0 w : World} {P g : Nat} {st : St} (h : Mine w0 w P g st) (k : Nat) (v : Value) (zs : List Int) (hv : Held P g w v zs) (hk : k + zs.length ≤ st.cells.length) (hd : st.dead = false) (st' : St) (r : Int) (h1 : wrote st k zs = st') (h2 : (if st'.dead then (7 : Int) else 0) = r) :
    Calls Try.prog 13 #[.pointer (some ⟨P, 0, none⟩), .int .i64 k, v] w fun e w' => e = .returned (.int .i64 r) ∧ Mine w0 w' P g st' ∧ GrowBut (Own P g) w w' := by
  refine (write_any h.store k v zs hv hk hd).mono ?_
  rintro e w' ⟨rfl, hs, hg⟩
  subst h1
  exact ⟨by rw [wrRes, h2], h.turn hs hg, hg⟩

theorem mine_fuse {w0 w : World} {P g : Nat} {st : St} (h : Mine w0 w P g st) (n by' : Int) (u : Bool) (hn : -9223372036854775808 ≤ n ∧ n ≤ 9223372036854775807) (hb : 0 ≤ by' ∧ by' < 256) :
    Calls Try.prog 23 #[.pointer (some ⟨P, 0, none⟩), .int .i64 n, .int .u8 by', .bool u] w fun e w' => e = .returned (.tuple #[]) ∧ Mine w0 w' P g { st with fuse := max n (-1), tb := by', tu := u } ∧ GrowBut (Own P g) w w' :=
  (fuse_any h.store n by' u hn hb).mono fun e w' ⟨a, b, c⟩ => ⟨a, h.turn b c, c⟩

theorem mine_raise {w0 w : World} {P g : Nat} {st : St} (h : Mine w0 w P g st) :
    Calls Try.prog 27 #[.pointer (some ⟨P, 0, none⟩)] w fun e w' => e = .returned (.tuple #[]) ∧ Mine w0 w' P g { st with dead := false, fuse := -1 } ∧ GrowBut (Own P g) w w' :=
  (raise_any h.store).mono fun e w' ⟨a, b, c⟩ => ⟨a, h.turn b c, c⟩

/-- What is read where all can be read. -/
def GoodRead (w0 : World) (P g : Nat) (st : St) (zs : List Int) (w : World) (e : Ending) (w' : World) : Prop :=
  ∃ v, e = .returned (.tuple #[v, .int .i64 0]) ∧ BytesV w' v zs ∧ Mine w0 w' P g st ∧ Grow w w'

theorem mine_read {w0 w : World} {P g : Nat} {st : St} (h : Mine w0 w P g st) (k m : Nat) (hk : k + m ≤ st.cells.length) (hd : st.dead = false) (zs : List Int) (h1 : part st k m = zs.map fun z => (z, false)) :
    Calls Try.prog 16 #[.pointer (some ⟨P, 0, none⟩), .int .i64 k, .int .i64 m] w (GoodRead w0 P g st zs w) := by
  refine (read_any h.store k m hk hd).mono ?_
  rintro e w' ⟨v, err, rfl, hr, hg⟩
  have ha : (part st k m).any (·.2) = false := by rw [h1]; induction zs <;> simp_all
  unfold readRes at hr
  rw [if_neg (by rw [ha]; decide)] at hr
  obtain ⟨rfl, hb⟩ := hr
  refine ⟨v, rfl, ?_, h.grow hg, hg⟩
  rw [h1] at hb
  simpa [Function.comp_def] using hb

end Go.Proofs.Ytajmfgadbphjbaa
