/- frame's bytes: the closure that puts a number's bytes behind the others; the bytes of a frame. -/
import Derived.Test.YtiphhjipgjpepaaFrTag
import Derived.Test.YtiphhjipgjpepaaFrSumTotal
import Derived.Maps.AppendAt
import Derived.Outline
set_option linter.unusedVariables false
set_option linter.unusedSimpArgs false
namespace Go.Proofs.Ytiphhjipgjpepaa
open Go.RowKit

theorem run_append_ints_at {P : Program} {w : World} {k : IntKind} (base : Nat) (t ty e : TypeId) (i : TypeInfo) (bytes : Nat) (ht : P.underlying t = some (.slice e)) (hi : P.info? e = some i) (hz : i.zero = some (.int k 0))
    (hsize : i.size = 1) (hby : i.bytes = bytes) (v : Value) (n : Nat) (xs : List Value) (hown : w.ownsRow base e 1 v n xs) (X : Value) (zs : List Int) (hX : IntsV k w X zs)
    (h63 : n + zs.length ≤ maxLen) (hbytes : (n + zs.length) * bytes ≤ 140737488355328) (hbase : base ≤ w.heap.size) :
    ∃ v' w', (Builtin.append_ #[t, t] ty #[v, X]).run P w = .ok v' w' ∧ w'.ownsRow base e 1 v' (n + zs.length) (xs ++ zs.map (Value.int k)) ∧ w.grownBy w' v.ownBlock ∧ (v'.ownBlock = v.ownBlock ∨ v'.ownBlock = some w.heap.size) := by
  rcases hX with ⟨rfl, ao, cap, rfl, _, hn⟩ | ⟨b, off, cap, rfl, _, _, hc⟩
  · cases ao with
    | none =>
      have := hn rfl
      subst this
      exact ⟨v, w, run_append_owned_none (P := P) (w := w) base t ty e i 1 ht hi v n xs hown, by simpa using hown, ⟨rfl, rfl, rfl, Nat.le_refl _, fun _ _ _ => rfl⟩, Or.inl rfl⟩
    | some a =>
      obtain ⟨v', w', h1, h2, h3, _, h5⟩ := run_append_own_at (P := P) w base t ty e i (.int k 0) 1 bytes ht hi hz hsize hby rfl (by decide) v n xs hown a 0 cap [] (by simp) (by simp) (by simp) (by simpa using h63) (by simpa using hbytes) hbase
      exact ⟨v', w', h1, by simpa using h2, h3, h5⟩
  · obtain ⟨v', w', h1, h2, h3, _, h5⟩ := run_append_own_at (P := P) w base t ty e i (.int k 0) 1 bytes ht hi hz hsize hby rfl (by decide) v n xs hown ⟨b, off, none⟩ zs.length cap (zs.map (Value.int k)) (by simp)
      (fun j u hu => by
        have hj : j < zs.length := by
          rcases Nat.lt_or_ge j zs.length with h | h
          · exact h
          · rw [List.getElem?_eq_none (by simpa using h)] at hu; cases hu
        rw [Addr.add_lit, hc j hj]
        simpa [hj] using hu)
      (fun u hu => by obtain ⟨_, _, rfl⟩ := List.mem_map.1 hu; rfl) h63 hbytes hbase
    exact ⟨v', w', h1, h2, h3, h5⟩

theorem wpList_append_ints_at {P : Program} {w : World} {k : IntKind} {ops : Array Oper} {rest : List Oper} {o : Oper} {a : Act} {Q : Exit → Act → World → Prop} (hgd : o.guard = none) (s x : Operand) (t : TypeId)
    (ho : o.op = .call { callee := .builtin .append, args := #[s, x], argTypes := #[t, t] })
    (base : Nat) (e : TypeId) (i : TypeInfo) (bytes : Nat) (ht : P.underlying t = some (.slice e)) (hi : P.info? e = some i) (hz : i.zero = some (.int k 0)) (hsize : i.size = 1) (hby : i.bytes = bytes)
    (v : Value) (n : Nat) (xs : List Value) (hs : a.eval s = v) (hown : w.ownsRow base e 1 v n xs) (X : Value) (zs : List Int) (hx : a.eval x = X) (hX : IntsV k w X zs)
    (h63 : n + zs.length ≤ maxLen) (hbytes : (n + zs.length) * bytes ≤ 140737488355328) (hbase : base ≤ w.heap.size)
    (h : ∀ v' w', w'.ownsRow base e 1 v' (n + zs.length) (xs ++ zs.map (Value.int k)) → w.grownBy w' v.ownBlock → (v'.ownBlock = v.ownBlock ∨ v'.ownBlock = some w.heap.size) → wpList P ops Q rest (a.put o.dst v') w') : wpList P ops Q (o :: rest) a w :=
  wpList_plain hgd fun K hK => by
    obtain ⟨v', w', hr, h2, h3, h4⟩ := run_append_ints_at (P := P) base t o.type e i bytes ht hi hz hsize hby v n xs hown X zs hX h63 hbytes hbase
    unfold Oper.wp execOp
    simp only [ho, resolve, invoke, builtin, Sem.run_bind, Sem.run_pure, Result.andThen_ok, List.map_toArray, List.map_cons, List.map_nil, hs, hx, hr]
    exact hK _ _ (h v' w' h2 h3 h4)

/-- What the closure may write: new blocks, but for one. -/
def Mv (base A : Nat) : Nat → Prop := fun k => base ≤ k ∧ k ≠ A

/-- The captured variable, in block B, holds a slice of the call's own, of these bytes; it does not lie in B, nor in A. -/
def PutAt (w : World) (B base A : Nat) (zs : List Int) : Prop :=
  ∃ v, w.heap[B]? = some (.cells #[v] 26 (0, 0)) ∧ w.ownsRow base 5 1 v zs.length (zs.map (Value.int .u8)) ∧ v.ownBlock ≠ some B ∧ v.ownBlock ≠ some A

theorem PutAt.grow {w w' : World} {B base A : Nat} {zs : List Int} (h : PutAt w B base A zs) (hg : Grow w w') : PutAt w' B base A zs := by
  obtain ⟨v, h1, h2, h3, h4⟩ := h
  exact ⟨v, (hg.block _ (lt_of_block h1)).trans h1, own_grow h2 hg, h3, h4⟩

set_option maxHeartbeats 2000000 in
theorem put_closure {w : World} {B base A s : Nat} {n : Int} {zs ys : List Int} (HP : ∀ x, Calls Try.prog 41 #[.int .u64 n, .int .i64 s] x fun e w' => ∃ v, e = .returned (.tuple #[v, .int .i64 0]) ∧ NewBytes x ys v w')
    (h : PutAt w B base A zs) (hB : base ≤ B) (hBA : B ≠ A) (hA : A < w.heap.size) (hz : zs.length ≤ 100) (hy : ys.length ≤ 100) :
    Calls Try.prog 40 #[.int .u64 n, .int .i64 s, .pointer (some ⟨B, 0, none⟩)] w fun e w' => e = .returned (.tuple #[]) ∧ PutAt w' B base A (zs ++ ys) ∧ GrowBut (Mv base A) w w' := by
  obtain ⟨i0, hi, hz0, hz1, hz2⟩ := info_parts infoByte
  obtain ⟨v, h1, h2, h3, h4⟩ := h
  have H1 := Lib.hid h1
  have H2 := Lib.hid h2
  have HPh := Lib.hid HP
  have hBl := lt_of_block h1
  clear h1 h2 HP
  go_enter Try.func40, Try.ntmps40
  go_wp2_with fail
  refine (HPh.out _).mono ?_
  rintro e w1 ⟨u, rfl, hn⟩
  have hb1 := (hn.2.block _ (lt_of_block H1.out)).trans H1.out
  have c0 := cell_of_one hb1
  have HB1 := Lib.hid hb1
  have HO := Lib.hid (own_grow H2.out hn.2)
  have HI := Lib.hid (ints_of_owns hn.1)
  have HG1 := Lib.hid hn.2
  have hle : base ≤ w1.heap.size := by have := hn.2.size; omega
  clear hb1 hn
  go_wp2_with (at_builtin; refine wpList_append_ints_at (k := .u8) rfl _ _ 26 rfl base 5 i0 1 Try.underlying26 hi hz0 hz1 hz2 _ zs.length _ rfl HO.out _ ys rfl HI.out ?c3 ?c4 hle ?_)
  case c3 => unfold maxLen; omega
  case c4 => omega
  · intro v' w2 hown hgrow hob
    have hB2 : w2.heap[B]? = some (.cells #[v] 26 (0, 0)) := (hgrow.block B (lt_of_block HB1.out) (fun e => h3 e.symm)).trans HB1.out
    have c2 := cell_of_one hB2
    have f2 := free_of_one hB2
    have hs1 := HG1.out.size
    have hnB : v'.ownBlock ≠ some B := by
      rcases hob with e | e
      · rw [e]; exact h3
      · rw [e]; intro hh; injection hh with hh; omega
    have hnA : v'.ownBlock ≠ some A := by
      rcases hob with e | e
      · rw [e]; exact h4
      · rw [e]; intro hh; injection hh with hh; omega
    have hobv : ∀ j, v.ownBlock = some j → base ≤ j := fun j hj => (HO.out.lt j hj).1
    have HF : Hid (PutAt (w2.setCell ⟨B, 0, none⟩ v') B base A (zs ++ ys) ∧ GrowBut (Mv base A) w (w2.setCell ⟨B, 0, none⟩ v')) := by
      refine ⟨⟨v', one_setCell hB2, ?_, hnB, hnA⟩, ?_⟩
      · rw [List.length_append, List.map_append]
        obtain ⟨q1, q2⟩ := hown
        refine ⟨q1, ?_⟩
        rcases q2 with q2 | ⟨g, cap, cur, e1, e2, e3, e4⟩
        · exact Or.inl q2
        · refine Or.inr ⟨g, cap, cur, e1, e2, (Below.heap_setCell _ _ _ _ (fun hh => hnB (by rw [e1]; show some g = some B; rw [show g = B from hh]))).trans e3, e4⟩
      · have hg2 : GrowBut (Mv base A) w1 w2 := ⟨hgrow.os, hgrow.tape, hgrow.output, hgrow.size, fun k hk hm => hgrow.block k hk (fun e => hm ⟨hobv k e.symm, fun hh => h4 (by rw [← e, hh])⟩)⟩
        exact ((grow_but HG1.out).trans hg2).setCell (a := ⟨B, 0, none⟩) ⟨hB, hBA⟩ _
    have hsh := hown
    rw [← List.map_append] at hsh
    obtain ⟨ao, cp, rfl, _, _⟩ := (ints_of_owns hsh).shape
    clear hown hgrow hob hB2 hnB hnA hobv hsh
    rw [List.length_append] at HF ⊢
    go_wp2_with fail
    go_end0
    exact ⟨rfl, HF.out.1, HF.out.2⟩
end Go.Proofs.Ytiphhjipgjpepaa
