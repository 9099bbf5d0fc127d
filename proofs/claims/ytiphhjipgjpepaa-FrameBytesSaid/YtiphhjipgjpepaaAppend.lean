/- append of a slice of numbers, whatever it is, to one that the call owns. -/
import Derived.Test.YtiphhjipgjpepaaSumReads
import Derived.Test.YtiphhjipgjpepaaDrawnUse
import Derived.LoopTactic
set_option linter.unusedVariables false
namespace Go.Proofs.Ytiphhjipgjpepaa
open Go.RowKit

theorem run_append_ints {P : Program} {w : World} {k : IntKind} (base : Nat) (t ty e : TypeId) (i : TypeInfo) (bytes : Nat) (ht : P.underlying t = some (.slice e)) (hi : P.info? e = some i) (hz : i.zero = some (.int k 0))
    (hsize : i.size = 1) (hby : i.bytes = bytes) (v : Value) (n : Nat) (xs : List Value) (hown : w.ownsRow base e 1 v n xs) (X : Value) (zs : List Int) (hX : IntsV k w X zs)
    (h63 : n + zs.length ≤ maxLen) (hbytes : (n + zs.length) * bytes ≤ 140737488355328) (hbase : base ≤ w.heap.size) :
    ∃ v' w', (Builtin.append_ #[t, t] ty #[v, X]).run P w = .ok v' w' ∧ w'.ownsRow base e 1 v' (n + zs.length) (xs ++ zs.map (Value.int k)) ∧ w.grownBy w' v.ownBlock := by
  rcases hX with ⟨rfl, ao, cap, rfl, _, hn⟩ | ⟨b, off, cap, rfl, _, _, hc⟩
  · cases ao with
    | none =>
      have := hn rfl
      subst this
      exact ⟨v, w, run_append_owned_none (P := P) (w := w) base t ty e i 1 ht hi v n xs hown, by simpa using hown, rfl, rfl, rfl, Nat.le_refl _, fun _ _ _ => rfl⟩
    | some a =>
      obtain ⟨v', w', h1, h2, h3, _⟩ := run_append_own (P := P) w base t ty e i (.int k 0) 1 bytes ht hi hz hsize hby rfl (by decide) v n xs hown a 0 cap [] (by simp) (by simp) (by simp) (by simpa using h63) (by simpa using hbytes) hbase
      exact ⟨v', w', h1, by simpa using h2, h3⟩
  · obtain ⟨v', w', h1, h2, h3, _⟩ := run_append_own (P := P) w base t ty e i (.int k 0) 1 bytes ht hi hz hsize hby rfl (by decide) v n xs hown ⟨b, off, none⟩ zs.length cap (zs.map (Value.int k)) (by simp)
      (fun j u hu => by
        have hj : j < zs.length := by
          rcases Nat.lt_or_ge j zs.length with h | h
          · exact h
          · rw [List.getElem?_eq_none (by simpa using h)] at hu; cases hu
        rw [Addr.add_lit, hc j hj]
        simpa [hj] using hu)
      (fun u hu => by obtain ⟨_, _, rfl⟩ := List.mem_map.1 hu; rfl) h63 hbytes hbase
    exact ⟨v', w', h1, h2, h3⟩

theorem wpList_append_ints {P : Program} {w : World} {k : IntKind} {ops : Array Oper} {rest : List Oper} {o : Oper} {a : Act} {Q : Exit → Act → World → Prop} (hgd : o.guard = none) (s x : Operand) (t : TypeId)
    (ho : o.op = .call { callee := .builtin .append, args := #[s, x], argTypes := #[t, t] })
    (base : Nat) (e : TypeId) (i : TypeInfo) (bytes : Nat) (ht : P.underlying t = some (.slice e)) (hi : P.info? e = some i) (hz : i.zero = some (.int k 0)) (hsize : i.size = 1) (hby : i.bytes = bytes)
    (v : Value) (n : Nat) (xs : List Value) (hs : a.eval s = v) (hown : w.ownsRow base e 1 v n xs) (X : Value) (zs : List Int) (hx : a.eval x = X) (hX : IntsV k w X zs)
    (h63 : n + zs.length ≤ maxLen) (hbytes : (n + zs.length) * bytes ≤ 140737488355328) (hbase : base ≤ w.heap.size)
    (h : ∀ v' w', w'.ownsRow base e 1 v' (n + zs.length) (xs ++ zs.map (Value.int k)) → w.grownBy w' v.ownBlock → wpList P ops Q rest (a.put o.dst v') w') : wpList P ops Q (o :: rest) a w :=
  wpList_plain hgd fun K hK => by
    obtain ⟨v', w', hr, h2, h3⟩ := run_append_ints (P := P) base t o.type e i bytes ht hi hz hsize hby v n xs hown X zs hX h63 hbytes hbase
    unfold Oper.wp execOp
    simp only [ho, resolve, invoke, builtin, Sem.run_bind, Sem.run_pure, Result.andThen_ok, List.map_toArray, List.map_cons, List.map_nil, hs, hx, hr]
    exact hK _ _ (h v' w' h2 h3)

theorem wp_append_ints {P : Program} {w : World} {k : IntKind} {o : Oper} {a : Act} {K : Act → World → Prop} {Q : Exit → Act → World → Prop} (s x : Operand) (t : TypeId)
    (ho : o.op = .call { callee := .builtin .append, args := #[s, x], argTypes := #[t, t] })
    (base : Nat) (e : TypeId) (i : TypeInfo) (bytes : Nat) (ht : P.underlying t = some (.slice e)) (hi : P.info? e = some i) (hz : i.zero = some (.int k 0)) (hsize : i.size = 1) (hby : i.bytes = bytes)
    (v : Value) (n : Nat) (xs : List Value) (hs : a.eval s = v) (hown : w.ownsRow base e 1 v n xs) (X : Value) (zs : List Int) (hx : a.eval x = X) (hX : IntsV k w X zs)
    (h63 : n + zs.length ≤ maxLen) (hbytes : (n + zs.length) * bytes ≤ 140737488355328) (hbase : base ≤ w.heap.size)
    (h : ∀ v' w', w'.ownsRow base e 1 v' (n + zs.length) (xs ++ zs.map (Value.int k)) → w.grownBy w' v.ownBlock → K (a.put o.dst v') w') : o.wp P a w K Q := by
  obtain ⟨v', w', hr, h2, h3⟩ := run_append_ints (P := P) base t o.type e i bytes ht hi hz hsize hby v n xs hown X zs hX h63 hbytes hbase
  unfold Oper.wp execOp
  simp only [ho, resolve, invoke, builtin, Sem.run_bind, Sem.run_pure, Result.andThen_ok, List.map_toArray, List.map_cons, List.map_nil, hs, hx, hr]
  exact h v' w' h2 h3

/-- At a step of a region that draws its order. -/
theorem step_append_ints {P : Program} {w : World} {k : IntKind} {ops : Array Oper} {o : Oper} {a : Act} {K : Act → World → Prop} {Q : Exit → Act → World → Prop} {E : Prop} (hgd : o.guard = none) (s x : Operand) (t : TypeId)
    (ho : o.op = .call { callee := .builtin .append, args := #[s, x], argTypes := #[t, t] })
    (base : Nat) (e : TypeId) (i : TypeInfo) (bytes : Nat) (ht : P.underlying t = some (.slice e)) (hi : P.info? e = some i) (hz : i.zero = some (.int k 0)) (hsize : i.size = 1) (hby : i.bytes = bytes)
    (v : Value) (n : Nat) (xs : List Value) (hs : a.eval s = v) (hown : w.ownsRow base e 1 v n xs) (X : Value) (zs : List Int) (hx : a.eval x = X) (hX : IntsV k w X zs)
    (h63 : n + zs.length ≤ maxLen) (hbytes : (n + zs.length) * bytes ≤ 140737488355328) (hbase : base ≤ w.heap.size)
    (h : ∀ v' w', w'.ownsRow base e 1 v' (n + zs.length) (xs ++ zs.map (Value.int k)) → w.grownBy w' v.ownBlock → K (a.put o.dst v') w') :
    if Region.wanted o (yielded ops a.tmps) = true then Oper.wp P o a w K Q else E := by
  have hw : Region.wanted o (yielded ops a.tmps) = true := by simp [Region.wanted, hgd]
  rw [if_pos hw]
  exact wp_append_ints s x t ho base e i bytes ht hi hz hsize hby v n xs hs hown X zs hx hX h63 hbytes hbase h

/-- In a region that draws its order, as an operation that makes new memory alone: append to nil. -/
theorem mild_append_nil {P : Program} {w : World} {k : IntKind} {o : Oper} {a : Act} {φ : Value → World → Prop} {R : World → Prop} (s x : Operand) (t : TypeId)
    (ho : o.op = .call { callee := .builtin .append, args := #[s, x], argTypes := #[t, t] })
    (base : Nat) (e : TypeId) (i : TypeInfo) (bytes : Nat) (ht : P.underlying t = some (.slice e)) (hi : P.info? e = some i) (hz : i.zero = some (.int k 0)) (hsize : i.size = 1) (hby : i.bytes = bytes)
    (hs : a.eval s = .slice none 0 0) (X : Value) (zs : List Int) (hx : a.eval x = X) (hX : IntsV k w X zs)
    (h63 : zs.length ≤ maxLen) (hbytes : zs.length * bytes ≤ 140737488355328) (hbase : base ≤ w.heap.size)
    (h : ∀ v' w', w'.ownsRow base e 1 v' zs.length (zs.map (Value.int k)) → Below w.heap.size w w' → φ v' w' ∧ R w') : mildAt P o a w φ R := by
  obtain ⟨v', w', hr, h2, h3⟩ := run_append_ints (P := P) base t o.type e i bytes ht hi hz hsize hby (.slice none 0 0) 0 [] (World.ownsRow_nil _ _ _ _) X zs hX (by simpa using h63) (by simpa using hbytes) hbase
  unfold mildAt execOp
  simp only [ho, resolve, invoke, builtin, Sem.run_bind, Sem.run_pure, Result.andThen_ok, List.map_toArray, List.map_cons, List.map_nil, hs, hx, hr]
  rw [Nat.zero_add, List.nil_append] at h2
  exact h v' w' h2 ⟨h3.os, h3.tape, h3.output, h3.size, fun q hq => h3.block q hq (by simp [Value.ownBlock])⟩

/-- What is owned stays owned while memory grows. -/
theorem owns_stay {base : Nat} {e : TypeId} {n : Nat} {xs : List Value} : ∀ (u : Value) (w w' : World), GrowBut NoBlock w w' → w.ownsRow base e 1 u n xs → w'.ownsRow base e 1 u n xs := fun u w w' h ho =>
  ho.kept (row := none) ⟨h.os, h.tape, h.output, h.size, fun q hq _ => h.block q hq id⟩ (by cases hv : u.ownBlock <;> simp)

/-- What the call owned, and grew by an append, is its own still; the rest is as it was. -/
theorem grow_by {w wr w1 : World} {e : TypeId} {v : Value} {n : Nat} {xs : List Value} (hg : Grow w wr) (hown : wr.ownsRow w.heap.size e 1 v n xs) (hgrow : wr.grownBy w1 v.ownBlock) : Grow w w1 :=
  Below.grown hg hgrow hg.size (fun j hj => (hown.lt j hj).1)
end Go.Proofs.Ytiphhjipgjpepaa
