/- append of a slice of numbers, whatever it is, to one that the call owns. -/
import Derived.Test.YtjocnhifnijlcaaSumReads
import Derived.LoopTactic
set_option linter.unusedVariables false
namespace Go.Proofs.Ytjocnhifnijlcaa
open Go.RowKit

theorem run_append_ints {P : Program} {w : World} {k : IntKind} (base : Nat) (t ty e : TypeId) (i : TypeInfo) (bytes : Nat) (ht : P.underlying t = some (.slice e)) (hi : P.info? e = some i) (hz : i.zero = some (.int k 0))
    (hsize : i.size = 1) (hby : i.bytes = bytes) (v : Value) (n : Nat) (xs : List Value) (hown : w.ownsRow base e 1 v n xs) (X : Value) (zs : List Int) (hX : IntsV k w X zs)
    (h63 : n + zs.length ≤ maxLen) (hbytes : (n + zs.length) * bytes ≤ 140737488355328) (hbase : base ≤ w.heap.size) :
    ∃ v' w', (Builtin.append_ #[t, t] ty #[v, X]).run P w = .ok v' w' ∧ w'.ownsRow base e 1 v' (n + zs.length) (xs ++ zs.map (Value.int k)) ∧ w.grownBy w' v.ownBlock := by
  rcases hX with ⟨rfl, ao, cap, rfl, _, hn⟩ | ⟨b, off, cap, rfl, _, _, hc⟩
  · cases ao with
    | none =>
      have := hn rfl
      subst this
      exact ⟨v, w, run_append_owned_none (P := P) (w := w) base t ty e i 1 ht hi v n xs hown, by simpa using hown, rfl, rfl, rfl, Nat.le_refl _, fun _ _ _ => rfl⟩
    | some a =>
      obtain ⟨v', w', h1, h2, h3, _⟩ := run_append_own (P := P) w base t ty e i (.int k 0) 1 bytes ht hi hz hsize hby rfl (by decide) v n xs hown a 0 cap [] (by simp) (by simp) (by simp) (by simpa using h63) (by simpa using hbytes) hbase
      exact ⟨v', w', h1, by simpa using h2, h3⟩
  · obtain ⟨v', w', h1, h2, h3, _⟩ := run_append_own (P := P) w base t ty e i (.int k 0) 1 bytes ht hi hz hsize hby rfl (by decide) v n xs hown ⟨b, off, none⟩ zs.length cap (zs.map (Value.int k)) (by simp)
      (fun j u hu => by
        have hj : j < zs.length := by
          rcases Nat.lt_or_ge j zs.length with h | h
          · exact h
          · rw [List.getElem?_eq_none (by simpa using h)] at hu; cases hu
        rw [Addr.add_lit, hc j hj]
        simpa [hj] using hu)
      (fun u hu => by obtain ⟨_, _, rfl⟩ := List.mem_map.1 hu; rfl) h63 hbytes hbase
    exact ⟨v', w', h1, h2, h3⟩

theorem wpList_append_ints {P : Program} {w : World} {k : IntKind} {ops : Array Oper} {rest : List Oper} {o : Oper} {a : Act} {Q : Exit → Act → World → Prop} (hgd : o.guard = none) (s x : Operand) (t : TypeId)
    (ho : o.op = .call { callee := .builtin .append, args := #[s, x], argTypes := #[t, t] })
    (base : Nat) (e : TypeId) (i : TypeInfo) (bytes : Nat) (ht : P.underlying t = some (.slice e)) (hi : P.info? e = some i) (hz : i.zero = some (.int k 0)) (hsize : i.size = 1) (hby : i.bytes = bytes)
    (v : Value) (n : Nat) (xs : List Value) (hs : a.eval s = v) (hown : w.ownsRow base e 1 v n xs) (X : Value) (zs : List Int) (hx : a.eval x = X) (hX : IntsV k w X zs)
    (h63 : n + zs.length ≤ maxLen) (hbytes : (n + zs.length) * bytes ≤ 140737488355328) (hbase : base ≤ w.heap.size)
    (h : ∀ v' w', w'.ownsRow base e 1 v' (n + zs.length) (xs ++ zs.map (Value.int k)) → w.grownBy w' v.ownBlock → wpList P ops Q rest (a.put o.dst v') w') : wpList P ops Q (o :: rest) a w :=
  wpList_plain hgd fun K hK => by
    obtain ⟨v', w', hr, h2, h3⟩ := run_append_ints (P := P) base t o.type e i bytes ht hi hz hsize hby v n xs hown X zs hX h63 hbytes hbase
    unfold Oper.wp execOp
    simp only [ho, resolve, invoke, builtin, Sem.run_bind, Sem.run_pure, Result.andThen_ok, List.map_toArray, List.map_cons, List.map_nil, hs, hx, hr]
    exact hK _ _ (h v' w' h2 h3)

/-- What the call owned, and grew by an append, is its own still; the rest is as it was. -/
theorem grow_by {w wr w1 : World} {e : TypeId} {v : Value} {n : Nat} {xs : List Value} (hg : Grow w wr) (hown : wr.ownsRow w.heap.size e 1 v n xs) (hgrow : wr.grownBy w1 v.ownBlock) : Grow w w1 :=
  Below.grown hg hgrow hg.size (fun j hj => (hown.lt j hj).1)
end Go.Proofs.Ytjocnhifnijlcaa
