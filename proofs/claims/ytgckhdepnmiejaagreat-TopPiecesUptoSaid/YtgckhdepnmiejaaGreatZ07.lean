/- The rule for regions that draw their order, where the chain's state may speak of what the chain's own operations have yielded (and what stands on it). -/
import Derived.WalkKit
import Derived.Deep.AppendLies
import Derived.Laws.EntriesVeiled
import Derived.LoopTactic
import Derived.Test.YtgckhdepnmiejaaGreatZ02
import Derived.Test.YtgckhdepnmiejaaGreatZ03
import Derived.Test.YtgckhdepnmiejaaGreatZ05
import Derived.Test.YtgckhdepnmiejaaGreatZ06
set_option linter.unusedVariables false
set_option linter.unusedSimpArgs false
namespace Go.Proofs.YtgckhdepnmiejaaGreat.K
section
open Go.RowKit Go.Proofs.YtgckhdepnmiejaaGreat
variable {P : Program} {ops : Array Oper}
abbrev St := (Tmp → Value) → World → Prop
abbrev val (a : Act) : Tmp → Value := fun t => a.tmps.getD t undef
def upd (xs : Tmp → Value) (d : Option Tmp) (u : Value) : Tmp → Value := fun t => if d = some t then u else xs t
/-- It speaks of no other slots than those of the chain's operations ahead of k. -/
def Loc (ops : Array Oper) (cs : List Nat) (k : Nat) (C : St) : Prop := ∀ xs ys w, (∀ i o t, i ∈ cs → i < k → ops[i]? = some o → o.dst = some t → xs t = ys t) → C xs w → C ys w
theorem Loc.succ {cs : List Nat} {k : Nat} {C : St} (h : Loc ops cs k C) : Loc ops cs (k + 1) C := fun xs ys w he hc => h xs ys w (fun i o t h1 h2 h3 h4 => he i o t h1 (Nat.lt_succ_of_lt h2) h3 h4) hc
def HStep (P : Program) (ops : Array Oper) (M : Nat → Prop) (w0 : World) (cs : List Nat) (k : Nat) (o : Oper) (a : Act) (hs : List (Tmp × (Value → World → Prop))) (C : St)
  (a' : Act) (hs' : List (Tmp × (Value → World → Prop))) (C' : St) : Prop :=
 ((∀ xs, Region.wanted o (yielded ops (fill hs xs a).tmps) = false) ∧ a' = a.put o.dst undef ∧ hs' = hs ∧ C' = C) ∨
 ((∀ xs, Region.wanted o (yielded ops (fill hs xs a).tmps) = true) ∧ ∃ φ : Value → World → Prop, (∀ u w w', GrowBut M w w' → φ u w → φ u w') ∧
  ((∃ v, φ = (fun u _ => u = v) ∧ a' = a.put o.dst v ∧ hs' = hs) ∨ (∃ d, o.dst = some d ∧ a' = a.put o.dst undef ∧ hs' = (d, φ) :: hs)) ∧
  ((C' = C ∧ cs.contains k = false ∧ ∀ xs w, GrowBut M w0 w → (seeB ops cs k = true → C xs w) → HF ops o hs xs w → mildAt P o (fill hs xs a) w φ (fun w' => Below w.heap.size w w')) ∨
   (((∀ xs w w', Below w.heap.size w w' → C' xs w → C' xs w') ∧ Loc ops cs (k + 1) C') ∧ cs.contains k = true ∧
    ∀ xs w, GrowBut M w0 w → C xs w → HF ops o hs xs w → mildAt P o (fill hs xs a) w (fun u w' => φ u w' ∧ C' (upd xs o.dst u) w') (fun w' => GrowBut M w w'))))
/-- The lexical walk. -/
def wpH (P : Program) (ops : Array Oper) (M : Nat → Prop) (w0 : World) (cs : List Nat) (Qf : Act → List (Tmp × (Value → World → Prop)) → St → Prop) :
  List Oper → Nat → Act → List (Tmp × (Value → World → Prop)) → St → Prop
 | [], _, a, hs, C => Qf a hs C
 | o :: rest, k, a, hs, C => ∃ a' hs' C', HStep P ops M w0 cs k o a hs C a' hs' C' ∧ wpH P ops M w0 cs Qf rest (k + 1) a' hs' C'
/-! ### The walk as sequences -/
theorem wpH_seq {M : Nat → Prop} {w0 : World} {cs : List Nat} {Qf : Act → List (Tmp × (Value → World → Prop)) → St → Prop} :
  ∀ (l : List Oper) (k : Nat) (a : Act) (hs : List (Tmp × (Value → World → Prop))) (C : St), wpH P ops M w0 cs Qf l k a hs C →
  ∃ (A : Nat → Act) (H : Nat → List (Tmp × (Value → World → Prop))) (D : Nat → St), A k = a ∧ H k = hs ∧ D k = C ∧
   (∀ j o, l[j]? = some o → HStep P ops M w0 cs (k + j) o (A (k + j)) (H (k + j)) (D (k + j)) (A (k + j + 1)) (H (k + j + 1)) (D (k + j + 1))) ∧
   Qf (A (k + l.length)) (H (k + l.length)) (D (k + l.length))
 | [], k, a, hs, C, h => ⟨fun _ => a, fun _ => hs, fun _ => C, rfl, rfl, rfl, fun j o hj => by simp at hj, h⟩
 | o :: rest, k, a, hs, C, h => by
  obtain ⟨a', hs', C', hst, hr⟩ := h
  obtain ⟨A, H, D, hA, hH, hD, hall, hq⟩ := wpH_seq rest (k + 1) a' hs' C' hr
  refine ⟨fun i => if i = k then a else A i, fun i => if i = k then hs else H i, fun i => if i = k then C else D i, by simp, by simp, by simp, ?_, ?_⟩
  ·intro j oj hj
   cases j with
   | zero =>
    simp at hj
    subst hj
    simp only [Nat.add_zero, if_true, if_neg (Nat.succ_ne_self k), hA, hH, hD]
    exact hst
   | succ j =>
    have := hall j oj (by simpa using hj)
    have e : k + (j + 1) = k + 1 + j := by omega
    rw [e]
    simp only [if_neg (show ¬ k + 1 + j = k by omega), if_neg (show ¬ k + 1 + j + 1 = k by omega)]
    exact this
  ·have e : k + (o :: rest).length = k + 1 + rest.length := by simp; omega
   rw [e]
   simp only [if_neg (show ¬ k + 1 + rest.length = k by omega)]
   exact hq
/-! ### The sequences' facts -/
structure Seqs (P : Program) (ops : Array Oper) (M : Nat → Prop) (w0 : World) (cs : List Nat) (n : Nat) (A : Nat → Act) (H : Nat → List (Tmp × (Value → World → Prop))) (D : Nat → St) : Prop where
 h0 : H 0 = []
 step : ∀ j o, j < n → ops[j]? = some o → HStep P ops M w0 cs j o (A j) (H j) (D j) (A (j + 1)) (H (j + 1)) (D (j + 1))
 op : ∀ j, j < n → ∃ o, ops[j]? = some o
 stable0 : ∀ xs w w', Below w.heap.size w w' → D 0 xs w → D 0 xs w'
 loc0 : Loc ops cs 0 (D 0)
section
variable {M : Nat → Prop} {w0 : World} {cs : List Nat} {n : Nat} {A : Nat → Act} {H : Nat → List (Tmp × (Value → World → Prop))} {D : Nat → St}
theorem Seqs.actOf (S : Seqs P ops M w0 cs n A H D) {j : Nat} {o : Oper} (hj : j < n) (ho : ops[j]? = some o) : ∃ v, A (j + 1) = (A j).put o.dst v := by
 rcases S.step j o hj ho with ⟨_, h, _⟩ | ⟨_, φ, _, ⟨v, _, h, _⟩ | ⟨d, _, h, _⟩, _⟩
 ·exact ⟨_, h⟩
 ·exact ⟨_, h⟩
 ·exact ⟨_, h⟩
theorem Seqs.hidOf (S : Seqs P ops M w0 cs n A H D) {j : Nat} {o : Oper} (hj : j < n) (ho : ops[j]? = some o) : H (j + 1) = H j ∨ ∃ d φ, o.dst = some d ∧ H (j + 1) = (d, φ) :: H j := by
 rcases S.step j o hj ho with ⟨_, _, h, _⟩ | ⟨_, φ, _, ⟨v, _, _, h⟩ | ⟨d, hd, _, h⟩, _⟩
 ·exact Or.inl h
 ·exact Or.inl h
 ·exact Or.inr ⟨d, φ, hd, h⟩
theorem Seqs.size (S : Seqs P ops M w0 cs n A H D) : ∀ j, j ≤ n → (A j).tmps.size = (A 0).tmps.size ∧ (A j).defers = (A 0).defers
 | 0, _ => ⟨rfl, rfl⟩
 | j + 1, h => by
  obtain ⟨o, ho⟩ := S.op j (by omega)
  obtain ⟨v, hv⟩ := S.actOf (by omega) ho
  have := Seqs.size S j (by omega)
  exact ⟨by rw [hv, size_put, this.1], by rw [hv, defers_put, this.2]⟩
theorem Seqs.keep (S : Seqs P ops M w0 cs n A H D) {t : Tmp} {k : Nat} : ∀ m, k ≤ m → m ≤ n → (∀ i o, k ≤ i → i < m → ops[i]? = some o → o.dst ≠ some t) → (A m).tmps.getD t undef = (A k).tmps.getD t undef := by
 intro m hkm hmn h
 induction m with
 | zero => have : k = 0 := by omega
           rw [this]
 | succ m ih =>
  by_cases e : k = m + 1
  ·rw [e]
  ·obtain ⟨o, ho⟩ := S.op m (by omega)
   obtain ⟨v, hv⟩ := S.actOf (by omega) ho
   rw [hv, getD_put _ _ _ _ (h m o (by omega) (by omega) ho)]
   exact ih (by omega) (by omega) (fun i o hi hi' => h i o hi (by omega))
theorem Seqs.mem (S : Seqs P ops M w0 cs n A H D) {t : Tmp} {φ : Value → World → Prop} : ∀ m, m ≤ n → (t, φ) ∈ H m → ∃ k o, k < m ∧ ops[k]? = some o ∧ o.dst = some t ∧ H (k + 1) = (t, φ) :: H k
 | 0, _, h => by rw [S.h0] at h; cases h
 | m + 1, hm, h => by
  obtain ⟨o, ho⟩ := S.op m (by omega)
  rcases S.hidOf (by omega) ho with e | ⟨d, ψ, hd, e⟩
  ·rw [e] at h
   obtain ⟨k, o', h1, h2⟩ := Seqs.mem S m (by omega) h
   exact ⟨k, o', by omega, h2⟩
  ·rw [e] at h
   rcases List.mem_cons.1 h with h | h
   ·have h1 : t = d := congrArg Prod.fst h
    have h2 : φ = ψ := congrArg Prod.snd h
    subst h1; subst h2
    exact ⟨m, o, by omega, ho, hd, e⟩
   ·obtain ⟨k, o', h1, h2⟩ := Seqs.mem S m (by omega) h
    exact ⟨k, o', by omega, h2⟩
theorem Seqs.sub (S : Seqs P ops M w0 cs n A H D) {k : Nat} {p : Tmp × (Value → World → Prop)} : ∀ m, k ≤ m → m ≤ n → p ∈ H k → p ∈ H m := by
 intro m hk hm h
 induction m with
 | zero => have : k = 0 := by omega
           rwa [this] at h
 | succ m ih =>
  by_cases e : k = m + 1
  ·rwa [e] at h
  ·obtain ⟨o, ho⟩ := S.op m (by omega)
   have := ih (by omega) (by omega)
   rcases S.hidOf (by omega) ho with e | ⟨d, ψ, _, e⟩
   ·rw [e]; exact this
   ·rw [e]; exact List.mem_cons_of_mem _ this
theorem Seqs.stableD (S : Seqs P ops M w0 cs n A H D) : ∀ j, j ≤ n → ∀ xs w w', Below w.heap.size w w' → D j xs w → D j xs w'
 | 0, _ => S.stable0
 | j + 1, h => by
  obtain ⟨o, ho⟩ := S.op j (by omega)
  have ih := Seqs.stableD S j (by omega)
  rcases S.step j o (by omega) ho with ⟨_, _, _, e⟩ | ⟨_, φ, _, _, ⟨e, _⟩ | ⟨e, _⟩⟩
  ·rw [e]; exact ih
  ·rw [e]; exact ih
  ·exact e.1
theorem Seqs.locD (S : Seqs P ops M w0 cs n A H D) : ∀ j, j ≤ n → Loc ops cs j (D j)
 | 0, _ => S.loc0
 | j + 1, h => by
  obtain ⟨o, ho⟩ := S.op j (by omega)
  have ih := Seqs.locD S j (by omega)
  rcases S.step j o (by omega) ho with ⟨_, _, _, e⟩ | ⟨_, φ, _, _, ⟨e, _⟩ | ⟨e, _⟩⟩
  ·rw [e]; exact ih.succ
  ·rw [e]; exact ih.succ
  ·exact e.2
theorem Seqs.sameD (S : Seqs P ops M w0 cs n A H D) {k : Nat} : ∀ m, k ≤ m → m ≤ n → (∀ i, i ∈ cs → k ≤ i → i < m → False) → D m = D k := by
 intro m hk hm h
 induction m with
 | zero => have : k = 0 := by omega
           rw [this]
 | succ m ih =>
  by_cases e : k = m + 1
  ·rw [e]
  ·obtain ⟨o, ho⟩ := S.op m (by omega)
   have := ih (by omega) (by omega) (fun i hi h1 h2 => h i hi h1 (by omega))
   rw [← this]
   rcases S.step m o (by omega) ho with ⟨_, _, _, e⟩ | ⟨_, φ, _, _, ⟨e, _⟩ | ⟨_, e, _⟩⟩
   ·exact e
   ·exact e
   ·exact absurd (List.contains_iff_mem.1 e) (fun hm => h m hm (by omega) (by omega))
/-! ### The invariant of every order -/
structure RInv (ops : Array Oper) (M : Nat → Prop) (w0 : World) (cs : List Nat) (n : Nat) (A : Nat → Act) (H : Nat → List (Tmp × (Value → World → Prop))) (D : Nat → St) (L : Array Bool) (a : Act) (w : World) : Prop where
 size : L.size = ops.size
 closed : ∀ (j : Nat) (oj : Oper), ops[j]? = some oj → L.getD j false = true → ∀ e ∈ oj.after, Region.binds .any e = true → L.getD e.on false = true
 grow : GrowBut M w0 w
 chain : ∀ k, k ≤ n → (∀ i, i ∈ cs → i < k → L.getD i false = true) → (∀ i, i ∈ cs → k ≤ i → L.getD i false = false) → D k (val a) w
 hit : ∀ (k : Nat) (ok : Oper) (t : Tmp), k < n → ops[k]? = some ok → L.getD k false = true → ok.dst = some t →
  (∀ φ, (t, φ) ∈ H n → φ (a.tmps.getD t undef) w) ∧ ((∀ φ, (t, φ) ∉ H n) → a.tmps.getD t undef = (A n).tmps.getD t undef)
 miss : ∀ t, (∀ (k : Nat) (ok : Oper), k < n → ops[k]? = some ok → L.getD k false = true → ok.dst ≠ some t) → a.tmps.getD t undef = (A 0).tmps.getD t undef
 asize : a.tmps.size = (A 0).tmps.size
 defers : a.defers = (A 0).defers
 tail : ∀ t, n ≤ t → L.getD t false = false
/-- Where an operation comes up, it sees what the lexical walk lets it see. -/
theorem RInv.look (S : Seqs P ops M w0 cs n A H D) (G : GB ops n cs (A 0).tmps.size) {L : Array Bool} {a : Act} {w : World} (I : RInv ops M w0 cs n A H D L a w) {j : Nat} {o : Oper} (hj : j < n) (ho : ops[j]? = some o)
  (hall : ∀ e ∈ o.after, Region.binds .any e = true → L.getD e.on false = true) (t : Tmp) (ht : t ∈ o.looksAt ops) :
  (fill (H j) (fun t => a.tmps.getD t undef) (A j)).tmps.getD t undef = a.tmps.getD t undef := by
 by_cases hin : ∃ φ, (t, φ) ∈ H j
 ·obtain ⟨φ, hφ⟩ := hin
  obtain ⟨k, ok, hk, hok, hd, _⟩ := S.mem j (by omega) hφ
  exact getD_fill_in _ _ hφ (by rw [(S.size j (by omega)).1]; exact (G.slot j k o ok t hj (by omega) ho hok hd).1)
 ·have hout : ∀ φ, (t, φ) ∉ H j := fun φ h => hin ⟨φ, h⟩
  rw [getD_fill_out _ _ hout]
  by_cases hk : ∃ k ok, k < n ∧ ops[k]? = some ok ∧ ok.dst = some t
  ·obtain ⟨k, ok, hkn, hok, hd⟩ := hk
   obtain ⟨_, h2, _⟩ := G.slot j k o ok t hj hkn ho hok hd
   obtain ⟨hkj, hw⟩ := h2 ht
   have hL := waits_listed ho hall hw
   have hn : ∀ φ, (t, φ) ∉ H n := fun φ hφ => by
    obtain ⟨k', ok', hk', hok', hd', e⟩ := S.mem n (Nat.le_refl _) hφ
    have hkk : k' = k := Classical.byContradiction fun hne => (G.slot k' k ok' ok t hk' hkn hok' hok hd).2.2 hne hd'
    subst hkk
    exact hout φ (S.sub j (k := k' + 1) (by omega) (by omega) (by rw [e]; simp))
   rw [(I.hit k ok t hkn hok hL hd).2 hn]
   refine (S.keep n (by omega) (Nat.le_refl _) fun i oi hi hi' hoi => ?_).symm
   exact (G.slot i k oi ok t hi' hkn hoi hok hd).2.2 (by omega)
  ·have hno : ∀ (k : Nat) (ok : Oper), k < n → ops[k]? = some ok → ok.dst ≠ some t := fun k ok h1 h2 h3 => hk ⟨k, ok, h1, h2, h3⟩
   rw [I.miss t (fun k ok h1 h2 _ => hno k ok h1 h2)]
   exact S.keep j (Nat.zero_le _) (by omega) fun i oi _ hi' hoi => hno i oi (by omega) hoi
theorem RInv.exec (S : Seqs P ops M w0 cs n A H D) (G : GB ops n cs (A 0).tmps.size) {L : Array Bool} {a : Act} {w : World} (I : RInv ops M w0 cs n A H D L a w) {j : Nat} {o : Oper} (hj : j < n) (ho : ops[j]? = some o)
  (hall : ∀ e ∈ o.after, Region.binds .any e = true → L.getD e.on false = true) :
  execOp a.eval o = execOp (fill (H j) (fun t => a.tmps.getD t undef) (A j)).eval o ∧
  Region.wanted o (yielded ops a.tmps) = Region.wanted o (yielded ops (fill (H j) (fun t => a.tmps.getD t undef) (A j)).tmps) := by
 have hl := fun t ht => I.look S G hj ho hall t ht
 refine ⟨execOp_congr o (fun cs b => Region.noSelect_spec G.sel j o cs b ho) fun x hx => ?_, ?_⟩
 ·cases x with
  | tmp t => exact (hl t (List.mem_append_left _ (List.mem_filterMap.2 ⟨.tmp t, by simpa using hx, rfl⟩))).symm
  | _ => rfl
 ·unfold Region.wanted
  cases hg : o.guard with
  | none => rfl
  | some gw =>
   obtain ⟨g, want⟩ := gw
   have hy : yielded ops a.tmps g = yielded ops (fill (H j) (fun t => a.tmps.getD t undef) (A j)).tmps g := by
    unfold yielded
    cases ht : (ops[g]?).bind (·.dst) with
    | none => rfl
    | some t =>
     simp only [Option.bind_some]
     rw [same_get (t := t) (by rw [size_fill, (S.size j (by omega)).1, I.asize]) (hl t (by simp [Oper.looksAt, hg, ht])).symm]
   simp only [hy]
theorem RInv.hf (S : Seqs P ops M w0 cs n A H D) (G : GB ops n cs (A 0).tmps.size) {L : Array Bool} {a : Act} {w : World} (I : RInv ops M w0 cs n A H D L a w) {j : Nat} {o : Oper} (hj : j < n) (ho : ops[j]? = some o)
  (hall : ∀ e ∈ o.after, Region.binds .any e = true → L.getD e.on false = true) : HF ops o (H j) (fun t => a.tmps.getD t undef) w := by
 intro p hp hlook
 obtain ⟨t, φ⟩ := p
 obtain ⟨k, ok, hk, hok, hd, _⟩ := S.mem j (by omega) hp
 have ht : t ∈ o.looksAt ops := List.contains_iff_mem.1 hlook
 obtain ⟨_, h2, _⟩ := G.slot j k o ok t hj (by omega) ho hok hd
 have hL := waits_listed ho hall (h2 ht).2
 exact (I.hit k ok t (by omega) hok hL hd).1 φ (S.sub n (by omega) (Nat.le_refl _) hp)
theorem RInv.cut (G : GB ops n cs (A 0).tmps.size) {L : Array Bool} {a : Act} {w : World} (I : RInv ops M w0 cs n A H D L a w) :
  ∀ (j : Nat), (∀ i, i < j → ∀ k, k ∈ cs → i ∈ cs → j ≤ k → True) → ∀ k, k < j → k ∈ cs → L.getD k false = true → ∀ i, i ∈ cs → i < k → L.getD i false = true := by
 intro j
 induction j with
 | zero => intro _ k hk; omega
 | succ j ih =>
  intro _ k hk hkc hL i hi hik
  obtain ⟨k', hk', h1, h2, hw⟩ := G.chain k i hkc hi hik
  obtain ⟨ok, hok, e, he, hb, hon⟩ := Region.waitsFor_spec hw
  have hL' : L.getD k' false = true := by rw [← hon]; exact I.closed k ok hok hL e he hb
  rcases Nat.lt_or_ge i k' with h | h
  ·exact ih (fun _ _ _ _ _ _ => trivial) k' (by omega) hk' hL' i hi h
  ·have : i = k' := by omega
   subst this; exact hL'
/-- One operation has run: the invariant goes on. -/
theorem RInv.next (S : Seqs P ops M w0 cs n A H D) (G : GB ops n cs (A 0).tmps.size) {L : Array Bool} {a : Act} {w : World} (I : RInv ops M w0 cs n A H D L a w) {j : Nat} {o : Oper} (hj : j < n) (ho : ops[j]? = some o)
  (hun : L.getD j true = false) (hall : ∀ e ∈ o.after, Region.binds .any e = true → L.getD e.on false = true) {u : Value} {w' : World} (hg : GrowBut M w w')
  (hD : (Below w.heap.size w w' ∧ D (j + 1) = D j) ∨ (j ∈ cs ∧ D (j + 1) (val (a.put o.dst u)) w'))
  (hu : ∀ t, o.dst = some t → (∀ φ, (t, φ) ∈ H n → φ u w') ∧ ((∀ φ, (t, φ) ∉ H n) → (A (j + 1)).tmps.getD t undef = u))
  (hst : ∀ p ∈ H n, ∀ u w w', GrowBut M w w' → p.2 u w → p.2 u w') :
  RInv ops M w0 cs n A H D (L.setIfInBounds j true) (a.put o.dst u) w' := by
 have hjs : j < L.size := by
  rcases Nat.lt_or_ge j L.size with h' | h'
  ·exact h'
  ·simp [Array.getElem?_eq_none h'] at hun
 have hset : (L.setIfInBounds j true).getD j false = true := by simp [hjs]
 have hne : ∀ k, k ≠ j → (L.setIfInBounds j true).getD k false = L.getD k false := fun k hk => getD_set_ne false (Ne.symm hk)
 have hfalse : L.getD j false = false := getD_both hun
 refine ⟨by simp [I.size], ?_, I.grow.trans hg, ?_, ?_, ?_, by rw [size_put, I.asize], by rw [defers_put, I.defers], ?_⟩
 ·intro k ok hok hL e he hb
  refine getD_set_true ?_
  by_cases hkj : k = j
  ·subst hkj
   have : ok = o := Option.some.inj (hok.symm.trans ho)
   subst this
   exact hall e he hb
  ·rw [hne k hkj] at hL
   exact I.closed k ok hok hL e he hb
 ·intro k hk h1 h2
  rcases hD with ⟨hb, hDj⟩ | ⟨hjc, hDj⟩
  ·by_cases hjc : j ∈ cs
   ·by_cases hkj : k ≤ j
    ·have := h2 j hjc hkj
     rw [hset] at this; cases this
    ·have hD1 : D k = D (j + 1) := S.sameD k (by omega) hk fun i hi h3 h4 => by
      have hLi := h1 i hi h4
      rw [hne i (by omega)] at hLi
      have := I.cut G (i + 1) (fun _ _ _ _ _ _ => trivial) i (by omega) hi hLi j hjc (by omega)
      rw [hfalse] at this; cases this
     rw [hD1, hDj]
     refine S.locD j (by omega) (val a) _ _ (fun i oi t h3 h4 h5 h6 => (getD_put _ _ _ _ ((G.slot j i o oi t hj (by omega) ho h5 h6).2.2 (by omega))).symm) (S.stableD j (by omega) _ _ _ hb (I.chain j (by omega) ?_ ?_))
     ·intro i hi hij
      have := h1 i hi (by omega)
      rwa [hne i (by omega)] at this
     ·intro i hi hij
      by_cases hij' : i = j
      ·rw [hij']; exact hfalse
      ·cases hb : L.getD i false
       ·rfl
       ·have := I.cut G (i + 1) (fun _ _ _ _ _ _ => trivial) i (by omega) hi hb j hjc (by omega)
        rw [hfalse] at this; cases this
   ·refine S.locD k hk (val a) _ _ (fun i oi t h3 h4 h5 h6 => (getD_put _ _ _ _ ((G.slot j i o oi t hj (by omega) ho h5 h6).2.2 (fun e => hjc (e ▸ h3)))).symm) (S.stableD k hk _ _ _ hb (I.chain k hk ?_ ?_))
    ·intro i hi hik
     have := h1 i hi hik
     rwa [hne i (fun e => hjc (e ▸ hi))] at this
    ·intro i hi hik
     have := h2 i hi hik
     rwa [hne i (fun e => hjc (e ▸ hi))] at this
  ·by_cases hkj : k ≤ j
   ·have := h2 j hjc hkj
    rw [hset] at this; cases this
   ·have hD1 : D k = D (j + 1) := S.sameD k (by omega) hk fun i hi h3 h4 => by
     have hLi := h1 i hi h4
     rw [hne i (by omega)] at hLi
     have := I.cut G (i + 1) (fun _ _ _ _ _ _ => trivial) i (by omega) hi hLi j hjc (by omega)
     rw [hfalse] at this; cases this
    rw [hD1]; exact hDj
 ·intro k ok t hk hok hL hd
  by_cases hkj : k = j
  ·subst hkj
   have : ok = o := Option.some.inj (hok.symm.trans ho)
   subst this
   have hlt := (G.slot k k ok ok t hk hk hok hok hd).1
   have e : (a.put ok.dst u).tmps.getD t undef = u := by rw [hd]; exact getD_put_same _ _ _ (by rw [I.asize]; exact hlt)
   rw [e]
   refine ⟨(hu t hd).1, fun hn => ?_⟩
   rw [← (hu t hd).2 hn]
   refine (S.keep n (by omega) (Nat.le_refl _) fun i oi hi hi' hoi => ?_).symm
   exact (G.slot i k oi ok t hi' hk hoi hok hd).2.2 (by omega)
  ·rw [hne k hkj] at hL
   have hne' : o.dst ≠ some t := (G.slot j k o ok t hj hk ho hok hd).2.2 (Ne.symm hkj)
   rw [getD_put _ _ _ _ hne']
   have := I.hit k ok t hk hok hL hd
   exact ⟨fun φ hφ => hst _ hφ _ _ _ hg (this.1 φ hφ), this.2⟩
 ·intro t ht
  have hne' : o.dst ≠ some t := ht j o hj ho hset
  rw [getD_put _ _ _ _ hne']
  refine I.miss t fun k ok hk hok hL => ht k ok hk hok ?_
  by_cases hkj : k = j
  ·rw [hkj]; exact hset
  ·rw [hne k hkj]; exact hL
 ·intro t ht; rw [hne t (by omega)]; exact I.tail t ht
/-- The stable facts. -/
theorem Seqs.stableH (S : Seqs P ops M w0 cs n A H D) : ∀ p ∈ H n, ∀ u w w', GrowBut M w w' → p.2 u w → p.2 u w' := by
 intro p hp
 obtain ⟨t, φ⟩ := p
 obtain ⟨k, o, hk, ho, hd, e⟩ := S.mem n (Nat.le_refl _) hp
 rcases S.step k o hk ho with ⟨_, _, h, _⟩ | ⟨_, ψ, hψ, ⟨v, _, _, h⟩ | ⟨d, _, _, h⟩, _⟩
 ·rw [h] at e; exact absurd (congrArg List.length e) (by simp)
 ·rw [h] at e; exact absurd (congrArg List.length e) (by simp)
 ·rw [h] at e
  have : (d, ψ) = (t, φ) := (List.cons.inj e).1
  have : ψ = φ := congrArg Prod.snd this
  subst this
  exact hψ
/-- What the slot of an operation that was taken holds at the walk's end. -/
theorem Seqs.slotEnd (S : Seqs P ops M w0 cs n A H D) (G : GB ops n cs (A 0).tmps.size) {j : Nat} {o : Oper} {t : Tmp} (hj : j < n) (ho : ops[j]? = some o) (hd : o.dst = some t) {φ : Value → World → Prop} (hφ : (t, φ) ∈ H n) : H (j + 1) = (t, φ) :: H j := by
 obtain ⟨k, ok, hk, hok, hdk, e⟩ := S.mem n (Nat.le_refl _) hφ
 have : k = j := Classical.byContradiction fun hne => (G.slot k j ok o t hk hj hok ho hd).2.2 hne hdk
 subst this
 exact e
theorem RInv.step (S : Seqs P ops M w0 cs n A H D) (G : GB ops n cs (A 0).tmps.size) {L : Array Bool} {a : Act} {w : World} (I : RInv ops M w0 cs n A H D L a w) {j : Nat} (hj : j < n) (hr : j ∈ Region.ready .any ops L)
  {K : Act → World → Prop} {Q : Exit → Act → World → Prop} (hK : ∀ a' w', RInv ops M w0 cs n A H D (L.setIfInBounds j true) a' w' → K a' w') : wpOp P ops Q j K a w := by
 obtain ⟨hun, o, ho, hall⟩ := mem_ready.1 hr
 obtain ⟨hex, hwa⟩ := I.exec S G hj ho hall
 have hf := I.hf S G hj ho hall
 have hH := fun p hp => S.stableH p hp
 unfold wpOp
 simp only [ho]
 rcases S.step j o hj ho with ⟨hw, hA, hH', hD'⟩ | ⟨hw, φ, hst, hA, hD'⟩
 ·rw [hwa, hw]
  simp only [Bool.false_eq_true, if_false]
  refine hK _ _ (I.next S G hj ho hun hall (GrowBut.refl _ _) (Or.inl ⟨Below.refl _ _, hD'⟩) (fun t hd => ⟨fun ψ hψ => ?_, fun _ => ?_⟩) hH)
  ·have := S.slotEnd G hj ho hd hψ
   rw [hH'] at this
   exact absurd (congrArg List.length this) (by simp)
  ·have hlt := (G.slot j j o o t hj hj ho ho hd).1
   rw [hA, hd, getD_put_same _ _ _ (by rw [(S.size j (by omega)).1]; exact hlt)]
 ·rw [hwa, hw]
  simp only [if_true]
  refine Or.inl ?_
  have slots : ∀ u w', φ u w' → ∀ t, o.dst = some t → (∀ ψ, (t, ψ) ∈ H n → ψ u w') ∧ ((∀ ψ, (t, ψ) ∉ H n) → (A (j + 1)).tmps.getD t undef = u) := by
   intro u w' hu t hd
   have hlt := (G.slot j j o o t hj hj ho ho hd).1
   rcases hA with ⟨v, rfl, hA, hH'⟩ | ⟨d, hd', hA, hH'⟩
   ·refine ⟨fun ψ hψ => ?_, fun _ => ?_⟩
    ·have := S.slotEnd G hj ho hd hψ
     rw [hH'] at this
     exact absurd (congrArg List.length this) (by simp)
    ·rw [hA, hd, getD_put_same _ _ _ (by rw [(S.size j (by omega)).1]; exact hlt)]
     exact hu.symm
   ·refine ⟨fun ψ hψ => ?_, fun hno => ?_⟩
    ·have e := S.slotEnd G hj ho hd hψ
     rw [hH'] at e
     have : φ = ψ := congrArg Prod.snd (List.cons.inj e).1
     rw [← this]; exact hu
    ·have : d = t := Option.some.inj (hd'.symm.trans hd)
     subst this
     exact absurd (S.sub n (k := j + 1) (by omega) (Nat.le_refl _) (by rw [hH']; simp)) (hno φ)
  rcases hD' with ⟨hD', hnc, hm⟩ | ⟨_, hc, hm⟩
  ·have hDj : seeB ops cs j = true → D j (val a) w := fun hse => by
    have hse' := List.all_eq_true.1 hse
    refine I.chain j (by omega) (fun i hi hij => ?_) (fun i hi hij => ?_)
    ·have := hse' i hi
     rw [if_pos hij] at this
     exact waits_listed ho hall this
    ·have hne : i ≠ j := fun e => by
      rw [e] at hi
      rw [List.contains_iff_mem.2 hi] at hnc; cases hnc
     have := hse' i hi
     rw [if_neg (by omega)] at this
     obtain ⟨oi, hoi, e, he, hb, hon⟩ := Region.waitsFor_spec this
     cases hb' : L.getD i false
     ·rfl
     ·have := I.closed i oi hoi hb' e he hb
      rw [hon, getD_both hun] at this; cases this
   have hm' := hm _ w I.grow hDj hf
   unfold mildAt at hm'
   rw [← hex] at hm'
   exact wp_of_mild hm' fun u w' hu hb => hK _ _ (I.next S G hj ho hun hall (GrowBut.of_below hb) (Or.inl ⟨hb, hD'⟩) (slots u w' hu) hH)
  ·have hjc : j ∈ cs := List.contains_iff_mem.1 hc
   have hDj : D j (val a) w := by
    refine I.chain j (by omega) ?_ ?_
    ·intro i hi hij
     obtain ⟨k, hk, h1, h2, hw'⟩ := G.chain j i hjc hi hij
     have hLk := waits_listed ho hall hw'
     by_cases hik : i = k
     ·rw [hik]; exact hLk
     ·exact I.cut G (k + 1) (fun _ _ _ _ _ _ => trivial) k (by omega) hk hLk i hi (by omega)
    ·intro i hi hij
     by_cases hij' : i = j
     ·rw [hij']; exact getD_both hun
     ·cases hb : L.getD i false
      ·rfl
      ·have := I.cut G (i + 1) (fun _ _ _ _ _ _ => trivial) i (by omega) hi hb j hjc (by omega)
       rw [getD_both hun] at this; cases this
   have hm' := hm _ w I.grow hDj hf
   unfold mildAt at hm'
   rw [← hex] at hm'
   exact wp_of_mild hm' fun u w' hu hb => hK _ _ (I.next S G hj ho hun hall hb (Or.inr ⟨hjc, S.locD (j + 1) (by omega) _ _ _ (fun i oi t h3 h4 h5 h6 => by
     unfold upd val
     by_cases hd : o.dst = some t
     ·rw [if_pos hd, hd]; exact (getD_put_same _ _ _ (by rw [I.asize]; exact (G.slot j j o o t hj hj ho ho hd).1)).symm
     ·rw [if_neg hd]; exact (getD_put _ _ _ _ hd).symm) hu.2⟩) (slots u w' hu.1) hH)
/-- All that the walk asked is listed: the act is the walk's last one, filled with something. -/
theorem RInv.fin (S : Seqs P ops M w0 cs n A H D) (G : GB ops n cs (A 0).tmps.size) {L : Array Bool} {a : Act} {w : World} (I : RInv ops M w0 cs n A H D L a w) (hL : ∀ k, k < n → L.getD k false = true)
  (hcs : ∀ i ∈ cs, i < n) :
  GrowBut M w0 w ∧ D n (val a) w ∧ (∀ p ∈ H n, p.2 (a.tmps.getD p.1 undef) w) ∧ a = fill (H n) (fun t => a.tmps.getD t undef) (A n) := by
 refine ⟨I.grow, I.chain n (Nat.le_refl _) (fun i _ hi => hL i hi) (fun i hi h => by have := hcs i hi; omega), ?_, ?_⟩
 ·intro p hp
  obtain ⟨t, φ⟩ := p
  obtain ⟨k, o, hk, ho, hd, _⟩ := S.mem n (Nat.le_refl _) hp
  exact (I.hit k o t hk ho (hL k hk) hd).1 φ hp
 ·have hsz := (S.size n (Nat.le_refl _)).1
  have hd := (S.size n (Nat.le_refl _)).2
  have ht : a.tmps = (fill (H n) (fun t => a.tmps.getD t undef) (A n)).tmps := by
   refine Array.ext_getElem? fun t => same_get (by rw [size_fill, hsz, I.asize]) ?_
   by_cases hin : ∃ φ, (t, φ) ∈ H n
   ·obtain ⟨φ, hφ⟩ := hin
    obtain ⟨k, ok, hk, hok, hdk, _⟩ := S.mem n (Nat.le_refl _) hφ
    exact (getD_fill_in (fun t => a.tmps.getD t undef) (A n) hφ (by rw [hsz]; exact (G.slot k k ok ok t hk hk hok hok hdk).1)).symm
   ·have hout : ∀ φ, (t, φ) ∉ H n := fun φ h => hin ⟨φ, h⟩
    rw [getD_fill_out _ _ hout]
    by_cases hk : ∃ k ok, k < n ∧ ops[k]? = some ok ∧ ok.dst = some t
    ·obtain ⟨k, ok, hkn, hok, hdk⟩ := hk
     exact (I.hit k ok t hkn hok (hL k hkn) hdk).2 hout
    ·have hno : ∀ (k : Nat) (ok : Oper), k < n → ops[k]? = some ok → ok.dst ≠ some t := fun k ok h1 h2 h3 => hk ⟨k, ok, h1, h2, h3⟩
     rw [I.miss t (fun k ok h1 h2 _ => hno k ok h1 h2)]
     exact (S.keep n (Nat.zero_le _) (Nat.le_refl _) fun i oi _ hi' hoi => hno i oi hi' hoi).symm
  have hdf : a.defers = (fill (H n) (fun t => a.tmps.getD t undef) (A n)).defers := by rw [defers_fill, hd, I.defers]
  obtain ⟨x, y⟩ := a
  generalize fill (H n) (fun t => (Act.mk x y).tmps.getD t undef) (A n) = b at *
  obtain ⟨x', y'⟩ := b
  simp only at ht hdf
  rw [ht, hdf]
end
theorem wpAny_of_inv {M : Nat → Prop} {w0 : World} {cs : List Nat} {n : Nat} {A : Nat → Act} {H : Nat → List (Tmp × (Value → World → Prop))} {D : Nat → St} {Q : Exit → Act → World → Prop}
  (S : Seqs P ops M w0 cs n A H D) (G : GB ops n cs (A 0).tmps.size) (hcs : ∀ i ∈ cs, i < n)
  (hq : ∀ xs w, GrowBut M w0 w → D n xs w → (∀ p ∈ H n, p.2 (xs p.1) w) → wpList P ops Q (ops.toList.drop n) (fill (H n) xs (A n)) w) :
  ∀ (m : Nat) (L : Array Bool) (a : Act) (w : World), RInv ops M w0 cs n A H D L a w → unl L n = m → wpAny P .any ops Q (m + (ops.size - n)) L a w := by
 -- where all that the walk asked is listed, the tail is left
 have last : ∀ (L : Array Bool) (a : Act) (w : World), RInv ops M w0 cs n A H D L a w → (∀ k, k < n → L.getD k true = true) →
   wpList P ops Q (ops.toList.drop n) a w := by
  intro L a w I hL
  have hL' : ∀ k, k < n → L.getD k false = true := fun k hk => by
   cases hb : L.getD k false
   ·have hlt : k < L.size := by rw [I.size]; have := G.le; omega
    have := getD_in hlt hb
    rw [hL k hk] at this; cases this
   ·rfl
  obtain ⟨h1, h2, h3, h4⟩ := I.fin S G hL' hcs
  rw [h4]
  exact hq _ w h1 h2 h3
 have least : ∀ (L : Array Bool) (a : Act) (w : World), RInv ops M w0 cs n A H D L a w → ∀ k, k < ops.size → L.getD k true = false → ∃ j, j ∈ Region.ready .any ops L := by
  intro L a w I k
  induction k using Nat.strongRecOn with
  | ind k ih =>
   intro hk hun
   by_cases h : ∀ e ∈ (ops[k]'hk).after, Region.binds .any e = true → L.getD e.on false = true
   ·exact ⟨k, mem_ready.2 ⟨hun, ops[k], by simp [hk], h⟩⟩
   ·have : ∃ e, e ∈ (ops[k]'hk).after ∧ Region.binds .any e = true ∧ L.getD e.on false = false := by
     refine Classical.byContradiction fun hn => h fun e he hb => ?_
     cases hb' : L.getD e.on false
     ·exact absurd ⟨e, he, hb, hb'⟩ hn
     ·rfl
    obtain ⟨e, he, hb, hf⟩ := this
    have hlo := G.low k ops[k] (by simp [hk]) e he hb
    exact ih e.on hlo (by omega) (getD_in (by rw [I.size]; omega) hf)
 intro m
 induction m with
 | zero =>
  intro L a w I hu
  have hall := unl_zero hu
  have hLe : L = Array.replicate n true ++ Array.replicate (ops.size - n) false := by
   have hle := G.le
   refine Array.ext (by rw [I.size]; simp; omega) fun i h1 h2 => ?_
   rw [Array.getElem_append]
   rcases Nat.lt_or_ge i n with h | h
   ·have h3 := hall i h
    rw [dif_pos (by simpa using h)]
    simp [h1] at h3
    simpa using h3
   ·have h3 := I.tail i h
    rw [dif_neg (by simpa using h)]
    simp [h1] at h3
    simpa using h3
  have hl := last L a w I hall
  have := wpAny_of_seq (md := .any) (ops := ops) (P := P) (Q' := Q) (ops.toList.drop n) n L a w (fun j => by simp) (by rw [List.length_drop, Array.length_toList, hLe]; exact G.seq) hl
  rw [List.length_drop, Array.length_toList] at this
  rw [Nat.zero_add]
  exact this
 | succ m ih =>
  intro L a w I hu
  -- something of the front is not listed
  have hsome : ∃ k, k < n ∧ L.getD k true = false := by
   refine Classical.byContradiction fun hno => ?_
   have : ∀ q, q ≤ n → unl L q = 0 := by
    intro q
    induction q with
    | zero => intro _; rfl
    | succ q ih =>
     intro hm
     rw [unl, ih (by omega)]
     cases hb : L.getD q true
     ·exact absurd ⟨q, by omega, hb⟩ hno
     ·simp
   rw [this _ (Nat.le_refl _)] at hu; omega
  obtain ⟨k, hk, hun⟩ := hsome
  have hle := G.le
  rw [Nat.succ_add]
  refine ⟨fun hnr => ?_, fun j hj => ?_⟩
  ·obtain ⟨j, hj⟩ := least L a w I k (by omega) hun
   rw [hnr] at hj; cases hj
  ·have hjn : j < n := by
    rcases Nat.lt_or_ge j n with h | h
    ·exact h
    ·obtain ⟨_, o, ho, _⟩ := mem_ready.1 hj
     have hjs : j < ops.size := (Array.getElem?_eq_some_iff.1 ho).1
     obtain ⟨h1, h2⟩ := G.sink (by omega)
     exact absurd hj (tail_waits h1 h2 (by omega) ⟨I.size, I.closed, fun t ht hts => getD_in (by rw [I.size]; exact hts) (I.tail t ht)⟩ _ k rfl hk hun j h)
   have hun' := (mem_ready.1 hj).1
   have hu' : unl (L.setIfInBounds j true) n = m := by have := unl_set L j hun' n hjn; omega
   exact I.step S G hjn hj fun a' w' I' => ih _ a' w' I' hu'
/-- **ONE WALK OF THE LEXICAL ORDER SERVES EVERY ORDER** of a region whose operations make new memory alone, but for the chain 'cs', which may turn the blocks of M. The last operations may be left over (all but the first 'n'), if they wait for all and for one another: they are walked plainly. -/
theorem wp_region_grow {id : Nat} {Q : Exit → Act → World → Prop} {a : Act} {w : World} {l : List Oper} (n : Nat) (cs : List Nat) (M : Nat → Prop) (C : World → Prop) (hm : P.follows .mixedOrders = true)
  (hB : growB l.toArray n cs a.tmps.size = true) (hcs : (cs.all fun i => decide (i < n)) = true) (hC : ∀ w w', Below w.heap.size w w' → C w → C w') (hC0 : C w)
  (h : wpH P l.toArray M w cs (fun a' hs C' => ∀ xs w', GrowBut M w w' → C' xs w' → (∀ p ∈ hs, p.2 (xs p.1) w') → wpList P l.toArray Q (l.drop n) (fill hs xs a') w') (l.take n) 0 a [] (fun _ => C)) :
  (Code.region id l.toArray true).wp P Q a w := by
 have G := growB_spec hB
 have hcs' : ∀ i ∈ cs, i < n := fun i hi => by have := List.all_eq_true.1 hcs i hi; simpa using this
 refine wp_region_any hm ?_
 obtain ⟨A, H, D, hA, hH, hD, hall, hq⟩ := wpH_seq _ _ _ _ _ h
 have hlen : (l.take n).length = n := by have := G.le; simp at this ⊢; omega
 rw [hlen] at hq
 simp only [Nat.zero_add] at hq hall
 subst hA
 have S : Seqs P l.toArray M w cs n A H D := by
  refine ⟨hH, fun j o hj ho => ?_, fun j hj => ?_, by rw [hD]; exact fun _ => hC, by rw [hD]; exact fun _ _ _ _ h => h⟩
  ·refine hall j o ?_
   rw [List.getElem?_take, if_pos hj]
   simpa using ho
  ·have : j < l.length := by have := G.le; simp at this; omega
   exact ⟨l[j], by simp [this]⟩
 have hmain := wpAny_of_inv S G hcs' (fun xs w' h1 h2 h3 => by simpa using hq xs w' h1 h2 h3) n (Array.replicate l.toArray.size false) (A 0) { w with drawn := w.drawn + 1 } ?_ ?_
 ·have : n + (l.toArray.size - n) = l.toArray.size := by have := G.le; omega
  rwa [this] at hmain
 ·refine ⟨by simp, ?_, ⟨rfl, rfl, rfl, Nat.le_refl _, fun _ _ _ => rfl⟩, ?_, ?_, ?_, rfl, rfl, fun t _ => getD_replicate_false _ _⟩
  ·intro j oj _ hL; rw [getD_replicate_false] at hL; cases hL
  ·intro k hk h1 _
   have : D k = D 0 := S.sameD k (Nat.zero_le _) hk fun i hi _ hik => by
    have := h1 i hi hik
    rw [getD_replicate_false] at this; cases this
   rw [this, hD]
   exact hC w _ ⟨rfl, rfl, rfl, Nat.le_refl _, fun _ _ => rfl⟩ hC0
  ·intro k ok t _ _ hL; rw [getD_replicate_false] at hL; cases hL
  ·intro t _; rfl
 ·have : ∀ m, m ≤ l.toArray.size → unl (Array.replicate l.toArray.size false) m = m := by
   intro m
   induction m with
   | zero => intro _; rfl
   | succ m ih =>
    intro hm
    rw [unl, ih (by omega)]
    have : (Array.replicate l.toArray.size false).getD m true = false := by
     have : m < l.toArray.size := by omega
     simp at this
     simp [this]
    rw [if_pos this]
  exact this _ G.le
end
end Go.Proofs.YtgckhdepnmiejaaGreat.K
namespace Go.Proofs.YtgckhdepnmiejaaGreat.K
section
open Go.RowKit Go.Proofs.YtgckhdepnmiejaaGreat
section
variable {P : Program} {ops : Array Oper} {M : Nat → Prop} {w0 : World} {cs : List Nat} {Qf : Act → List (Tmp × (Value → World → Prop)) → St → Prop}
 {o : Oper} {rest : List Oper} {k : Nat} {a : Act} {hs : List (Tmp × (Value → World → Prop))} {C : St}
theorem wpH_nil (h : Qf a hs C) : wpH P ops M w0 cs Qf [] k a hs C := h
theorem wpH_pure (hsel : (∀ cs b, o.op ≠ .select cs b)) (hc : cs.contains k = false) (hl : (hs.all fun p => !(o.looksAt ops).contains p.1) = true)
  (h : ∀ K : Act → Prop, (∀ a, wpH P ops M w0 cs Qf rest (k + 1) a hs C → K a) → if Region.wanted o (yielded ops a.tmps) then pureOp P o a K else K (a.put o.dst undef)) : wpH P ops M w0 cs Qf (o :: rest) k a hs C := by
 have h' := h _ (fun _ h => h)
 split at h'
 ·rename_i hw
  obtain ⟨v, hv, hk⟩ := h'
  refine ⟨_, _, _, Or.inr ⟨fun xs => by rw [(fill_out xs hl hsel).2]; exact hw, _, fun u w w' _ h => h, Or.inl ⟨v, rfl, rfl, rfl⟩, Or.inl ⟨rfl, hc, fun xs w _ _ _ => ?_⟩⟩, hk⟩
  unfold mildAt
  rw [(fill_out xs hl hsel).1]
  have := hv w
  generalize (execOp a.eval o).run P w = r at *
  cases r with
  | ok x w' =>
   cases x <;> simp only [pureUpon] at this <;> simp only [mildUpon]
   case value u => obtain ⟨rfl, rfl⟩ := this; exact ⟨rfl, Below.refl _ _⟩
   case skip => obtain ⟨rfl, rfl⟩ := this; exact ⟨rfl, Below.refl _ _⟩
  | halt x w' => simp only [pureUpon] at this
 ·rename_i hw
  exact ⟨_, _, _, Or.inl ⟨fun xs => by rw [(fill_out xs hl hsel).2]; simpa using hw, rfl, rfl, rfl⟩, h'⟩
theorem wpH_sdet (v : Value) (hc : cs.contains k = false) (hw : ∀ xs, Region.wanted o (yielded ops (fill hs xs a).tmps) = true)
  (h : ∀ xs w, GrowBut M w0 w → (seeB ops cs k = true → C xs w) → HF ops o hs xs w → mildAt P o (fill hs xs a) w (fun u _ => u = v) (fun w' => Below w.heap.size w w')) (hk : wpH P ops M w0 cs Qf rest (k + 1) (a.put o.dst v) hs C) :
  wpH P ops M w0 cs Qf (o :: rest) k a hs C :=
 ⟨_, _, _, Or.inr ⟨hw, _, fun u w w' _ h => h, Or.inl ⟨v, rfl, rfl, rfl⟩, Or.inl ⟨rfl, hc, h⟩⟩, hk⟩
theorem wpH_shid {d : Tmp} (φ : Value → World → Prop) (hd : o.dst = some d) (hc : cs.contains k = false) (hst : ∀ u w w', GrowBut M w w' → φ u w → φ u w') (hw : ∀ xs, Region.wanted o (yielded ops (fill hs xs a).tmps) = true)
  (h : ∀ xs w, GrowBut M w0 w → (seeB ops cs k = true → C xs w) → HF ops o hs xs w → mildAt P o (fill hs xs a) w φ (fun w' => Below w.heap.size w w')) (hk : wpH P ops M w0 cs Qf rest (k + 1) (a.put o.dst undef) ((d, φ) :: hs) C) :
  wpH P ops M w0 cs Qf (o :: rest) k a hs C :=
 ⟨_, _, _, Or.inr ⟨hw, φ, hst, Or.inr ⟨d, hd, rfl, rfl⟩, Or.inl ⟨rfl, hc, h⟩⟩, hk⟩
/-- The like, at an operation that looks at no hidden slot. -/
theorem wpH_sdet' (v : Value) (hsel : ∀ cs b, o.op ≠ .select cs b) (hc : cs.contains k = false) (hl : (hs.all fun p => !(o.looksAt ops).contains p.1) = true) (hw : Region.wanted o (yielded ops a.tmps) = true)
  (h : ∀ xs w, GrowBut M w0 w → (seeB ops cs k = true → C xs w) → mildAt P o a w (fun u _ => u = v) (fun w' => Below w.heap.size w w')) (hk : wpH P ops M w0 cs Qf rest (k + 1) (a.put o.dst v) hs C) :
  wpH P ops M w0 cs Qf (o :: rest) k a hs C :=
 wpH_sdet v hc (fun xs => by rw [(fill_out xs hl hsel).2]; exact hw) (fun xs w hg hC _ => mildAt_out xs hl hsel (h xs w hg hC)) hk
theorem wpH_shid' {d : Tmp} (φ : Value → World → Prop) (hsel : ∀ cs b, o.op ≠ .select cs b) (hd : o.dst = some d) (hc : cs.contains k = false) (hst : ∀ u w w', GrowBut M w w' → φ u w → φ u w') (hl : (hs.all fun p => !(o.looksAt ops).contains p.1) = true)
  (hw : Region.wanted o (yielded ops a.tmps) = true)
  (h : ∀ xs w, GrowBut M w0 w → (seeB ops cs k = true → C xs w) → mildAt P o a w φ (fun w' => Below w.heap.size w w')) (hk : wpH P ops M w0 cs Qf rest (k + 1) (a.put o.dst undef) ((d, φ) :: hs) C) :
  wpH P ops M w0 cs Qf (o :: rest) k a hs C :=
 wpH_shid φ hd hc hst (fun xs => by rw [(fill_out xs hl hsel).2]; exact hw) (fun xs w hg hC _ => mildAt_out xs hl hsel (h xs w hg hC)) hk
/-- An operation of the chain whose value is known. -/
theorem wpH_cdet (v : Value) (C' : St) (hc : cs.contains k = true) (hC : ∀ xs w w', Below w.heap.size w w' → C' xs w → C' xs w') (hL : Loc ops cs (k + 1) C') (hw : ∀ xs, Region.wanted o (yielded ops (fill hs xs a).tmps) = true)
  (h : ∀ xs w, GrowBut M w0 w → C xs w → HF ops o hs xs w → mildAt P o (fill hs xs a) w (fun u w' => u = v ∧ C' (upd xs o.dst u) w') (fun w' => GrowBut M w w')) (hk : wpH P ops M w0 cs Qf rest (k + 1) (a.put o.dst v) hs C') :
  wpH P ops M w0 cs Qf (o :: rest) k a hs C :=
 ⟨_, _, _, Or.inr ⟨hw, _, fun u w w' _ h => h, Or.inl ⟨v, rfl, rfl, rfl⟩, Or.inr ⟨⟨hC, hL⟩, hc, h⟩⟩, hk⟩
/-- An operation of the chain of whose value a property is known, and which the chain's state may name. -/
theorem wpH_chid {d : Tmp} (φ : Value → World → Prop) (C' : St) (hd : o.dst = some d) (hc : cs.contains k = true) (hst : ∀ u w w', GrowBut M w w' → φ u w → φ u w') (hC : ∀ xs w w', Below w.heap.size w w' → C' xs w → C' xs w') (hL : Loc ops cs (k + 1) C') (hw : ∀ xs, Region.wanted o (yielded ops (fill hs xs a).tmps) = true)
  (h : ∀ xs w, GrowBut M w0 w → C xs w → HF ops o hs xs w → mildAt P o (fill hs xs a) w (fun u w' => φ u w' ∧ C' (upd xs o.dst u) w') (fun w' => GrowBut M w w')) (hk : wpH P ops M w0 cs Qf rest (k + 1) (a.put o.dst undef) ((d, φ) :: hs) C') :
  wpH P ops M w0 cs Qf (o :: rest) k a hs C :=
 ⟨_, _, _, Or.inr ⟨hw, φ, hst, Or.inr ⟨d, hd, rfl, rfl⟩, Or.inr ⟨⟨hC, hL⟩, hc, h⟩⟩, hk⟩
end
end
end Go.Proofs.YtgckhdepnmiejaaGreat.K
namespace Go.Proofs.YtgckhdepnmiejaaGreat
section
set_option maxRecDepth 100000
open Go.RowKit
theorem infoSent : (Tryz.prog.info? 52).map (fun i => (i.zero, i.size, i.bytes)) = some (some (.agg #[.int .i64 0, .slice none 0 0]), 2, 32) := by kernel_rfl
/-- A row of this type lies in no block of another. -/
theorem row_ne {w : World} {base n size : Nat} {e T : TypeId} {v : Value} {xs : List Value} {B : Nat} {cs : Array Value} (h : w.ownsRow base e size v n xs) (hB : w.heap[B]? = some (.cells cs T (0, 0))) (hT : e ≠ T) : v.ownBlock ≠ some B := by
 intro hv
 rcases h.2 with ⟨rfl, _⟩ | ⟨g, cap, cur, rfl, _, hg, _⟩
 ·simp [Value.ownBlock] at hv
 ·obtain rfl : g = B := by simpa [Value.ownBlock] using hv
  rw [hB] at hg
  injection hg with hg
  injection hg with _ hg
  exact hT hg.symm
/-- What one packet more turns: the run, and the row of those that go out. -/
def Outs (R : Nat) (ov : Value) (k : Nat) : Prop := k = R ∨ ov.ownBlock = some k
theorem only_or {R : Nat} {v u : Value} {i : Nat} {w w' : World} (h : GrowBut (Outs R v) w w') : GrowBut (Outs R v) w (w'.setCell ⟨R, i, none⟩ u) := h.setCell (a := ⟨R, i, none⟩) (Or.inl rfl) u
/-- An append to what the call owns, in a region that draws its order. -/
theorem mild_append_own {P : Program} {o : Oper} {a : Act} {w : World} {φ : Value → World → Prop} {Rr : World → Prop} (s x : Operand) (t : TypeId)
  (ho : o.op = .call { callee := .builtin .append, args := #[s, x], argTypes := #[t, t] })
  (base : Nat) (e : TypeId) (i : TypeInfo) (z : Value) (size bytes : Nat) (ht : P.underlying t = some (.slice e)) (hi : P.info? e = some i) (hz : i.zero = some z) (hsize : i.size = size) (hby : i.bytes = bytes) (hzs : z.cells.size = size) (hsz : 0 < size)
  (v : Value) (n : Nat) (xs : List Value) (hs : a.eval s = v) (hown : w.ownsRow base e size v n xs) (ad : Addr) (m c : Nat) (news : List Value) (hx : a.eval x = .slice (some ad) m c) (hl : news.length = m * size)
  (hnews : ∀ j u, news[j]? = some u → w.cell? (ad.add j) = some u) (h1 : ∀ u ∈ news, u.oneCell' = true) (hm : 0 < m) (h63 : n + m ≤ maxLen) (hbytes : (n + m) * bytes ≤ 140737488355328) (hbase : base ≤ w.heap.size)
  (h : ∀ g cap w', w'.ownsRow base e size (.slice (some ⟨g, 0, none⟩) (n + m) cap) (n + m) (xs ++ news) → w.grownBy w' v.ownBlock → φ (.slice (some ⟨g, 0, none⟩) (n + m) cap) w' ∧ Rr w') : mildAt P o a w φ Rr := by
 obtain ⟨g, cap, w', hr, h2, h3, _, _⟩ := run_append_lies (P := P) w t o.type base e i z size bytes ht hi hz hsize hby hzs hsz v n xs hown ad m c news hl hnews h1 hm h63 hbytes hbase _ rfl
 unfold mildAt execOp
 simp only [ho, resolve, invoke, builtin, Sem.run_bind, Sem.run_pure, Result.andThen_ok, List.map_toArray, List.map_cons, List.map_nil, hs, hx, hr]
 exact h g cap w' h2 h3
/-- One element, in a block of its own. -/
def SentB (b0 : Nat) (port : Nat) (v : Value) (u : Value) (x : World) : Prop := ∃ B, u = .slice (some ⟨B, 0, none⟩) 1 1 ∧ x.heap[B]? = some (.cells #[.int .i64 port, v] 52 (0, 0)) ∧ b0 ≤ B
theorem SentB.stay {M : Nat → Prop} {b0 port : Nat} {v u : Value} {x x' : World} (h : SentB b0 port v u x) (hg : GrowBut M x x') (hM : ∀ k, M k → k < b0) : SentB b0 port v u x' := by
 obtain ⟨B, h1, h2, h3⟩ := h
 exact ⟨B, h1, (hg.block B (lt_of_block h2) (fun hm => by have := hM B hm; omega)).trans h2, h3⟩
set_option maxHeartbeats 4000000 in
theorem sent_any {w : World} {BR BP R port base n xn xc : Nat} {xa : Option Addr} {r : Rn} {xs : List Value} (hBR : w.heap[BR]? = some (.cells #[.pointer (some ⟨R, 0, none⟩)] 111 (0, 0))) (hBP : w.heap[BP]? = some (.cells #[.int .i64 port] 3 (0, 0)))
  (hR : RunAt w R r) (hown : w.ownsRow base 52 2 r.out n xs) (hbase : base ≤ w.heap.size) (hn : n ≤ 100000) (hBRR : BR ≠ R) (hBPR : BP ≠ R) :
  Calls Tryz.prog 94 #[.slice xa xn xc, .pointer (some ⟨BR, 0, none⟩), .pointer (some ⟨BP, 0, none⟩)] w fun e w' => (∃ v, e = .returned v) ∧ ∃ ov, RunAt w' R { r with out := ov } ∧ w'.ownsRow base 52 2 ov (n + 1) (xs ++ [.int .i64 port, .slice xa xn xc]) ∧ GrowBut (Outs R r.out) w w' := by
 obtain ⟨i0, hi, hz0, hz1, hz2⟩ := info_parts infoSent
 obtain ⟨f, own, mtus, bk, pk, ⟨tos, id, evil, df, mf, of, ttl, proto, src, dst, hv, os⟩, kind, pt, drop, err, loc, ov⟩ := r
 unfold RunAt Rn.cells at hR
 dsimp only at *
 have n1 := row_ne hown hR (by decide)
 have n2 := row_ne hown hBR (by decide)
 have n3 := row_ne hown hBP (by decide)
 have HR := Lib.hid hR
 have l1 := lt_of_block hR
 have l2 := lt_of_block hBR
 have l3 := lt_of_block hBP
 have hL := (blkR hR).2.2.2.2.2.2
 have hA := cell_of_one hBR
 have hB := cell_of_one hBP
 have hzz := (blkRz hR).2.2.2.2.2.2
 have hs : ∃ oa oc, ov = .slice oa n oc := by
  rcases hown.2 with ⟨rfl, h3⟩ | ⟨g, cap, cur, rfl, _⟩
  ·exact ⟨none, 0, by rw [h3]⟩
  ·exact ⟨_, cap, rfl⟩
 obtain ⟨oa, oc, rfl⟩ := hs
 have HO := Lib.hid hown
 clear hR hown
 have HN1 : Hid (¬ Outs R (.slice oa n oc) BR) := fun h => by rcases h with h | h; exact hBRR h; exact n2 h
 have HN2 : Hid (¬ Outs R (.slice oa n oc) BP) := fun h => by rcases h with h | h; exact hBPR h; exact n3 h
 have HN4 : Hid (∀ k, Outs R (.slice oa n oc) k → k < w.heap.size) := fun k h => by
  rcases h with h | h
  ·rw [show k = R from h]; exact l1
  ·rcases HO.out.2 with ⟨e, _⟩ | ⟨g, cap, cur, e, _, hg, _⟩
   ·rw [e] at h; simp [Value.ownBlock] at h
   ·rw [e] at h
    have e2 : g = k := by simpa [Value.ownBlock] using h
    rw [← e2]; exact lt_of_block hg
 have HAB := Lib.hid (And.intro hA hB)
 have HNN := Lib.hid hn
 have HBS := Lib.hid hbase
 clear hA hB n1 n2 n3 hL hzz hBR hBP hBRR hBPR l1 l2 l3 hn hbase
 go_enter Tryz.func94, Tryz.ntmps94
 go_wp2_with fail
 refine K.wp_region_grow 15 [10, 14] (Outs R (.slice oa n oc)) (fun x => x.heap[R]? = some (.cells #[f, .int .u32 own, mtus, bk, pk, .int .u8 tos, .int .u16 id, .bool evil, .bool df, .bool mf, .int .i64 of, .int .u8 ttl, .int .u8 proto, .int .u32 src, .int .u32 dst, hv, .int .i64 kind, .int .i64 pt, .int .i64 drop, .int .i64 err, loc, .slice oa n oc] 114 (0, 0)) ∧ x.ownsRow base 52 2 (.slice oa n oc) n xs) (by kernel_rfl) (by kernel_rfl) (by rfl) (fun x x' hb hx => ⟨(hb.block _ (lt_of_block hx.1)).trans hx.1, own_grow hx.2 hb⟩) ⟨HR.out, HO.out⟩ ?_
 simp only [List.take_succ_cons, List.take_zero, List.drop_succ_cons, List.drop_zero]
 refine K.wpH_sdet' (.pointer (some ⟨R, 0, none⟩)) (by intro _ _ h; cases h) (by rfl) (by rfl) (by rfl) (fun xs' w' hg hC => ?_) ?_
 ·have hx := hg.cell HAB.out.1 HN1.out
  clear hg hC
  go_simp
  exact Below.refl _ _
 try go_simp
 refine K.wpH_sdet' (.pointer (some ⟨R, 0, none⟩)) (by intro _ _ h; cases h) (by rfl) (by rfl) (by rfl) (fun xs' w' hg hC => ?_) ?_
 ·have hx := hg.cell HAB.out.1 HN1.out
  clear hg hC
  go_simp
  exact Below.refl _ _
 try go_simp
 repeat (refine K.wpH_pure (by intro _ _ h; cases h) (by rfl) (by rfl) (fun K hK => ?_); go_simp; refine hK _ ?_; clear hK K)
 refine K.wpH_sdet' (.slice oa n oc) (by intro _ _ h; cases h) (by rfl) (by rfl) (by rfl) (fun xs' w' hg hC => ?_) ?_
 ·have hx := (blkR (hC (by kernel_rfl)).1).2.2.2.2.2.2
  clear hg hC
  go_simp
  exact Below.refl _ _
 try go_simp
 refine K.wpH_sdet' (.int .i64 port) (by intro _ _ h; cases h) (by rfl) (by rfl) (by rfl) (fun xs' w' hg hC => ?_) ?_
 ·have hx := hg.cell HAB.out.2 HN2.out
  clear hg hC
  go_simp
  exact Below.refl _ _
 try go_simp
 repeat (refine K.wpH_pure (by intro _ _ h; cases h) (by rfl) (by rfl) (fun K hK => ?_); go_simp; refine hK _ ?_; clear hK K)
 refine K.wpH_shid' (SentB w.heap.size port (.slice xa xn xc)) (by intro _ _ h; cases h) rfl (by rfl) (fun u x x' hg h => h.stay hg HN4.out) (by rfl) (by rfl) (fun xs' w' hg hC => ?_) ?_
 ·have hn := heap_alloc_new w' (.cells #[.int .i64 port, .slice xa xn xc] 52)
  have hs := hg.size
  have HS : Hid (SentB w.heap.size port (.slice xa xn xc) (.slice (some ⟨w'.heap.size, 0, none⟩) 1 1) (w'.alloc (.cells #[.int .i64 port, .slice xa xn xc] 52))) := ⟨w'.heap.size, rfl, hn, hs⟩
  clear hg hC hn hs
  go_simp
  exact ⟨HS.out, (Below.refl _ _).alloc (Nat.le_refl _) _⟩
 try go_simp
 refine K.wpH_chid (fun u _ => ∃ a c, u = .slice a (n + 1) c) (fun ys x => x.heap[R]? = some (.cells #[f, .int .u32 own, mtus, bk, pk, .int .u8 tos, .int .u16 id, .bool evil, .bool df, .bool mf, .int .i64 of, .int .u8 ttl, .int .u8 proto, .int .u32 src, .int .u32 dst, hv, .int .i64 kind, .int .i64 pt, .int .i64 drop, .int .i64 err, loc, .slice oa n oc] 114 (0, 0)) ∧ x.ownsRow base 52 2 (ys 14) (n + 1) (xs ++ [.int .i64 port, .slice xa xn xc])) rfl (by rfl) (fun u x x' hg h => h)
  (fun ys x x' hb hx => ⟨(hb.block _ (lt_of_block hx.1)).trans hx.1, own_grow hx.2 hb⟩) (fun ys zs x he hx => by have := he 10 _ 14 (by decide) (by decide) rfl rfl; dsimp only at hx ⊢; rw [← this]; exact hx) (fun xs => by rfl) (fun ys w' hg hC hf => ?_) ?_
 ·have h1 := hf _ (List.Mem.head _) (by rfl)
  try dsimp only at h1
  obtain ⟨B, hB1, hB2, hB3⟩ := h1
  refine mild_append_own _ _ _ (by rfl) base 52 i0 _ 2 32 Tryz.underlying46 hi hz0 hz1 hz2 rfl (by omega) (.slice oa n oc) n xs (by rfl) hC.2 ⟨B, 0, none⟩ 1 1 [.int .i64 port, .slice xa xn xc] (by simp only [fill]; exact hB1) (by rfl) (World.news_of_block (cs := #[.int .i64 port, .slice xa xn xc]) hB2) (by simp [Value.oneCell'])
   (by omega) (by have := HNN.out; unfold maxLen; omega) (by have := HNN.out; omega) (Nat.le_trans HBS.out hg.size) (fun g cap w1 hown hgrow => ⟨⟨⟨_, _, rfl⟩, ?_, ?_⟩, ?_⟩)
  ·exact (hgrow.block R (lt_of_block hC.1) (Ne.symm (row_ne hC.2 hC.1 (by decide)))).trans hC.1
  ·unfold K.upd; simpa using hown
  ·exact ⟨hgrow.os, hgrow.tape, hgrow.output, hgrow.size, fun k hk hn => hgrow.block k hk (fun e => hn (Or.inr e.symm))⟩
 try go_simp
 repeat (refine K.wpH_pure (by intro _ _ h; cases h) (by rfl) (by rfl) (fun K hK => ?_); go_simp; refine hK _ ?_; clear hK K)
 refine K.wpH_cdet undef (fun ys x => x.heap[R]? = some (.cells #[f, .int .u32 own, mtus, bk, pk, .int .u8 tos, .int .u16 id, .bool evil, .bool df, .bool mf, .int .i64 of, .int .u8 ttl, .int .u8 proto, .int .u32 src, .int .u32 dst, hv, .int .i64 kind, .int .i64 pt, .int .i64 drop, .int .i64 err, loc, ys 14] 114 (0, 0)) ∧ x.ownsRow base 52 2 (ys 14) (n + 1) (xs ++ [.int .i64 port, .slice xa xn xc])) (by rfl)
  (fun ys x x' hb hx => ⟨(hb.block _ (lt_of_block hx.1)).trans hx.1, own_grow hx.2 hb⟩) (fun ys zs x he hx => by have := he 10 _ 14 (by decide) (by decide) rfl rfl; dsimp only at hx ⊢; rw [← this]; exact hx) (fun xs => by rfl) (fun ys w' hg hC hf => ?_) ?_
 ·have h1 := hf _ (List.Mem.head _) (by rfl)
  try dsimp only at h1
  simp only [fill]
  obtain ⟨ya, yc, hy⟩ := h1
  have hz := (blkRz hC.1).2.2.2.2.2.2
  have hy0 := (blkR hC.1).2.2.2.2.2.2
  have HC := Lib.hid hC
  generalize ys 13 = y13 at *
  have HU : Hid (K.upd ys none undef 14 = ys 14) := by show _ = _; unfold K.upd; simp
  generalize ys 14 = y14 at *
  subst hy
  clear hg hC hf
  go_simp
  refine ⟨⟨?_, ?_⟩, only_or (GrowBut.refl _ _)⟩
  ·rw [HU.out]; exact heap_setCell_same _ _ 21 _ _ _ HC.out.1
  ·rw [HU.out]; exact own_far HC.out.2 HC.out.1 (by decide) (fun k hk => Below.heap_setCell _ _ _ _ hk)
 refine K.wpH_nil ?_
 intro ys w3 hg hC hx
 have HG3 := Lib.hid hg
 have HC3 := Lib.hid hC
 clear hg hC hx
 simp only [fill]
 generalize ys 13 = y13 at *
 generalize ys 14 = y14 at *
 go_simp
 go_wp2_with fail
 go_end0
 exact ⟨⟨_, rfl⟩, y14, HC3.out.1, HC3.out.2, HG3.out⟩
end
end Go.Proofs.YtgckhdepnmiejaaGreat
namespace Go.Proofs.YtgckhdepnmiejaaGreat
section
set_option maxRecDepth 100000
open Go.RowKit
def isR (k : Int) : Bool := k == 131 || k == 137
def routedO (os : List Int) : Bool := (kindsO os).any isR
set_option maxHeartbeats 1000000 in
theorem rc_any (k : Int) (d : Value) (w : World) : Calls Tryz.prog 15 #[.agg #[.int .u8 k, d]] w fun e w' => e = .returned (.bool (isR k)) ∧ Grow w w' := by
 have HG : Hid (Grow w (w.alloc (.cells #[.int .u8 k, d] 68))) := (Grow.refl w).alloc _
 by_cases h1 : k = 131
 ·subst h1
  go_enter Tryz.func15, Tryz.ntmps15
  go_wp2_with fail
  go_ret
  exact ⟨rfl, HG.out⟩
 ·have e1 : (k == 131) = false := by simpa using h1
  by_cases h2 : k = 137
  ·subst h2
   go_enter Tryz.func15, Tryz.ntmps15
   go_wp2_with fail
   go_ret
   exact ⟨rfl, HG.out⟩
  ·have e2 : (k == 137) = false := by simpa using h2
   have HR : Hid (isR k = false) := by show _ = _; unfold isR; rw [e1, e2]; rfl
   go_enter Tryz.func15, Tryz.ntmps15
   go_wp2_with fail
   go_ret
   exact ⟨by rw [HR.out] <;> first | rfl | simp, HG.out⟩
set_option maxHeartbeats 1000000 in
theorem ixr_nil (w : World) : Calls Tryz.prog 36 #[.slice none 0 0, .func (.func 15) #[] #[]] w fun e w' => e = .returned (.int .i64 (-1)) ∧ Grow w w' := by
 have HG := Lib.hid (Grow.refl w)
 go_enter Tryz.func36, Tryz.ntmps36
 go_wp2_with fail
 go_loopw [8] (fun i wr => i = .int .i64 0 ∧ w = wr) (fun i _ => 0)
 case atStart => exact ⟨rfl, rfl⟩
 case round =>
  obtain ⟨rfl, rfl⟩ := hrel
  go_wp2_with fail
  go_ret
  exact ⟨rfl, HG.out⟩
theorem takeR_any {ks : List Int} {k : Nat} (h : k < ks.length) : (ks.take (k + 1)).any isR = ((ks.take k).any isR || isR (ks.getD k 0)) := by
 rw [List.take_succ_eq_append_getElem h, List.any_append]
 simp [h]
theorem any_of {ks : List Int} {k : Nat} (h : k < ks.length) (hr : isR (ks.getD k 0) = true) : ks.any isR = true := by
 rw [List.any_eq_true]
 exact ⟨ks.getD k 0, by simp [h], hr⟩
set_option maxHeartbeats 2000000 in
theorem ixr_some {g n cap : Nat} {ks : List Int} {w : World} (hn : ks.length = n) (hcap : n ≤ cap) (hm : cap ≤ maxLen) (hc : ∀ i, i < n → w.cell? ⟨g, 2 * i, none⟩ = some (.int .u8 (ks.getD i 0)) ∧ ∃ d, w.cell? ⟨g, 2 * i + 1, none⟩ = some d) :
  Calls Tryz.prog 36 #[.slice (some ⟨g, 0, none⟩) n cap, .func (.func 15) #[] #[]] w fun e w' => ∃ i : Int, e = .returned (.int .i64 i) ∧ decide (0 ≤ i) = ks.any isR ∧ Grow w w' := by
 have HC := Lib.hid hc
 have HN := Lib.hid hn
 have HR : Hid (∀ k d x, Calls Tryz.prog 15 #[.agg #[.int .u8 k, d]] x fun e w' => e = .returned (.bool (isR k)) ∧ Grow x w') := rc_any
 have HG := Lib.hid (Grow.refl w)
 unfold maxLen at hm
 clear hc hn
 go_enter Tryz.func36, Tryz.ntmps36
 go_wp2_with fail
 go_loopw [8] (fun i wr => ∃ k : Nat, k ≤ n ∧ i = .int .i64 k ∧ Hid ((ks.take k).any isR = false) ∧ Hid (Grow w wr)) (fun i _ => n - (intOf i).toNat)
 case atStart => exact ⟨0, Nat.zero_le _, rfl, rfl, Grow.refl _⟩
 case round =>
  obtain ⟨k, hk, rfl, HT, HW⟩ := hrel
  by_cases hlt : k < n
  ·have hk1 : (k : Int) < (n : Int) := by omega
   have c0 := (HW.out.cell (block_lt (HC.out k hlt).1)).trans (HC.out k hlt).1
   obtain ⟨d, hd⟩ := (HC.out k hlt).2
   have c1 := (HW.out.cell (block_lt hd)).trans hd
   have HX : Hid (k < ks.length) := by show _ < _; rw [HN.out]; exact hlt
   have HTk := Lib.hid (takeR_any HX.out)
   have HAk : Hid (isR (ks.getD k 0) = true → ks.any isR = true) := fun h => any_of HX.out h
   obtain ⟨x, hx⟩ : ∃ x, ks.getD k 0 = x := ⟨_, rfl⟩
   rw [hx] at c0 HTk HAk
   rw [Nat.mul_comm] at c0 c1
   clear hd hx
   go_wp2_with fail
   have HCl := Lib.hid (HR.out x d wr)
   with_reducible refine HCl.out.mono ?_
   rintro e w1 ⟨rfl, hg⟩
   have HG1 := Lib.hid (HW.out.trans hg)
   clear c0 c1 hg HCl
   cases hr : isR x
   ·have HT1 : Hid ((ks.take (k + 1)).any isR = false) := by show _ = _; rw [HTk.out, HT.out, hr]; rfl
    clear HTk HAk hr
    go_wp2_with fail
    refine ⟨⟨k + 1, by omega, by first | rfl | simp, HT1, HG1⟩, ?_⟩
    simp [intOf]; omega
   ·have HA1 := Lib.hid (HAk.out hr)
    clear HTk HAk hr
    go_wp2_with fail
    go_ret
    exact ⟨_, rfl, by rw [HA1.out]; simp, HG1.out⟩
  ·have hk1 : k = n := by omega
   subst hk1
   have HF : Hid (ks.any isR = false) := by
    have := HT.out
    rwa [List.take_of_length_le (by rw [HN.out]; exact Nat.le_refl _)] at this
   go_wp2_with fail
   go_ret
   exact ⟨_, rfl, by rw [HF.out]; rfl, HW.out⟩
theorem ixr_any {W : World} {n0 : Nat} {v : Value} {ks : List Int} (h : OptsIs W n0 v ks) (w : World) (hg : Grow W w) :
  Calls Tryz.prog 36 #[v, .func (.func 15) #[] #[]] w fun e w' => ∃ i : Int, e = .returned (.int .i64 i) ∧ decide (0 ≤ i) = ks.any isR ∧ Grow w w' := by
 obtain ⟨xs, hr, hx⟩ := h
 have hl := hr.1
 rcases hr.2 with ⟨rfl, h0⟩ | ⟨g, cap, cur, rfl, _, _, h1, h2, _⟩
 ·have : ks = [] := List.eq_nil_of_length_eq_zero h0
  subst this
  refine (ixr_nil w).mono ?_
  rintro e w' ⟨rfl, hg⟩
  exact ⟨_, rfl, rfl, hg⟩
 ·refine ixr_some rfl h1 h2 (fun i hi => ?_)
  have a0 := hr.cellAt (2 * i) (by omega)
  have a1 := hr.cellAt (2 * i + 1) (by omega)
  rw [hx i hi] at a0
  have e1 : xs[2 * i + 1]? = some (xs[2 * i + 1]'(by omega)) := List.getElem?_eq_getElem (by omega)
  rw [e1] at a1
  exact ⟨(hg.cell (block_lt a0)).trans a0, _, (hg.cell (block_lt a1)).trans a1⟩
set_option maxHeartbeats 1000000 in
theorem contains_opt {W : World} {n0 : Nat} {v : Value} {ks : List Int} (h : OptsIs W n0 v ks) (w : World) (hg : Grow W w) :
  Calls Tryz.prog 14 #[v, .func (.func 15) #[] #[]] w fun e w' => e = .returned (.bool (ks.any isR)) ∧ Grow w w' := by
 have HI := Lib.hid (ixr_any h w hg)
 clear h hg
 go_enter Tryz.func14, Tryz.ntmps14
 go_wp2_with fail
 with_reducible refine HI.out.mono ?_
 rintro e w1 ⟨i, rfl, hd, hg⟩
 have HG := Lib.hid hg
 have HD := Lib.hid hd
 clear hg hd
 go_wp2_with fail
 go_ret
 exact ⟨by rw [← HD.out] <;> first | rfl | simp, HG.out⟩
set_option maxHeartbeats 1000000 in
theorem routed_any {os : List Int} {v : Value} {w : World} (hv : BytesV w v os) (h0 : 0 < w.heap.size) (hl : os.length ≤ 1048576) (hg : goodO os = true) :
  Calls Tryz.prog 5 #[v] w fun e w' => e = .returned (.bool (routedO os)) ∧ Grow w w' := by
 have HO := Lib.hid (options_any v os w hv h0 hl)
 have HGd := Lib.hid hg
 clear hv hg hl h0
 go_enter Tryz.func5, Tryz.ntmps5
 go_wp2_with fail
 with_reducible refine HO.out.mono ?_
 rintro e w1 (⟨_, u, rfl, ho, hg⟩ | ⟨h, _⟩)
 ·have HG := Lib.hid hg
  have HC := Lib.hid (contains_opt ho w1 (Grow.refl _))
  clear ho hg
  go_wp2_with fail
  with_reducible refine HC.out.mono ?_
  rintro e w2 ⟨rfl, hg⟩
  have HG2 := Lib.hid (HG.out.trans hg)
  clear hg
  go_wp2_with fail
  go_ret
  exact ⟨rfl, HG2.out⟩
 ·rw [HGd.out] at h; cases h
end
end Go.Proofs.YtgckhdepnmiejaaGreat
namespace Go.Proofs.YtgckhdepnmiejaaGreat
section
set_option maxRecDepth 100000
open Go.RowKit
def chunk (os : List Int) (p : Nat) : List Int := (os.drop p).take (stepN os p)
def copAt (os : List Int) (l : List Nat) : List Int := ((l.filter fun p => decide (128 ≤ os.getD p 0)).map (chunk os)).flatten
def padN (n : Nat) : Nat := (4 - n % 4) % 4
def copO (os : List Int) : List Int := copAt os (steps os) ++ List.replicate (padN (copAt os (steps os)).length) 0
theorem copAt_hit {os : List Int} {l : List Nat} {p : Nat} (h : 128 ≤ os.getD p 0) : copAt os (l ++ [p]) = copAt os l ++ chunk os p := by
 have e : ([p].filter fun p => decide (128 ≤ os.getD p 0)) = [p] := by rw [List.filter_cons, if_pos (decide_eq_true h)]; rfl
 unfold copAt
 rw [List.filter_append, e, List.map_append, List.flatten_append]
 simp
theorem copAt_miss {os : List Int} {l : List Nat} {p : Nat} (h : ¬ 128 ≤ os.getD p 0) : copAt os (l ++ [p]) = copAt os l := by
 have e : ([p].filter fun p => decide (128 ≤ os.getD p 0)) = [] := by rw [List.filter_cons, if_neg (by simpa using h)]; rfl
 unfold copAt
 rw [List.filter_append, e, List.append_nil]
theorem chunk_length {os : List Int} {p : Nat} (h : p < os.length) : (chunk os p).length = stepN os p := by
 unfold chunk; rw [List.length_take, List.length_drop]; have := stepN_le h; omega
theorem chunk_bytes {os : List Int} (h : Bytes os) (p : Nat) : Bytes (chunk os p) := fun x hx => h x (List.mem_of_mem_drop (List.mem_of_mem_take hx))
theorem copAt_bytes {os : List Int} (h : Bytes os) (l : List Nat) : Bytes (copAt os l) := by
 intro x hx
 unfold copAt at hx
 obtain ⟨c, hc, hx⟩ := List.mem_flatten.1 hx
 obtain ⟨p, _, rfl⟩ := List.mem_map.1 hc
 exact chunk_bytes h p x hx
theorem copO_bytes {os : List Int} (h : Bytes os) : Bytes (copO os) := (copAt_bytes h _).append (fun x hx => by rw [List.eq_of_mem_replicate hx]; omega)
theorem copAt_len (os : List Int) : ∀ (k p : Nat), (copAt os (stepsF k os p)).length ≤ os.length - p := by
 intro k
 induction k with
 | zero => intro p; simp [stepsF, copAt]
 | succ k ih =>
  intro p
  rw [stepsF]
  split
  ·rename_i h
   have hl := chunk_length h.1
   have hle := stepN_le h.1
   have e : ∀ r : List Nat, (copAt os (p :: r)).length ≤ stepN os p + (copAt os r).length := by
    intro r
    unfold copAt
    rw [List.filter_cons]
    split
    ·rw [List.map_cons, List.flatten_cons, List.length_append, hl]; exact Nat.le_refl _
    ·omega
   split
   ·rename_i h0
    have := e []
    have e0 : (copAt os []).length = 0 := rfl
    omega
   ·have := e (stepsF k os (p + stepN os p))
    have := ih (p + stepN os p)
    omega
  ·simp [copAt]
theorem copO_len {os : List Int} (h4 : os.length % 4 = 0) : (copO os).length ≤ os.length ∧ (copO os).length % 4 = 0 := by
 have h : (copAt os (steps os)).length ≤ os.length := copAt_len os (os.length - 0) 0
 have e : (copO os).length = (copAt os (steps os)).length + padN (copAt os (steps os)).length := by unfold copO; rw [List.length_append, List.length_replicate]
 rw [e]
 unfold padN
 omega
/-- The bytes of one option. -/
def IsChunk (c : List Int) : Prop := ∃ k n r, c = k :: n :: r ∧ 128 ≤ k ∧ n = (c.length : Int)
theorem steps_mem {os : List Int} : ∀ (k p q : Nat), q ∈ stepsF k os p → q < os.length ∧ os.getD q 0 ≠ 0 := by
 intro k
 induction k with
 | zero => intro p q h; cases h
 | succ k ih =>
  intro p q h
  rw [stepsF] at h
  split at h
  ·rename_i hp
   rcases List.mem_cons.1 h with rfl | h
   ·exact hp
   ·split at h
    ·cases h
    ·exact ih _ _ h
  ·cases h
theorem two_of {l : List Int} (h : 2 ≤ l.length) : ∃ r, l = l.getD 0 0 :: l.getD 1 0 :: r := by
 match l, h with
 | a :: b :: r, _ => exact ⟨r, rfl⟩
theorem chunk_is {os : List Int} {p : Nat} (hp : p < os.length) (hk : 128 ≤ os.getD p 0) (hs : stepN os p ≠ 0) : IsChunk (chunk os p) ∧ (chunk os p).headD 0 = os.getD p 0 := by
 have hl := chunk_length hp
 have h2 := stepN_two (os := os) (p := p) (by omega) hs
 obtain ⟨r, hr⟩ := two_of (l := chunk os p) (by omega)
 have g0 : (chunk os p).getD 0 0 = os.getD p 0 := by
  unfold chunk
  simp only [List.getD_eq_getElem?_getD]
  rw [List.getElem?_take_of_lt (by omega), List.getElem?_drop, Nat.add_zero]
 have g1 : (chunk os p).getD 1 0 = os.getD (p + 1) 0 := by
  unfold chunk
  simp only [List.getD_eq_getElem?_getD]
  rw [List.getElem?_take_of_lt (by omega), List.getElem?_drop]
 rw [g0, g1] at hr
 have hn : os.getD (p + 1) 0 = (stepN os p : Int) := by
  unfold stepN at hs ⊢
  rw [if_neg (by omega)] at hs ⊢
  split at hs
  ·rename_i h; rw [if_pos h]; have := h.2.1; omega
  ·exact absurd rfl hs
 refine ⟨⟨_, _, r, hr, hk, by rw [hl]; exact hn⟩, by rw [hr]; rfl⟩
theorem getD_pre (pre l : List Int) (i : Nat) : (pre ++ l).getD (pre.length + i) 0 = l.getD i 0 := by
 simp only [List.getD_eq_getElem?_getD]
 rw [List.getElem?_append_right (by omega), Nat.add_sub_cancel_left]
theorem steps_chunks : ∀ (cs : List (List Int)) (pre : List Int) (z : Nat), (∀ c ∈ cs, IsChunk c) →
  ((stepsFrom (pre ++ (cs.flatten ++ List.replicate z 0)) pre.length).all fun p => stepN (pre ++ (cs.flatten ++ List.replicate z 0)) p != 0) = true ∧
  (stepsFrom (pre ++ (cs.flatten ++ List.replicate z 0)) pre.length).map (fun p => (pre ++ (cs.flatten ++ List.replicate z 0)).getD p 0) = cs.map (·.headD 0) := by
 intro cs
 induction cs with
 | nil =>
  intro pre z _
  have e : (pre ++ (([] : List (List Int)).flatten ++ List.replicate z 0)).getD pre.length 0 = 0 := by
   have := getD_pre pre (([] : List (List Int)).flatten ++ List.replicate z 0) 0
   rw [Nat.add_zero] at this
   rw [this]
   cases z <;> rfl
  rw [stepsFrom_eq, if_neg (by rw [e]; simp)]
  exact ⟨rfl, rfl⟩
 | cons c cs ih =>
  intro pre z h
  obtain ⟨k, n, r, hc, hk, hn⟩ := h c (List.mem_cons_self ..)
  have hih := ih (pre ++ c) z (fun d hd => h d (List.mem_cons_of_mem _ hd))
  have eL : pre ++ ((c :: cs).flatten ++ List.replicate z 0) = (pre ++ c) ++ (cs.flatten ++ List.replicate z 0) := by simp
  rw [eL]
  generalize hL : (pre ++ c) ++ (cs.flatten ++ List.replicate z 0) = L at *
  have hLl : pre.length + c.length ≤ L.length := by rw [← hL, List.length_append, List.length_append]; omega
  have hcl : 2 ≤ c.length := by rw [hc]; simp
  have hL2 : L = pre ++ (c ++ (cs.flatten ++ List.replicate z 0)) := by rw [← hL, List.append_assoc]
  have g0 : L.getD pre.length 0 = k := by
   have := getD_pre pre (c ++ (cs.flatten ++ List.replicate z 0)) 0
   rw [Nat.add_zero] at this
   rw [hL2, this, hc]; rfl
  have g1 : L.getD (pre.length + 1) 0 = n := by
   rw [hL2, getD_pre, hc]; rfl
  have hst : stepN L pre.length = c.length := by
   unfold stepN
   rw [g0, g1, if_neg (by omega), if_pos ⟨by omega, by omega, by omega⟩]
   omega
  have hc0 : ¬ c.length = 0 := by omega
  have hpl : pre.length < L.length := by omega
  have hk0 : L.getD pre.length 0 ≠ 0 := by rw [g0]; omega
  rw [stepsFrom_eq, if_pos ⟨hpl, hk0⟩, hst, if_neg hc0]
  rw [List.length_append] at hih
  refine ⟨?_, ?_⟩
  ·rw [List.all_cons, hst, hih.1]
   have : (c.length != 0) = true := bne_iff_ne.2 hc0
   rw [this]; rfl
  ·rw [List.map_cons, List.map_cons, hih.2, g0, hc]; rfl
theorem cop_chunks {os : List Int} (h : goodO os = true) : ∀ c ∈ ((steps os).filter fun p => decide (128 ≤ os.getD p 0)).map (chunk os), IsChunk c := by
 intro c hc
 obtain ⟨p, hp, rfl⟩ := List.mem_map.1 hc
 obtain ⟨hp, hk⟩ := List.mem_filter.1 hp
 have hs : stepN os p ≠ 0 := by simpa using (List.all_eq_true.1 h) p hp
 exact (chunk_is (steps_mem _ _ _ hp).1 (of_decide_eq_true hk) hs).1
theorem copO_steps {os : List Int} (h : goodO os = true) : ((steps (copO os)).all fun p => stepN (copO os) p != 0) = true ∧ (steps (copO os)).map (fun p => (copO os).getD p 0) = (((steps os).filter fun p => decide (128 ≤ os.getD p 0)).map (chunk os)).map (·.headD 0) :=
 steps_chunks _ [] _ (cop_chunks h)
theorem copO_good {os : List Int} (h : goodO os = true) : goodO (copO os) = true := (copO_steps h).1
theorem copO_routed {os : List Int} (h : goodO os = true) (hr : routedO os = false) : routedO (copO os) = false := by
 unfold routedO kindsO kindsAt
 rw [(copO_steps h).2, Bool.eq_false_iff]
 intro ha
 obtain ⟨k, hk, hR⟩ := List.any_eq_true.1 ha
 obtain ⟨hk, _⟩ := List.mem_filter.1 hk
 obtain ⟨c, hc, rfl⟩ := List.mem_map.1 hk
 obtain ⟨p, hp, rfl⟩ := List.mem_map.1 hc
 obtain ⟨hp, h128⟩ := List.mem_filter.1 hp
 have h128 := of_decide_eq_true h128
 have hs : stepN os p ≠ 0 := by simpa using (List.all_eq_true.1 h) p hp
 rw [(chunk_is (steps_mem _ _ _ hp).1 h128 hs).2] at hR
 have : routedO os = true := by
  unfold routedO kindsO kindsAt
  refine List.any_eq_true.2 ⟨os.getD p 0, List.mem_filter.2 ⟨List.mem_map.2 ⟨p, hp, rfl⟩, ?_⟩, hR⟩
  simp only [bne_iff_ne, ne_eq]
  omega
 rw [hr] at this; cases this
end
end Go.Proofs.YtgckhdepnmiejaaGreat
