/- DrawnK's rule, where the chain may change the worlds by any relation. (Printed by g_drawnr.py.) (and what stands on it). -/
import Derived.WalkKit
import Derived.Test.YtgckhdepnmiejaaGreatZ02
import Derived.Test.YtgckhdepnmiejaaGreatZ21
set_option linter.unusedVariables false
set_option linter.unusedSimpArgs false
namespace Go.Proofs.YtgckhdepnmiejaaGreat.R
section
open Go.RowKit Go.Proofs.YtgckhdepnmiejaaGreat
/-- What the chain may do to a world. -/
structure Chg where
 R : World → World → Prop
 refl : ∀ w, R w w
 trans : ∀ {a b c : World}, R a b → R b c → R a c
 below : ∀ {w w' : World}, Below w.heap.size w w' → R w w'
variable {P : Program} {ops : Array Oper}
abbrev St := (Tmp → Value) → World → Prop
abbrev val (a : Act) : Tmp → Value := fun t => a.tmps.getD t undef
def upd (xs : Tmp → Value) (d : Option Tmp) (u : Value) : Tmp → Value := fun t => if d = some t then u else xs t
/-- It speaks of no other slots than those of the chain's operations ahead of k. -/
def Loc (ops : Array Oper) (cs : List Nat) (k : Nat) (C : St) : Prop := ∀ xs ys w, (∀ i o t, i ∈ cs → i < k → ops[i]? = some o → o.dst = some t → xs t = ys t) → C xs w → C ys w
theorem Loc.succ {cs : List Nat} {k : Nat} {C : St} (h : Loc ops cs k C) : Loc ops cs (k + 1) C := fun xs ys w he hc => h xs ys w (fun i o t h1 h2 h3 h4 => he i o t h1 (Nat.lt_succ_of_lt h2) h3 h4) hc
def HStep (P : Program) (ops : Array Oper) (M : Chg) (w0 : World) (cs : List Nat) (k : Nat) (o : Oper) (a : Act) (hs : List (Tmp × (Value → World → Prop))) (C : St)
  (a' : Act) (hs' : List (Tmp × (Value → World → Prop))) (C' : St) : Prop :=
 ((∀ xs, Region.wanted o (yielded ops (fill hs xs a).tmps) = false) ∧ a' = a.put o.dst undef ∧ hs' = hs ∧ C' = C) ∨
 ((∀ xs, Region.wanted o (yielded ops (fill hs xs a).tmps) = true) ∧ ∃ φ : Value → World → Prop, (∀ u w w', M.R w w' → φ u w → φ u w') ∧
  ((∃ v, φ = (fun u _ => u = v) ∧ a' = a.put o.dst v ∧ hs' = hs) ∨ (∃ d, o.dst = some d ∧ a' = a.put o.dst undef ∧ hs' = (d, φ) :: hs)) ∧
  ((C' = C ∧ cs.contains k = false ∧ ∀ xs w, M.R w0 w → (seeB ops cs k = true → C xs w) → HF ops o hs xs w → mildAt P o (fill hs xs a) w φ (fun w' => Below w.heap.size w w')) ∨
   (((∀ xs w w', Below w.heap.size w w' → C' xs w → C' xs w') ∧ Loc ops cs (k + 1) C') ∧ cs.contains k = true ∧
    ∀ xs w, M.R w0 w → C xs w → HF ops o hs xs w → mildAt P o (fill hs xs a) w (fun u w' => φ u w' ∧ C' (upd xs o.dst u) w') (fun w' => M.R w w'))))
/-- The lexical walk. -/
def wpH (P : Program) (ops : Array Oper) (M : Chg) (w0 : World) (cs : List Nat) (Qf : Act → List (Tmp × (Value → World → Prop)) → St → Prop) :
  List Oper → Nat → Act → List (Tmp × (Value → World → Prop)) → St → Prop
 | [], _, a, hs, C => Qf a hs C
 | o :: rest, k, a, hs, C => ∃ a' hs' C', HStep P ops M w0 cs k o a hs C a' hs' C' ∧ wpH P ops M w0 cs Qf rest (k + 1) a' hs' C'
/-! ### The walk as sequences -/
theorem wpH_seq {M : Chg} {w0 : World} {cs : List Nat} {Qf : Act → List (Tmp × (Value → World → Prop)) → St → Prop} :
  ∀ (l : List Oper) (k : Nat) (a : Act) (hs : List (Tmp × (Value → World → Prop))) (C : St), wpH P ops M w0 cs Qf l k a hs C →
  ∃ (A : Nat → Act) (H : Nat → List (Tmp × (Value → World → Prop))) (D : Nat → St), A k = a ∧ H k = hs ∧ D k = C ∧
   (∀ j o, l[j]? = some o → HStep P ops M w0 cs (k + j) o (A (k + j)) (H (k + j)) (D (k + j)) (A (k + j + 1)) (H (k + j + 1)) (D (k + j + 1))) ∧
   Qf (A (k + l.length)) (H (k + l.length)) (D (k + l.length))
 | [], k, a, hs, C, h => ⟨fun _ => a, fun _ => hs, fun _ => C, rfl, rfl, rfl, fun j o hj => by simp at hj, h⟩
 | o :: rest, k, a, hs, C, h => by
  obtain ⟨a', hs', C', hst, hr⟩ := h
  obtain ⟨A, H, D, hA, hH, hD, hall, hq⟩ := wpH_seq rest (k + 1) a' hs' C' hr
  refine ⟨fun i => if i = k then a else A i, fun i => if i = k then hs else H i, fun i => if i = k then C else D i, by simp, by simp, by simp, ?_, ?_⟩
  ·intro j oj hj
   cases j with
   | zero =>
    simp at hj
    subst hj
    simp only [Nat.add_zero, if_true, if_neg (Nat.succ_ne_self k), hA, hH, hD]
    exact hst
   | succ j =>
    have := hall j oj (by simpa using hj)
    have e : k + (j + 1) = k + 1 + j := by omega
    rw [e]
    simp only [if_neg (show ¬ k + 1 + j = k by omega), if_neg (show ¬ k + 1 + j + 1 = k by omega)]
    exact this
  ·have e : k + (o :: rest).length = k + 1 + rest.length := by simp; omega
   rw [e]
   simp only [if_neg (show ¬ k + 1 + rest.length = k by omega)]
   exact hq
/-! ### The sequences' facts -/
structure Seqs (P : Program) (ops : Array Oper) (M : Chg) (w0 : World) (cs : List Nat) (n : Nat) (A : Nat → Act) (H : Nat → List (Tmp × (Value → World → Prop))) (D : Nat → St) : Prop where
 h0 : H 0 = []
 step : ∀ j o, j < n → ops[j]? = some o → HStep P ops M w0 cs j o (A j) (H j) (D j) (A (j + 1)) (H (j + 1)) (D (j + 1))
 op : ∀ j, j < n → ∃ o, ops[j]? = some o
 stable0 : ∀ xs w w', Below w.heap.size w w' → D 0 xs w → D 0 xs w'
 loc0 : Loc ops cs 0 (D 0)
section
variable {M : Chg} {w0 : World} {cs : List Nat} {n : Nat} {A : Nat → Act} {H : Nat → List (Tmp × (Value → World → Prop))} {D : Nat → St}
theorem Seqs.actOf (S : Seqs P ops M w0 cs n A H D) {j : Nat} {o : Oper} (hj : j < n) (ho : ops[j]? = some o) : ∃ v, A (j + 1) = (A j).put o.dst v := by
 rcases S.step j o hj ho with ⟨_, h, _⟩ | ⟨_, φ, _, ⟨v, _, h, _⟩ | ⟨d, _, h, _⟩, _⟩
 ·exact ⟨_, h⟩
 ·exact ⟨_, h⟩
 ·exact ⟨_, h⟩
theorem Seqs.hidOf (S : Seqs P ops M w0 cs n A H D) {j : Nat} {o : Oper} (hj : j < n) (ho : ops[j]? = some o) : H (j + 1) = H j ∨ ∃ d φ, o.dst = some d ∧ H (j + 1) = (d, φ) :: H j := by
 rcases S.step j o hj ho with ⟨_, _, h, _⟩ | ⟨_, φ, _, ⟨v, _, _, h⟩ | ⟨d, hd, _, h⟩, _⟩
 ·exact Or.inl h
 ·exact Or.inl h
 ·exact Or.inr ⟨d, φ, hd, h⟩
theorem Seqs.size (S : Seqs P ops M w0 cs n A H D) : ∀ j, j ≤ n → (A j).tmps.size = (A 0).tmps.size ∧ (A j).defers = (A 0).defers
 | 0, _ => ⟨rfl, rfl⟩
 | j + 1, h => by
  obtain ⟨o, ho⟩ := S.op j (by omega)
  obtain ⟨v, hv⟩ := S.actOf (by omega) ho
  have := Seqs.size S j (by omega)
  exact ⟨by rw [hv, size_put, this.1], by rw [hv, defers_put, this.2]⟩
theorem Seqs.keep (S : Seqs P ops M w0 cs n A H D) {t : Tmp} {k : Nat} : ∀ m, k ≤ m → m ≤ n → (∀ i o, k ≤ i → i < m → ops[i]? = some o → o.dst ≠ some t) → (A m).tmps.getD t undef = (A k).tmps.getD t undef := by
 intro m hkm hmn h
 induction m with
 | zero => have : k = 0 := by omega
           rw [this]
 | succ m ih =>
  by_cases e : k = m + 1
  ·rw [e]
  ·obtain ⟨o, ho⟩ := S.op m (by omega)
   obtain ⟨v, hv⟩ := S.actOf (by omega) ho
   rw [hv, getD_put _ _ _ _ (h m o (by omega) (by omega) ho)]
   exact ih (by omega) (by omega) (fun i o hi hi' => h i o hi (by omega))
theorem Seqs.mem (S : Seqs P ops M w0 cs n A H D) {t : Tmp} {φ : Value → World → Prop} : ∀ m, m ≤ n → (t, φ) ∈ H m → ∃ k o, k < m ∧ ops[k]? = some o ∧ o.dst = some t ∧ H (k + 1) = (t, φ) :: H k
 | 0, _, h => by rw [S.h0] at h; cases h
 | m + 1, hm, h => by
  obtain ⟨o, ho⟩ := S.op m (by omega)
  rcases S.hidOf (by omega) ho with e | ⟨d, ψ, hd, e⟩
  ·rw [e] at h
   obtain ⟨k, o', h1, h2⟩ := Seqs.mem S m (by omega) h
   exact ⟨k, o', by omega, h2⟩
  ·rw [e] at h
   rcases List.mem_cons.1 h with h | h
   ·have h1 : t = d := congrArg Prod.fst h
    have h2 : φ = ψ := congrArg Prod.snd h
    subst h1; subst h2
    exact ⟨m, o, by omega, ho, hd, e⟩
   ·obtain ⟨k, o', h1, h2⟩ := Seqs.mem S m (by omega) h
    exact ⟨k, o', by omega, h2⟩
theorem Seqs.sub (S : Seqs P ops M w0 cs n A H D) {k : Nat} {p : Tmp × (Value → World → Prop)} : ∀ m, k ≤ m → m ≤ n → p ∈ H k → p ∈ H m := by
 intro m hk hm h
 induction m with
 | zero => have : k = 0 := by omega
           rwa [this] at h
 | succ m ih =>
  by_cases e : k = m + 1
  ·rwa [e] at h
  ·obtain ⟨o, ho⟩ := S.op m (by omega)
   have := ih (by omega) (by omega)
   rcases S.hidOf (by omega) ho with e | ⟨d, ψ, _, e⟩
   ·rw [e]; exact this
   ·rw [e]; exact List.mem_cons_of_mem _ this
theorem Seqs.stableD (S : Seqs P ops M w0 cs n A H D) : ∀ j, j ≤ n → ∀ xs w w', Below w.heap.size w w' → D j xs w → D j xs w'
 | 0, _ => S.stable0
 | j + 1, h => by
  obtain ⟨o, ho⟩ := S.op j (by omega)
  have ih := Seqs.stableD S j (by omega)
  rcases S.step j o (by omega) ho with ⟨_, _, _, e⟩ | ⟨_, φ, _, _, ⟨e, _⟩ | ⟨e, _⟩⟩
  ·rw [e]; exact ih
  ·rw [e]; exact ih
  ·exact e.1
theorem Seqs.locD (S : Seqs P ops M w0 cs n A H D) : ∀ j, j ≤ n → Loc ops cs j (D j)
 | 0, _ => S.loc0
 | j + 1, h => by
  obtain ⟨o, ho⟩ := S.op j (by omega)
  have ih := Seqs.locD S j (by omega)
  rcases S.step j o (by omega) ho with ⟨_, _, _, e⟩ | ⟨_, φ, _, _, ⟨e, _⟩ | ⟨e, _⟩⟩
  ·rw [e]; exact ih.succ
  ·rw [e]; exact ih.succ
  ·exact e.2
theorem Seqs.sameD (S : Seqs P ops M w0 cs n A H D) {k : Nat} : ∀ m, k ≤ m → m ≤ n → (∀ i, i ∈ cs → k ≤ i → i < m → False) → D m = D k := by
 intro m hk hm h
 induction m with
 | zero => have : k = 0 := by omega
           rw [this]
 | succ m ih =>
  by_cases e : k = m + 1
  ·rw [e]
  ·obtain ⟨o, ho⟩ := S.op m (by omega)
   have := ih (by omega) (by omega) (fun i hi h1 h2 => h i hi h1 (by omega))
   rw [← this]
   rcases S.step m o (by omega) ho with ⟨_, _, _, e⟩ | ⟨_, φ, _, _, ⟨e, _⟩ | ⟨_, e, _⟩⟩
   ·exact e
   ·exact e
   ·exact absurd (List.contains_iff_mem.1 e) (fun hm => h m hm (by omega) (by omega))
/-! ### The invariant of every order -/
structure RInv (ops : Array Oper) (M : Chg) (w0 : World) (cs : List Nat) (n : Nat) (A : Nat → Act) (H : Nat → List (Tmp × (Value → World → Prop))) (D : Nat → St) (L : Array Bool) (a : Act) (w : World) : Prop where
 size : L.size = ops.size
 closed : ∀ (j : Nat) (oj : Oper), ops[j]? = some oj → L.getD j false = true → ∀ e ∈ oj.after, Region.binds .any e = true → L.getD e.on false = true
 grow : M.R w0 w
 chain : ∀ k, k ≤ n → (∀ i, i ∈ cs → i < k → L.getD i false = true) → (∀ i, i ∈ cs → k ≤ i → L.getD i false = false) → D k (val a) w
 hit : ∀ (k : Nat) (ok : Oper) (t : Tmp), k < n → ops[k]? = some ok → L.getD k false = true → ok.dst = some t →
  (∀ φ, (t, φ) ∈ H n → φ (a.tmps.getD t undef) w) ∧ ((∀ φ, (t, φ) ∉ H n) → a.tmps.getD t undef = (A n).tmps.getD t undef)
 miss : ∀ t, (∀ (k : Nat) (ok : Oper), k < n → ops[k]? = some ok → L.getD k false = true → ok.dst ≠ some t) → a.tmps.getD t undef = (A 0).tmps.getD t undef
 asize : a.tmps.size = (A 0).tmps.size
 defers : a.defers = (A 0).defers
 tail : ∀ t, n ≤ t → L.getD t false = false
/-- Where an operation comes up, it sees what the lexical walk lets it see. -/
theorem RInv.look (S : Seqs P ops M w0 cs n A H D) (G : GB ops n cs (A 0).tmps.size) {L : Array Bool} {a : Act} {w : World} (I : RInv ops M w0 cs n A H D L a w) {j : Nat} {o : Oper} (hj : j < n) (ho : ops[j]? = some o)
  (hall : ∀ e ∈ o.after, Region.binds .any e = true → L.getD e.on false = true) (t : Tmp) (ht : t ∈ o.looksAt ops) :
  (fill (H j) (fun t => a.tmps.getD t undef) (A j)).tmps.getD t undef = a.tmps.getD t undef := by
 by_cases hin : ∃ φ, (t, φ) ∈ H j
 ·obtain ⟨φ, hφ⟩ := hin
  obtain ⟨k, ok, hk, hok, hd, _⟩ := S.mem j (by omega) hφ
  exact getD_fill_in _ _ hφ (by rw [(S.size j (by omega)).1]; exact (G.slot j k o ok t hj (by omega) ho hok hd).1)
 ·have hout : ∀ φ, (t, φ) ∉ H j := fun φ h => hin ⟨φ, h⟩
  rw [getD_fill_out _ _ hout]
  by_cases hk : ∃ k ok, k < n ∧ ops[k]? = some ok ∧ ok.dst = some t
  ·obtain ⟨k, ok, hkn, hok, hd⟩ := hk
   obtain ⟨_, h2, _⟩ := G.slot j k o ok t hj hkn ho hok hd
   obtain ⟨hkj, hw⟩ := h2 ht
   have hL := waits_listed ho hall hw
   have hn : ∀ φ, (t, φ) ∉ H n := fun φ hφ => by
    obtain ⟨k', ok', hk', hok', hd', e⟩ := S.mem n (Nat.le_refl _) hφ
    have hkk : k' = k := Classical.byContradiction fun hne => (G.slot k' k ok' ok t hk' hkn hok' hok hd).2.2 hne hd'
    subst hkk
    exact hout φ (S.sub j (k := k' + 1) (by omega) (by omega) (by rw [e]; simp))
   rw [(I.hit k ok t hkn hok hL hd).2 hn]
   refine (S.keep n (by omega) (Nat.le_refl _) fun i oi hi hi' hoi => ?_).symm
   exact (G.slot i k oi ok t hi' hkn hoi hok hd).2.2 (by omega)
  ·have hno : ∀ (k : Nat) (ok : Oper), k < n → ops[k]? = some ok → ok.dst ≠ some t := fun k ok h1 h2 h3 => hk ⟨k, ok, h1, h2, h3⟩
   rw [I.miss t (fun k ok h1 h2 _ => hno k ok h1 h2)]
   exact S.keep j (Nat.zero_le _) (by omega) fun i oi _ hi' hoi => hno i oi (by omega) hoi
theorem RInv.exec (S : Seqs P ops M w0 cs n A H D) (G : GB ops n cs (A 0).tmps.size) {L : Array Bool} {a : Act} {w : World} (I : RInv ops M w0 cs n A H D L a w) {j : Nat} {o : Oper} (hj : j < n) (ho : ops[j]? = some o)
  (hall : ∀ e ∈ o.after, Region.binds .any e = true → L.getD e.on false = true) :
  execOp a.eval o = execOp (fill (H j) (fun t => a.tmps.getD t undef) (A j)).eval o ∧
  Region.wanted o (yielded ops a.tmps) = Region.wanted o (yielded ops (fill (H j) (fun t => a.tmps.getD t undef) (A j)).tmps) := by
 have hl := fun t ht => I.look S G hj ho hall t ht
 refine ⟨execOp_congr o (fun cs b => Region.noSelect_spec G.sel j o cs b ho) fun x hx => ?_, ?_⟩
 ·cases x with
  | tmp t => exact (hl t (List.mem_append_left _ (List.mem_filterMap.2 ⟨.tmp t, by simpa using hx, rfl⟩))).symm
  | _ => rfl
 ·unfold Region.wanted
  cases hg : o.guard with
  | none => rfl
  | some gw =>
   obtain ⟨g, want⟩ := gw
   have hy : yielded ops a.tmps g = yielded ops (fill (H j) (fun t => a.tmps.getD t undef) (A j)).tmps g := by
    unfold yielded
    cases ht : (ops[g]?).bind (·.dst) with
    | none => rfl
    | some t =>
     simp only [Option.bind_some]
     rw [same_get (t := t) (by rw [size_fill, (S.size j (by omega)).1, I.asize]) (hl t (by simp [Oper.looksAt, hg, ht])).symm]
   simp only [hy]
theorem RInv.hf (S : Seqs P ops M w0 cs n A H D) (G : GB ops n cs (A 0).tmps.size) {L : Array Bool} {a : Act} {w : World} (I : RInv ops M w0 cs n A H D L a w) {j : Nat} {o : Oper} (hj : j < n) (ho : ops[j]? = some o)
  (hall : ∀ e ∈ o.after, Region.binds .any e = true → L.getD e.on false = true) : HF ops o (H j) (fun t => a.tmps.getD t undef) w := by
 intro p hp hlook
 obtain ⟨t, φ⟩ := p
 obtain ⟨k, ok, hk, hok, hd, _⟩ := S.mem j (by omega) hp
 have ht : t ∈ o.looksAt ops := List.contains_iff_mem.1 hlook
 obtain ⟨_, h2, _⟩ := G.slot j k o ok t hj (by omega) ho hok hd
 have hL := waits_listed ho hall (h2 ht).2
 exact (I.hit k ok t (by omega) hok hL hd).1 φ (S.sub n (by omega) (Nat.le_refl _) hp)
theorem RInv.cut (G : GB ops n cs (A 0).tmps.size) {L : Array Bool} {a : Act} {w : World} (I : RInv ops M w0 cs n A H D L a w) :
  ∀ (j : Nat), (∀ i, i < j → ∀ k, k ∈ cs → i ∈ cs → j ≤ k → True) → ∀ k, k < j → k ∈ cs → L.getD k false = true → ∀ i, i ∈ cs → i < k → L.getD i false = true := by
 intro j
 induction j with
 | zero => intro _ k hk; omega
 | succ j ih =>
  intro _ k hk hkc hL i hi hik
  obtain ⟨k', hk', h1, h2, hw⟩ := G.chain k i hkc hi hik
  obtain ⟨ok, hok, e, he, hb, hon⟩ := Region.waitsFor_spec hw
  have hL' : L.getD k' false = true := by rw [← hon]; exact I.closed k ok hok hL e he hb
  rcases Nat.lt_or_ge i k' with h | h
  ·exact ih (fun _ _ _ _ _ _ => trivial) k' (by omega) hk' hL' i hi h
  ·have : i = k' := by omega
   subst this; exact hL'
/-- One operation has run: the invariant goes on. -/
theorem RInv.next (S : Seqs P ops M w0 cs n A H D) (G : GB ops n cs (A 0).tmps.size) {L : Array Bool} {a : Act} {w : World} (I : RInv ops M w0 cs n A H D L a w) {j : Nat} {o : Oper} (hj : j < n) (ho : ops[j]? = some o)
  (hun : L.getD j true = false) (hall : ∀ e ∈ o.after, Region.binds .any e = true → L.getD e.on false = true) {u : Value} {w' : World} (hg : M.R w w')
  (hD : (Below w.heap.size w w' ∧ D (j + 1) = D j) ∨ (j ∈ cs ∧ D (j + 1) (val (a.put o.dst u)) w'))
  (hu : ∀ t, o.dst = some t → (∀ φ, (t, φ) ∈ H n → φ u w') ∧ ((∀ φ, (t, φ) ∉ H n) → (A (j + 1)).tmps.getD t undef = u))
  (hst : ∀ p ∈ H n, ∀ u w w', M.R w w' → p.2 u w → p.2 u w') :
  RInv ops M w0 cs n A H D (L.setIfInBounds j true) (a.put o.dst u) w' := by
 have hjs : j < L.size := by
  rcases Nat.lt_or_ge j L.size with h' | h'
  ·exact h'
  ·simp [Array.getElem?_eq_none h'] at hun
 have hset : (L.setIfInBounds j true).getD j false = true := by simp [hjs]
 have hne : ∀ k, k ≠ j → (L.setIfInBounds j true).getD k false = L.getD k false := fun k hk => getD_set_ne false (Ne.symm hk)
 have hfalse : L.getD j false = false := getD_both hun
 refine ⟨by simp [I.size], ?_, M.trans I.grow hg, ?_, ?_, ?_, by rw [size_put, I.asize], by rw [defers_put, I.defers], ?_⟩
 ·intro k ok hok hL e he hb
  refine getD_set_true ?_
  by_cases hkj : k = j
  ·subst hkj
   have : ok = o := Option.some.inj (hok.symm.trans ho)
   subst this
   exact hall e he hb
  ·rw [hne k hkj] at hL
   exact I.closed k ok hok hL e he hb
 ·intro k hk h1 h2
  rcases hD with ⟨hb, hDj⟩ | ⟨hjc, hDj⟩
  ·by_cases hjc : j ∈ cs
   ·by_cases hkj : k ≤ j
    ·have := h2 j hjc hkj
     rw [hset] at this; cases this
    ·have hD1 : D k = D (j + 1) := S.sameD k (by omega) hk fun i hi h3 h4 => by
      have hLi := h1 i hi h4
      rw [hne i (by omega)] at hLi
      have := I.cut G (i + 1) (fun _ _ _ _ _ _ => trivial) i (by omega) hi hLi j hjc (by omega)
      rw [hfalse] at this; cases this
     rw [hD1, hDj]
     refine S.locD j (by omega) (val a) _ _ (fun i oi t h3 h4 h5 h6 => (getD_put _ _ _ _ ((G.slot j i o oi t hj (by omega) ho h5 h6).2.2 (by omega))).symm) (S.stableD j (by omega) _ _ _ hb (I.chain j (by omega) ?_ ?_))
     ·intro i hi hij
      have := h1 i hi (by omega)
      rwa [hne i (by omega)] at this
     ·intro i hi hij
      by_cases hij' : i = j
      ·rw [hij']; exact hfalse
      ·cases hb : L.getD i false
       ·rfl
       ·have := I.cut G (i + 1) (fun _ _ _ _ _ _ => trivial) i (by omega) hi hb j hjc (by omega)
        rw [hfalse] at this; cases this
   ·refine S.locD k hk (val a) _ _ (fun i oi t h3 h4 h5 h6 => (getD_put _ _ _ _ ((G.slot j i o oi t hj (by omega) ho h5 h6).2.2 (fun e => hjc (e ▸ h3)))).symm) (S.stableD k hk _ _ _ hb (I.chain k hk ?_ ?_))
    ·intro i hi hik
     have := h1 i hi hik
     rwa [hne i (fun e => hjc (e ▸ hi))] at this
    ·intro i hi hik
     have := h2 i hi hik
     rwa [hne i (fun e => hjc (e ▸ hi))] at this
  ·by_cases hkj : k ≤ j
   ·have := h2 j hjc hkj
    rw [hset] at this; cases this
   ·have hD1 : D k = D (j + 1) := S.sameD k (by omega) hk fun i hi h3 h4 => by
     have hLi := h1 i hi h4
     rw [hne i (by omega)] at hLi
     have := I.cut G (i + 1) (fun _ _ _ _ _ _ => trivial) i (by omega) hi hLi j hjc (by omega)
     rw [hfalse] at this; cases this
    rw [hD1]; exact hDj
 ·intro k ok t hk hok hL hd
  by_cases hkj : k = j
  ·subst hkj
   have : ok = o := Option.some.inj (hok.symm.trans ho)
   subst this
   have hlt := (G.slot k k ok ok t hk hk hok hok hd).1
   have e : (a.put ok.dst u).tmps.getD t undef = u := by rw [hd]; exact getD_put_same _ _ _ (by rw [I.asize]; exact hlt)
   rw [e]
   refine ⟨(hu t hd).1, fun hn => ?_⟩
   rw [← (hu t hd).2 hn]
   refine (S.keep n (by omega) (Nat.le_refl _) fun i oi hi hi' hoi => ?_).symm
   exact (G.slot i k oi ok t hi' hk hoi hok hd).2.2 (by omega)
  ·rw [hne k hkj] at hL
   have hne' : o.dst ≠ some t := (G.slot j k o ok t hj hk ho hok hd).2.2 (Ne.symm hkj)
   rw [getD_put _ _ _ _ hne']
   have := I.hit k ok t hk hok hL hd
   exact ⟨fun φ hφ => hst _ hφ _ _ _ hg (this.1 φ hφ), this.2⟩
 ·intro t ht
  have hne' : o.dst ≠ some t := ht j o hj ho hset
  rw [getD_put _ _ _ _ hne']
  refine I.miss t fun k ok hk hok hL => ht k ok hk hok ?_
  by_cases hkj : k = j
  ·rw [hkj]; exact hset
  ·rw [hne k hkj]; exact hL
 ·intro t ht; rw [hne t (by omega)]; exact I.tail t ht
/-- The stable facts. -/
theorem Seqs.stableH (S : Seqs P ops M w0 cs n A H D) : ∀ p ∈ H n, ∀ u w w', M.R w w' → p.2 u w → p.2 u w' := by
 intro p hp
 obtain ⟨t, φ⟩ := p
 obtain ⟨k, o, hk, ho, hd, e⟩ := S.mem n (Nat.le_refl _) hp
 rcases S.step k o hk ho with ⟨_, _, h, _⟩ | ⟨_, ψ, hψ, ⟨v, _, _, h⟩ | ⟨d, _, _, h⟩, _⟩
 ·rw [h] at e; exact absurd (congrArg List.length e) (by simp)
 ·rw [h] at e; exact absurd (congrArg List.length e) (by simp)
 ·rw [h] at e
  have : (d, ψ) = (t, φ) := (List.cons.inj e).1
  have : ψ = φ := congrArg Prod.snd this
  subst this
  exact hψ
/-- What the slot of an operation that was taken holds at the walk's end. -/
theorem Seqs.slotEnd (S : Seqs P ops M w0 cs n A H D) (G : GB ops n cs (A 0).tmps.size) {j : Nat} {o : Oper} {t : Tmp} (hj : j < n) (ho : ops[j]? = some o) (hd : o.dst = some t) {φ : Value → World → Prop} (hφ : (t, φ) ∈ H n) : H (j + 1) = (t, φ) :: H j := by
 obtain ⟨k, ok, hk, hok, hdk, e⟩ := S.mem n (Nat.le_refl _) hφ
 have : k = j := Classical.byContradiction fun hne => (G.slot k j ok o t hk hj hok ho hd).2.2 hne hdk
 subst this
 exact e
theorem RInv.step (S : Seqs P ops M w0 cs n A H D) (G : GB ops n cs (A 0).tmps.size) {L : Array Bool} {a : Act} {w : World} (I : RInv ops M w0 cs n A H D L a w) {j : Nat} (hj : j < n) (hr : j ∈ Region.ready .any ops L)
  {K : Act → World → Prop} {Q : Exit → Act → World → Prop} (hK : ∀ a' w', RInv ops M w0 cs n A H D (L.setIfInBounds j true) a' w' → K a' w') : wpOp P ops Q j K a w := by
 obtain ⟨hun, o, ho, hall⟩ := mem_ready.1 hr
 obtain ⟨hex, hwa⟩ := I.exec S G hj ho hall
 have hf := I.hf S G hj ho hall
 have hH := fun p hp => S.stableH p hp
 unfold wpOp
 simp only [ho]
 rcases S.step j o hj ho with ⟨hw, hA, hH', hD'⟩ | ⟨hw, φ, hst, hA, hD'⟩
 ·rw [hwa, hw]
  simp only [Bool.false_eq_true, if_false]
  refine hK _ _ (I.next S G hj ho hun hall (M.refl _) (Or.inl ⟨Below.refl _ _, hD'⟩) (fun t hd => ⟨fun ψ hψ => ?_, fun _ => ?_⟩) hH)
  ·have := S.slotEnd G hj ho hd hψ
   rw [hH'] at this
   exact absurd (congrArg List.length this) (by simp)
  ·have hlt := (G.slot j j o o t hj hj ho ho hd).1
   rw [hA, hd, getD_put_same _ _ _ (by rw [(S.size j (by omega)).1]; exact hlt)]
 ·rw [hwa, hw]
  simp only [if_true]
  refine Or.inl ?_
  have slots : ∀ u w', φ u w' → ∀ t, o.dst = some t → (∀ ψ, (t, ψ) ∈ H n → ψ u w') ∧ ((∀ ψ, (t, ψ) ∉ H n) → (A (j + 1)).tmps.getD t undef = u) := by
   intro u w' hu t hd
   have hlt := (G.slot j j o o t hj hj ho ho hd).1
   rcases hA with ⟨v, rfl, hA, hH'⟩ | ⟨d, hd', hA, hH'⟩
   ·refine ⟨fun ψ hψ => ?_, fun _ => ?_⟩
    ·have := S.slotEnd G hj ho hd hψ
     rw [hH'] at this
     exact absurd (congrArg List.length this) (by simp)
    ·rw [hA, hd, getD_put_same _ _ _ (by rw [(S.size j (by omega)).1]; exact hlt)]
     exact hu.symm
   ·refine ⟨fun ψ hψ => ?_, fun hno => ?_⟩
    ·have e := S.slotEnd G hj ho hd hψ
     rw [hH'] at e
     have : φ = ψ := congrArg Prod.snd (List.cons.inj e).1
     rw [← this]; exact hu
    ·have : d = t := Option.some.inj (hd'.symm.trans hd)
     subst this
     exact absurd (S.sub n (k := j + 1) (by omega) (Nat.le_refl _) (by rw [hH']; simp)) (hno φ)
  rcases hD' with ⟨hD', hnc, hm⟩ | ⟨_, hc, hm⟩
  ·have hDj : seeB ops cs j = true → D j (val a) w := fun hse => by
    have hse' := List.all_eq_true.1 hse
    refine I.chain j (by omega) (fun i hi hij => ?_) (fun i hi hij => ?_)
    ·have := hse' i hi
     rw [if_pos hij] at this
     exact waits_listed ho hall this
    ·have hne : i ≠ j := fun e => by
      rw [e] at hi
      rw [List.contains_iff_mem.2 hi] at hnc; cases hnc
     have := hse' i hi
     rw [if_neg (by omega)] at this
     obtain ⟨oi, hoi, e, he, hb, hon⟩ := Region.waitsFor_spec this
     cases hb' : L.getD i false
     ·rfl
     ·have := I.closed i oi hoi hb' e he hb
      rw [hon, getD_both hun] at this; cases this
   have hm' := hm _ w I.grow hDj hf
   unfold mildAt at hm'
   rw [← hex] at hm'
   exact wp_of_mild hm' fun u w' hu hb => hK _ _ (I.next S G hj ho hun hall (M.below hb) (Or.inl ⟨hb, hD'⟩) (slots u w' hu) hH)
  ·have hjc : j ∈ cs := List.contains_iff_mem.1 hc
   have hDj : D j (val a) w := by
    refine I.chain j (by omega) ?_ ?_
    ·intro i hi hij
     obtain ⟨k, hk, h1, h2, hw'⟩ := G.chain j i hjc hi hij
     have hLk := waits_listed ho hall hw'
     by_cases hik : i = k
     ·rw [hik]; exact hLk
     ·exact I.cut G (k + 1) (fun _ _ _ _ _ _ => trivial) k (by omega) hk hLk i hi (by omega)
    ·intro i hi hij
     by_cases hij' : i = j
     ·rw [hij']; exact getD_both hun
     ·cases hb : L.getD i false
      ·rfl
      ·have := I.cut G (i + 1) (fun _ _ _ _ _ _ => trivial) i (by omega) hi hb j hjc (by omega)
       rw [getD_both hun] at this; cases this
   have hm' := hm _ w I.grow hDj hf
   unfold mildAt at hm'
   rw [← hex] at hm'
   exact wp_of_mild hm' fun u w' hu hb => hK _ _ (I.next S G hj ho hun hall hb (Or.inr ⟨hjc, S.locD (j + 1) (by omega) _ _ _ (fun i oi t h3 h4 h5 h6 => by
     unfold upd val
     by_cases hd : o.dst = some t
     ·rw [if_pos hd, hd]; exact (getD_put_same _ _ _ (by rw [I.asize]; exact (G.slot j j o o t hj hj ho ho hd).1)).symm
     ·rw [if_neg hd]; exact (getD_put _ _ _ _ hd).symm) hu.2⟩) (slots u w' hu.1) hH)
/-- All that the walk asked is listed: the act is the walk's last one, filled with something. -/
theorem RInv.fin (S : Seqs P ops M w0 cs n A H D) (G : GB ops n cs (A 0).tmps.size) {L : Array Bool} {a : Act} {w : World} (I : RInv ops M w0 cs n A H D L a w) (hL : ∀ k, k < n → L.getD k false = true)
  (hcs : ∀ i ∈ cs, i < n) :
  M.R w0 w ∧ D n (val a) w ∧ (∀ p ∈ H n, p.2 (a.tmps.getD p.1 undef) w) ∧ a = fill (H n) (fun t => a.tmps.getD t undef) (A n) := by
 refine ⟨I.grow, I.chain n (Nat.le_refl _) (fun i _ hi => hL i hi) (fun i hi h => by have := hcs i hi; omega), ?_, ?_⟩
 ·intro p hp
  obtain ⟨t, φ⟩ := p
  obtain ⟨k, o, hk, ho, hd, _⟩ := S.mem n (Nat.le_refl _) hp
  exact (I.hit k o t hk ho (hL k hk) hd).1 φ hp
 ·have hsz := (S.size n (Nat.le_refl _)).1
  have hd := (S.size n (Nat.le_refl _)).2
  have ht : a.tmps = (fill (H n) (fun t => a.tmps.getD t undef) (A n)).tmps := by
   refine Array.ext_getElem? fun t => same_get (by rw [size_fill, hsz, I.asize]) ?_
   by_cases hin : ∃ φ, (t, φ) ∈ H n
   ·obtain ⟨φ, hφ⟩ := hin
    obtain ⟨k, ok, hk, hok, hdk, _⟩ := S.mem n (Nat.le_refl _) hφ
    exact (getD_fill_in (fun t => a.tmps.getD t undef) (A n) hφ (by rw [hsz]; exact (G.slot k k ok ok t hk hk hok hok hdk).1)).symm
   ·have hout : ∀ φ, (t, φ) ∉ H n := fun φ h => hin ⟨φ, h⟩
    rw [getD_fill_out _ _ hout]
    by_cases hk : ∃ k ok, k < n ∧ ops[k]? = some ok ∧ ok.dst = some t
    ·obtain ⟨k, ok, hkn, hok, hdk⟩ := hk
     exact (I.hit k ok t hkn hok (hL k hkn) hdk).2 hout
    ·have hno : ∀ (k : Nat) (ok : Oper), k < n → ops[k]? = some ok → ok.dst ≠ some t := fun k ok h1 h2 h3 => hk ⟨k, ok, h1, h2, h3⟩
     rw [I.miss t (fun k ok h1 h2 _ => hno k ok h1 h2)]
     exact (S.keep n (Nat.zero_le _) (Nat.le_refl _) fun i oi _ hi' hoi => hno i oi hi' hoi).symm
  have hdf : a.defers = (fill (H n) (fun t => a.tmps.getD t undef) (A n)).defers := by rw [defers_fill, hd, I.defers]
  obtain ⟨x, y⟩ := a
  generalize fill (H n) (fun t => (Act.mk x y).tmps.getD t undef) (A n) = b at *
  obtain ⟨x', y'⟩ := b
  simp only at ht hdf
  rw [ht, hdf]
end
theorem wpAny_of_inv {M : Chg} {w0 : World} {cs : List Nat} {n : Nat} {A : Nat → Act} {H : Nat → List (Tmp × (Value → World → Prop))} {D : Nat → St} {Q : Exit → Act → World → Prop}
  (S : Seqs P ops M w0 cs n A H D) (G : GB ops n cs (A 0).tmps.size) (hcs : ∀ i ∈ cs, i < n)
  (hq : ∀ xs w, M.R w0 w → D n xs w → (∀ p ∈ H n, p.2 (xs p.1) w) → wpList P ops Q (ops.toList.drop n) (fill (H n) xs (A n)) w) :
  ∀ (m : Nat) (L : Array Bool) (a : Act) (w : World), RInv ops M w0 cs n A H D L a w → unl L n = m → wpAny P .any ops Q (m + (ops.size - n)) L a w := by
 -- where all that the walk asked is listed, the tail is left
 have last : ∀ (L : Array Bool) (a : Act) (w : World), RInv ops M w0 cs n A H D L a w → (∀ k, k < n → L.getD k true = true) →
   wpList P ops Q (ops.toList.drop n) a w := by
  intro L a w I hL
  have hL' : ∀ k, k < n → L.getD k false = true := fun k hk => by
   cases hb : L.getD k false
   ·have hlt : k < L.size := by rw [I.size]; have := G.le; omega
    have := getD_in hlt hb
    rw [hL k hk] at this; cases this
   ·rfl
  obtain ⟨h1, h2, h3, h4⟩ := I.fin S G hL' hcs
  rw [h4]
  exact hq _ w h1 h2 h3
 have least : ∀ (L : Array Bool) (a : Act) (w : World), RInv ops M w0 cs n A H D L a w → ∀ k, k < ops.size → L.getD k true = false → ∃ j, j ∈ Region.ready .any ops L := by
  intro L a w I k
  induction k using Nat.strongRecOn with
  | ind k ih =>
   intro hk hun
   by_cases h : ∀ e ∈ (ops[k]'hk).after, Region.binds .any e = true → L.getD e.on false = true
   ·exact ⟨k, mem_ready.2 ⟨hun, ops[k], by simp [hk], h⟩⟩
   ·have : ∃ e, e ∈ (ops[k]'hk).after ∧ Region.binds .any e = true ∧ L.getD e.on false = false := by
     refine Classical.byContradiction fun hn => h fun e he hb => ?_
     cases hb' : L.getD e.on false
     ·exact absurd ⟨e, he, hb, hb'⟩ hn
     ·rfl
    obtain ⟨e, he, hb, hf⟩ := this
    have hlo := G.low k ops[k] (by simp [hk]) e he hb
    exact ih e.on hlo (by omega) (getD_in (by rw [I.size]; omega) hf)
 intro m
 induction m with
 | zero =>
  intro L a w I hu
  have hall := unl_zero hu
  have hLe : L = Array.replicate n true ++ Array.replicate (ops.size - n) false := by
   have hle := G.le
   refine Array.ext (by rw [I.size]; simp; omega) fun i h1 h2 => ?_
   rw [Array.getElem_append]
   rcases Nat.lt_or_ge i n with h | h
   ·have h3 := hall i h
    rw [dif_pos (by simpa using h)]
    simp [h1] at h3
    simpa using h3
   ·have h3 := I.tail i h
    rw [dif_neg (by simpa using h)]
    simp [h1] at h3
    simpa using h3
  have hl := last L a w I hall
  have := wpAny_of_seq (md := .any) (ops := ops) (P := P) (Q' := Q) (ops.toList.drop n) n L a w (fun j => by simp) (by rw [List.length_drop, Array.length_toList, hLe]; exact G.seq) hl
  rw [List.length_drop, Array.length_toList] at this
  rw [Nat.zero_add]
  exact this
 | succ m ih =>
  intro L a w I hu
  -- something of the front is not listed
  have hsome : ∃ k, k < n ∧ L.getD k true = false := by
   refine Classical.byContradiction fun hno => ?_
   have : ∀ q, q ≤ n → unl L q = 0 := by
    intro q
    induction q with
    | zero => intro _; rfl
    | succ q ih =>
     intro hm
     rw [unl, ih (by omega)]
     cases hb : L.getD q true
     ·exact absurd ⟨q, by omega, hb⟩ hno
     ·simp
   rw [this _ (Nat.le_refl _)] at hu; omega
  obtain ⟨k, hk, hun⟩ := hsome
  have hle := G.le
  rw [Nat.succ_add]
  refine ⟨fun hnr => ?_, fun j hj => ?_⟩
  ·obtain ⟨j, hj⟩ := least L a w I k (by omega) hun
   rw [hnr] at hj; cases hj
  ·have hjn : j < n := by
    rcases Nat.lt_or_ge j n with h | h
    ·exact h
    ·obtain ⟨_, o, ho, _⟩ := mem_ready.1 hj
     have hjs : j < ops.size := (Array.getElem?_eq_some_iff.1 ho).1
     obtain ⟨h1, h2⟩ := G.sink (by omega)
     exact absurd hj (tail_waits h1 h2 (by omega) ⟨I.size, I.closed, fun t ht hts => getD_in (by rw [I.size]; exact hts) (I.tail t ht)⟩ _ k rfl hk hun j h)
   have hun' := (mem_ready.1 hj).1
   have hu' : unl (L.setIfInBounds j true) n = m := by have := unl_set L j hun' n hjn; omega
   exact I.step S G hjn hj fun a' w' I' => ih _ a' w' I' hu'
/-- **ONE WALK OF THE LEXICAL ORDER SERVES EVERY ORDER** of a region whose operations make new memory alone, but for the chain 'cs', which may turn the blocks of M. The last operations may be left over (all but the first 'n'), if they wait for all and for one another: they are walked plainly. -/
theorem wp_region_grow {id : Nat} {Q : Exit → Act → World → Prop} {a : Act} {w : World} {l : List Oper} (n : Nat) (cs : List Nat) (M : Chg) (C : World → Prop) (hm : P.follows .mixedOrders = true)
  (hB : growB l.toArray n cs a.tmps.size = true) (hcs : (cs.all fun i => decide (i < n)) = true) (hC : ∀ w w', Below w.heap.size w w' → C w → C w') (hC0 : C w)
  (h : wpH P l.toArray M w cs (fun a' hs C' => ∀ xs w', M.R w w' → C' xs w' → (∀ p ∈ hs, p.2 (xs p.1) w') → wpList P l.toArray Q (l.drop n) (fill hs xs a') w') (l.take n) 0 a [] (fun _ => C)) :
  (Code.region id l.toArray true).wp P Q a w := by
 have G := growB_spec hB
 have hcs' : ∀ i ∈ cs, i < n := fun i hi => by have := List.all_eq_true.1 hcs i hi; simpa using this
 refine wp_region_any hm ?_
 obtain ⟨A, H, D, hA, hH, hD, hall, hq⟩ := wpH_seq _ _ _ _ _ h
 have hlen : (l.take n).length = n := by have := G.le; simp at this ⊢; omega
 rw [hlen] at hq
 simp only [Nat.zero_add] at hq hall
 subst hA
 have S : Seqs P l.toArray M w cs n A H D := by
  refine ⟨hH, fun j o hj ho => ?_, fun j hj => ?_, by rw [hD]; exact fun _ => hC, by rw [hD]; exact fun _ _ _ _ h => h⟩
  ·refine hall j o ?_
   rw [List.getElem?_take, if_pos hj]
   simpa using ho
  ·have : j < l.length := by have := G.le; simp at this; omega
   exact ⟨l[j], by simp [this]⟩
 have hmain := wpAny_of_inv S G hcs' (fun xs w' h1 h2 h3 => by simpa using hq xs w' h1 h2 h3) n (Array.replicate l.toArray.size false) (A 0) { w with drawn := w.drawn + 1 } ?_ ?_
 ·have : n + (l.toArray.size - n) = l.toArray.size := by have := G.le; omega
  rwa [this] at hmain
 ·refine ⟨by simp, ?_, M.below ⟨rfl, rfl, rfl, Nat.le_refl _, fun _ _ => rfl⟩, ?_, ?_, ?_, rfl, rfl, fun t _ => getD_replicate_false _ _⟩
  ·intro j oj _ hL; rw [getD_replicate_false] at hL; cases hL
  ·intro k hk h1 _
   have : D k = D 0 := S.sameD k (Nat.zero_le _) hk fun i hi _ hik => by
    have := h1 i hi hik
    rw [getD_replicate_false] at this; cases this
   rw [this, hD]
   exact hC w _ ⟨rfl, rfl, rfl, Nat.le_refl _, fun _ _ => rfl⟩ hC0
  ·intro k ok t _ _ hL; rw [getD_replicate_false] at hL; cases hL
  ·intro t _; rfl
 ·have : ∀ m, m ≤ l.toArray.size → unl (Array.replicate l.toArray.size false) m = m := by
   intro m
   induction m with
   | zero => intro _; rfl
   | succ m ih =>
    intro hm
    rw [unl, ih (by omega)]
    have : (Array.replicate l.toArray.size false).getD m true = false := by
     have : m < l.toArray.size := by omega
     simp at this
     simp [this]
    rw [if_pos this]
  exact this _ G.le
end
end Go.Proofs.YtgckhdepnmiejaaGreat.R
namespace Go.Proofs.YtgckhdepnmiejaaGreat.R
section
open Go.RowKit Go.Proofs.YtgckhdepnmiejaaGreat
section
variable {P : Program} {ops : Array Oper} {M : Chg} {w0 : World} {cs : List Nat} {Qf : Act → List (Tmp × (Value → World → Prop)) → St → Prop}
 {o : Oper} {rest : List Oper} {k : Nat} {a : Act} {hs : List (Tmp × (Value → World → Prop))} {C : St}
theorem wpH_nil (h : Qf a hs C) : wpH P ops M w0 cs Qf [] k a hs C := h
theorem wpH_pure (hsel : (∀ cs b, o.op ≠ .select cs b)) (hc : cs.contains k = false) (hl : (hs.all fun p => !(o.looksAt ops).contains p.1) = true)
  (h : ∀ K : Act → Prop, (∀ a, wpH P ops M w0 cs Qf rest (k + 1) a hs C → K a) → if Region.wanted o (yielded ops a.tmps) then pureOp P o a K else K (a.put o.dst undef)) : wpH P ops M w0 cs Qf (o :: rest) k a hs C := by
 have h' := h _ (fun _ h => h)
 split at h'
 ·rename_i hw
  obtain ⟨v, hv, hk⟩ := h'
  refine ⟨_, _, _, Or.inr ⟨fun xs => by rw [(fill_out xs hl hsel).2]; exact hw, _, fun u w w' _ h => h, Or.inl ⟨v, rfl, rfl, rfl⟩, Or.inl ⟨rfl, hc, fun xs w _ _ _ => ?_⟩⟩, hk⟩
  unfold mildAt
  rw [(fill_out xs hl hsel).1]
  have := hv w
  generalize (execOp a.eval o).run P w = r at *
  cases r with
  | ok x w' =>
   cases x <;> simp only [pureUpon] at this <;> simp only [mildUpon]
   case value u => obtain ⟨rfl, rfl⟩ := this; exact ⟨rfl, Below.refl _ _⟩
   case skip => obtain ⟨rfl, rfl⟩ := this; exact ⟨rfl, Below.refl _ _⟩
  | halt x w' => simp only [pureUpon] at this
 ·rename_i hw
  exact ⟨_, _, _, Or.inl ⟨fun xs => by rw [(fill_out xs hl hsel).2]; simpa using hw, rfl, rfl, rfl⟩, h'⟩
theorem wpH_sdet (v : Value) (hc : cs.contains k = false) (hw : ∀ xs, Region.wanted o (yielded ops (fill hs xs a).tmps) = true)
  (h : ∀ xs w, M.R w0 w → (seeB ops cs k = true → C xs w) → HF ops o hs xs w → mildAt P o (fill hs xs a) w (fun u _ => u = v) (fun w' => Below w.heap.size w w')) (hk : wpH P ops M w0 cs Qf rest (k + 1) (a.put o.dst v) hs C) :
  wpH P ops M w0 cs Qf (o :: rest) k a hs C :=
 ⟨_, _, _, Or.inr ⟨hw, _, fun u w w' _ h => h, Or.inl ⟨v, rfl, rfl, rfl⟩, Or.inl ⟨rfl, hc, h⟩⟩, hk⟩
theorem wpH_shid {d : Tmp} (φ : Value → World → Prop) (hd : o.dst = some d) (hc : cs.contains k = false) (hst : ∀ u w w', M.R w w' → φ u w → φ u w') (hw : ∀ xs, Region.wanted o (yielded ops (fill hs xs a).tmps) = true)
  (h : ∀ xs w, M.R w0 w → (seeB ops cs k = true → C xs w) → HF ops o hs xs w → mildAt P o (fill hs xs a) w φ (fun w' => Below w.heap.size w w')) (hk : wpH P ops M w0 cs Qf rest (k + 1) (a.put o.dst undef) ((d, φ) :: hs) C) :
  wpH P ops M w0 cs Qf (o :: rest) k a hs C :=
 ⟨_, _, _, Or.inr ⟨hw, φ, hst, Or.inr ⟨d, hd, rfl, rfl⟩, Or.inl ⟨rfl, hc, h⟩⟩, hk⟩
/-- The like, at an operation that looks at no hidden slot. -/
theorem wpH_sdet' (v : Value) (hsel : ∀ cs b, o.op ≠ .select cs b) (hc : cs.contains k = false) (hl : (hs.all fun p => !(o.looksAt ops).contains p.1) = true) (hw : Region.wanted o (yielded ops a.tmps) = true)
  (h : ∀ xs w, M.R w0 w → (seeB ops cs k = true → C xs w) → mildAt P o a w (fun u _ => u = v) (fun w' => Below w.heap.size w w')) (hk : wpH P ops M w0 cs Qf rest (k + 1) (a.put o.dst v) hs C) :
  wpH P ops M w0 cs Qf (o :: rest) k a hs C :=
 wpH_sdet v hc (fun xs => by rw [(fill_out xs hl hsel).2]; exact hw) (fun xs w hg hC _ => mildAt_out xs hl hsel (h xs w hg hC)) hk
theorem wpH_shid' {d : Tmp} (φ : Value → World → Prop) (hsel : ∀ cs b, o.op ≠ .select cs b) (hd : o.dst = some d) (hc : cs.contains k = false) (hst : ∀ u w w', M.R w w' → φ u w → φ u w') (hl : (hs.all fun p => !(o.looksAt ops).contains p.1) = true)
  (hw : Region.wanted o (yielded ops a.tmps) = true)
  (h : ∀ xs w, M.R w0 w → (seeB ops cs k = true → C xs w) → mildAt P o a w φ (fun w' => Below w.heap.size w w')) (hk : wpH P ops M w0 cs Qf rest (k + 1) (a.put o.dst undef) ((d, φ) :: hs) C) :
  wpH P ops M w0 cs Qf (o :: rest) k a hs C :=
 wpH_shid φ hd hc hst (fun xs => by rw [(fill_out xs hl hsel).2]; exact hw) (fun xs w hg hC _ => mildAt_out xs hl hsel (h xs w hg hC)) hk
/-- An operation of the chain whose value is known. -/
theorem wpH_cdet (v : Value) (C' : St) (hc : cs.contains k = true) (hC : ∀ xs w w', Below w.heap.size w w' → C' xs w → C' xs w') (hL : Loc ops cs (k + 1) C') (hw : ∀ xs, Region.wanted o (yielded ops (fill hs xs a).tmps) = true)
  (h : ∀ xs w, M.R w0 w → C xs w → HF ops o hs xs w → mildAt P o (fill hs xs a) w (fun u w' => u = v ∧ C' (upd xs o.dst u) w') (fun w' => M.R w w')) (hk : wpH P ops M w0 cs Qf rest (k + 1) (a.put o.dst v) hs C') :
  wpH P ops M w0 cs Qf (o :: rest) k a hs C :=
 ⟨_, _, _, Or.inr ⟨hw, _, fun u w w' _ h => h, Or.inl ⟨v, rfl, rfl, rfl⟩, Or.inr ⟨⟨hC, hL⟩, hc, h⟩⟩, hk⟩
/-- An operation of the chain of whose value a property is known, and which the chain's state may name. -/
theorem wpH_chid {d : Tmp} (φ : Value → World → Prop) (C' : St) (hd : o.dst = some d) (hc : cs.contains k = true) (hst : ∀ u w w', M.R w w' → φ u w → φ u w') (hC : ∀ xs w w', Below w.heap.size w w' → C' xs w → C' xs w') (hL : Loc ops cs (k + 1) C') (hw : ∀ xs, Region.wanted o (yielded ops (fill hs xs a).tmps) = true)
  (h : ∀ xs w, M.R w0 w → C xs w → HF ops o hs xs w → mildAt P o (fill hs xs a) w (fun u w' => φ u w' ∧ C' (upd xs o.dst u) w') (fun w' => M.R w w')) (hk : wpH P ops M w0 cs Qf rest (k + 1) (a.put o.dst undef) ((d, φ) :: hs) C') :
  wpH P ops M w0 cs Qf (o :: rest) k a hs C :=
 ⟨_, _, _, Or.inr ⟨hw, φ, hst, Or.inr ⟨d, hd, rfl, rfl⟩, Or.inr ⟨⟨hC, hL⟩, hc, h⟩⟩, hk⟩
end
end
end Go.Proofs.YtgckhdepnmiejaaGreat.R
namespace Go.Proofs.YtgckhdepnmiejaaGreat
section
set_option maxRecDepth 100000
open Go.RowKit
/-- Only new blocks of n cells of the type T are written. -/
structure TyR (N0 : Nat) (T : TypeId) (n : Nat) (w w' : World) : Prop where
 os : w'.os = w.os
 tape : w'.tape = w.tape
 output : w'.output = w.output
 size : w.heap.size ≤ w'.heap.size
 block : ∀ k, k < w.heap.size → w'.heap[k]? = w.heap[k]? ∨ (N0 ≤ k ∧ ∃ cs cs' : Array Value, cs.size = n ∧ cs'.size = n ∧ w.heap[k]? = some (.cells cs T (0, 0)) ∧ w'.heap[k]? = some (.cells cs' T (0, 0)))
def Ty (N0 : Nat) (T : TypeId) (n : Nat) : R.Chg where
 R := TyR N0 T n
 refl := fun w => ⟨rfl, rfl, rfl, Nat.le_refl _, fun _ _ => Or.inl rfl⟩
 trans := fun {a b c} h k => ⟨k.os.trans h.os, k.tape.trans h.tape, k.output.trans h.output, Nat.le_trans h.size k.size, fun i hi => by
  rcases h.block i hi with h1 | ⟨h0, cs, cs', h1, h2, h3, h4⟩
  ·rcases k.block i (Nat.lt_of_lt_of_le hi h.size) with k1 | ⟨k0, ds, ds', k1, k2, k3, k4⟩
   ·exact Or.inl (k1.trans h1)
   ·exact Or.inr ⟨k0, ds, ds', k1, k2, h1 ▸ k3, k4⟩
  ·rcases k.block i (Nat.lt_of_lt_of_le hi h.size) with k1 | ⟨k0, ds, ds', k1, k2, k3, k4⟩
   ·exact Or.inr ⟨h0, cs, cs', h1, h2, h3, k1.trans h4⟩
   ·exact Or.inr ⟨h0, cs, ds', h1, k2, h3, k4⟩⟩
 below := fun h => ⟨h.os, h.tape, h.output, h.size, fun k hk => Or.inl (h.block k hk)⟩
theorem TyR.grow {T : TypeId} {n : Nat} {w w' : World} (h : TyR w.heap.size T n w w') : Grow w w' := ⟨h.os, h.tape, h.output, h.size, fun k hk => by
 rcases h.block k hk with h1 | ⟨h0, _⟩
 ·exact h1
 ·omega⟩
theorem own_ty {N0 : Nat} {T : TypeId} {m : Nat} {w w' : World} {base n size : Nat} {e : TypeId} {v : Value} {xs : List Value} (h : w.ownsRow base e size v n xs) (hg : TyR N0 T m w w') (hT : e ≠ T) : w'.ownsRow base e size v n xs := by
 obtain ⟨h1, h2⟩ := h
 refine ⟨h1, h2.imp id ?_⟩
 rintro ⟨g, cap, cur, e1, e2, e3, e4⟩
 refine ⟨g, cap, cur, e1, e2, ?_, e4⟩
 rcases hg.block g (lt_of_block e3) with h3 | ⟨_, cs, cs', _, _, h3, _⟩
 ·exact h3.trans e3
 ·rw [e3] at h3
  injection h3 with h3
  injection h3 with _ h3 _
  exact absurd h3 hT
theorem OutRow.ty {N0 m : Nat} {w w' : World} {base port : Nat} {v : Value} {rows : List (List Int)} (h : OutRow w base v port rows) (hg : TyR N0 48 m w w') : OutRow w' base v port rows := by
 obtain ⟨vs, h1, h2, h3⟩ := h
 exact ⟨vs, h1, own_ty h2 hg (by decide), fun i hi => ⟨own_ty (h3 i hi).1 hg (by decide), (h3 i hi).2⟩⟩
theorem ty_cells {N0 b : Nat} {w : World} {T : TypeId} {cs cs' : Array Value} {n : Nat} {w' : World} (hb : N0 ≤ b) (h1 : w.heap[b]? = some (.cells cs T (0, 0))) (h2 : w'.heap[b]? = some (.cells cs' T (0, 0))) (hn : cs.size = n) (hn' : cs'.size = n) (hg : GrowBut (Only b) w w') : TyR N0 T n w w' :=
 ⟨hg.os, hg.tape, hg.output, hg.size, fun k hk => by
  by_cases e : k = b
  ·rw [e]; exact Or.inr ⟨hb, cs, cs', hn, hn', h1, h2⟩
  ·exact Or.inl (hg.block k hk e)⟩
/-- An element of what went out. -/
theorem out_at {w : World} {base n oc port : Nat} {oa : Option Addr} {rows : List (List Int)} (h : OutRow w base (.slice oa n oc) port rows) {d : Nat} (hd : d < rows.length) :
  ∃ g xa xc, oa = some ⟨g, 0, none⟩ ∧ w.cell? ⟨g, d * 2 + 1, none⟩ = some (.slice xa (rows.getD d []).length xc) ∧ w.ownsRow base 5 1 (.slice xa (rows.getD d []).length xc) (rows.getD d []).length ((rows.getD d []).map (Value.int .u8)) ∧ Bytes (rows.getD d []) ∧ n = rows.length := by
 obtain ⟨vs, h1, h2, h3⟩ := h
 obtain ⟨h4, h5⟩ := h3 d hd
 obtain ⟨xa, xc, hx, _, _⟩ := owns_shape h4
 rw [hx] at h4
 have hcells := fun g hg => h2.cells (g := g) hg
 rcases h2.2 with ⟨_, h0⟩ | ⟨g, cap, cur, e, _⟩
 ·omega
 ·injection e with e1 e2 e3
  subst e1
  refine ⟨g, xa, xc, rfl, ?_, h4, h5, by omega⟩
  have hs : ∀ (vs : List Value) (d : Nat) (x : Value), vs[d]? = some x → (sentCells port vs)[d * 2 + 1]? = some x := by
   intro vs
   induction vs with
   | nil => intro d x hd; simp at hd
   | cons y ys ih =>
    intro d x hd
    cases d with
    | zero => simpa [sentCells] using hd
    | succ d =>
     have := ih d x (by simpa using hd)
     have e : (d + 1) * 2 + 1 = (d * 2 + 1) + 1 + 1 := by omega
     rw [e]
     simpa [sentCells] using this
  have hv : vs[d]? = some (.slice xa (rows.getD d []).length xc) := by
   rw [List.getD_eq_getElem?_getD, List.getElem?_eq_getElem (by omega)] at hx
   rw [List.getElem?_eq_getElem (by omega)]
   exact congrArg some hx
  have := hcells g rfl (d * 2 + 1) _ (hs vs d _ hv)
  rwa [Addr.add_lit, Nat.zero_add] at this
/-- A row among the pieces. -/
theorem row_at {w : World} {n₀ np c : Nat} {a : Option Addr} {h : Hd} {t : Int} {ps : List Pc} (hr : RowsN w n₀ (.slice a np c) (ps.map (Pc.row h t))) (hn : 0 < ps.length) :
  ∃ b off, a = some ⟨b, off, none⟩ ∧ np = ps.length ∧ np ≤ c ∧ c ≤ maxLen ∧ ∀ i p, ps[i]? = some p → ∃ x, w.cell? ⟨b, off + i, none⟩ = some x ∧ BytesV w x (p.row h t) := by
 rcases hr.rows with ⟨e, _⟩ | ⟨b, off, cap, e, h1, h2, h3⟩
 ·have e' := congrArg List.length e; rw [List.length_map, List.length_nil] at e'; omega
 ·injection e with e1 e2 e3
  subst e3
  rw [List.length_map] at e2 h1 h3
  refine ⟨b, off, e1, e2, by omega, h2, fun i p hp => ?_⟩
  have hi : i < ps.length := (List.getElem?_eq_some_iff.1 hp).1
  obtain ⟨x, hx, hb⟩ := h3 i hi
  refine ⟨x, hx, ?_⟩
  have e : (ps.map (Pc.row h t)).getD i [] = p.row h t := by
   rw [List.getD_eq_getElem?_getD, List.getElem?_map, hp]; rfl
  rwa [e] at hb
theorem take_flat {f : Pc → List Pc} {ps : List Pc} {q : Nat} {p : Pc} (h : ps[q]? = some p) : (ps.take (q + 1)).flatMap f = (ps.take q).flatMap f ++ f p := by
 rw [List.take_add_one, h, List.flatMap_append]; simp
theorem mtu_of (x : Int) : ∃ M : Nat, wrap64 (68 + (wrap64 (x.tmod 1433 + 1433)).tmod 1433) = (M : Int) ∧ 68 ≤ M ∧ M ≤ 1500 := by
 have h1 : -1433 < x.tmod 1433 ∧ x.tmod 1433 < 1433 := by
  have e := Int.natAbs_tmod x 1433
  have : x.natAbs % (1433 : Int).natAbs < 1433 := Nat.mod_lt _ (by decide)
  omega
 have w1 : wrap64 (x.tmod 1433 + 1433) = x.tmod 1433 + 1433 := IntWalk.wrap64_in _ (by omega)
 have h2 : 0 ≤ (x.tmod 1433 + 1433).tmod 1433 ∧ (x.tmod 1433 + 1433).tmod 1433 < 1433 := by
  rw [Int.tmod_eq_emod_of_nonneg (by omega)]; omega
 have w2 : wrap64 (68 + (x.tmod 1433 + 1433).tmod 1433) = 68 + (x.tmod 1433 + 1433).tmod 1433 := IntWalk.wrap64_in _ (by omega)
 refine ⟨(68 + (x.tmod 1433 + 1433).tmod 1433).toNat, ?_, ?_, ?_⟩
 ·rw [w1, w2]; omega
 ·omega
 ·omega
/-- What is asked, just made. -/
theorem asked_made (w : World) (M : Nat) (hM : 68 ≤ M ∧ M ≤ 1500) : AskedAt ((((w.alloc (.cells #[.int .i64 0, .int .i64 1] 37)).alloc (.cells #[.int .u32 184549376, .int .i64 8, .bool false, .bool true, .int .i64 1, .slice (some ⟨w.heap.size, 0, none⟩) 1 1] 40)).alloc (.cells #[.int .i64 M] 3)).alloc (.cells #[.slice (some ⟨w.heap.size + 1, 0, none⟩) 1 1, .int .u32 167772161, .slice (some ⟨w.heap.size + 1 + 1, 0, none⟩) 1 1, .int .i64 0] 43))
  (w.heap.size + 1) 0 1 w.heap.size 0 1 (w.heap.size + 1 + 1) 0 1 M := by
 have s1 : (w.alloc (.cells #[.int .i64 0, .int .i64 1] 37)).heap.size = w.heap.size + 1 := World.size_alloc _ _
 have s2 : ((w.alloc (.cells #[.int .i64 0, .int .i64 1] 37)).alloc (.cells #[.int .u32 184549376, .int .i64 8, .bool false, .bool true, .int .i64 1, .slice (some ⟨w.heap.size, 0, none⟩) 1 1] 40)).heap.size = w.heap.size + 1 + 1 := by rw [World.size_alloc, s1]
 have c1 : ∀ (i : Nat) (v : Value), [Value.int .i64 0, .int .i64 1][i]? = some v → (w.alloc (.cells #[.int .i64 0, .int .i64 1] 37)).cell? ⟨w.heap.size, i, none⟩ = some v := fun i v h => cell_new w [Value.int .i64 0, .int .i64 1] 37 i v h
 have c2 : ∀ (i : Nat) (v : Value), [Value.int .u32 184549376, .int .i64 8, .bool false, .bool true, .int .i64 1, .slice (some ⟨w.heap.size, 0, none⟩) 1 1][i]? = some v → ((w.alloc (.cells #[.int .i64 0, .int .i64 1] 37)).alloc (.cells #[.int .u32 184549376, .int .i64 8, .bool false, .bool true, .int .i64 1, .slice (some ⟨w.heap.size, 0, none⟩) 1 1] 40)).cell? ⟨w.heap.size + 1, i, none⟩ = some v := fun i v h => by
  have := cell_new (w.alloc (.cells #[.int .i64 0, .int .i64 1] 37)) [Value.int .u32 184549376, .int .i64 8, .bool false, .bool true, .int .i64 1, .slice (some ⟨w.heap.size, 0, none⟩) 1 1] 40 i v h
  rwa [s1] at this
 have c3 : (((w.alloc (.cells #[.int .i64 0, .int .i64 1] 37)).alloc (.cells #[.int .u32 184549376, .int .i64 8, .bool false, .bool true, .int .i64 1, .slice (some ⟨w.heap.size, 0, none⟩) 1 1] 40)).alloc (.cells #[.int .i64 M] 3)).cell? ⟨w.heap.size + 1 + 1, 0, none⟩ = some (.int .i64 M) := by
  have := cell_new ((w.alloc (.cells #[.int .i64 0, .int .i64 1] 37)).alloc (.cells #[.int .u32 184549376, .int .i64 8, .bool false, .bool true, .int .i64 1, .slice (some ⟨w.heap.size, 0, none⟩) 1 1] 40)) [Value.int .i64 M] 3 0 _ rfl
  rwa [s2] at this
 generalize e1 : w.alloc (.cells #[.int .i64 0, .int .i64 1] 37) = x1 at *
 generalize e2 : x1.alloc (.cells #[.int .u32 184549376, .int .i64 8, .bool false, .bool true, .int .i64 1, .slice (some ⟨w.heap.size, 0, none⟩) 1 1] 40) = x2 at *
 generalize e3 : x2.alloc (.cells #[.int .i64 M] 3) = x3 at *
 have g2 : Grow x1 x2 := by rw [← e2]; exact (Grow.refl _).alloc _
 have g3 : Grow x2 x3 := by rw [← e3]; exact (Grow.refl _).alloc _
 have g4 : Grow x3 (x3.alloc (.cells #[.slice (some ⟨w.heap.size + 1, 0, none⟩) 1 1, .int .u32 167772161, .slice (some ⟨w.heap.size + 1 + 1, 0, none⟩) 1 1, .int .i64 0] 43)) := (Grow.refl _).alloc _
 have k1 : ∀ {p : Addr} {v : Value}, x1.cell? p = some v → (x3.alloc (.cells #[.slice (some ⟨w.heap.size + 1, 0, none⟩) 1 1, .int .u32 167772161, .slice (some ⟨w.heap.size + 1 + 1, 0, none⟩) 1 1, .int .i64 0] 43)).cell? p = some v := fun h => (((g2.trans g3).trans g4).cell (block_lt h)).trans h
 have k2 : ∀ {p : Addr} {v : Value}, x2.cell? p = some v → (x3.alloc (.cells #[.slice (some ⟨w.heap.size + 1, 0, none⟩) 1 1, .int .u32 167772161, .slice (some ⟨w.heap.size + 1 + 1, 0, none⟩) 1 1, .int .i64 0] 43)).cell? p = some v := fun h => ((g3.trans g4).cell (block_lt h)).trans h
 exact ⟨k2 (c2 0 _ rfl), k2 (c2 1 _ rfl), k2 (c2 2 _ rfl), k2 (c2 3 _ rfl), k2 (c2 4 _ rfl), k2 (c2 5 _ rfl), k1 (c1 0 _ rfl), k1 (c1 1 _ rfl), (g4.cell (block_lt c3)).trans c3, by omega, by omega, by omega, hM⟩
/-- A piece fits the judge. -/
theorem fit_of {h : Hd} {t : Int} {os0 P : List Int} {p : Pc} (k : PcOk os0 P p) (hs : h.src = 167772165) (hd : h.dst = 184549381) (hf : h.df = false) (ht : 2 ≤ t) (hP : P.length ≤ 1400) : Fit (p.hd h t) p.data := by
 have h1 := k.le
 have h2 := k.os.len
 exact ⟨hs, hd, k.os.rout, ht, hf, by show (p.off : Int) + (p.data.length : Int) ≤ 8000; omega, by show 20 + p.os.length + p.data.length ≤ 2048; omega⟩
end
end Go.Proofs.YtgckhdepnmiejaaGreat
namespace Go.Proofs.YtgckhdepnmiejaaGreat
section
set_option maxRecDepth 100000
open Go.RowKit
theorem eval_in {hs : List (Tmp × (Value → World → Prop))} {xs : Tmp → Value} {a : Act} {t : Tmp} {φ : Value → World → Prop} (h : (t, φ) ∈ hs) (hl : t < a.tmps.size) : (fill hs xs a).eval (.tmp t) = xs t := getD_fill_in xs a h hl
theorem box_stored {o : Oper} {a : Act} {w : World} {b n : Nat} {x : Value} {p q : Operand} (ho : o.op = .store 48 p q) (hp : a.eval p = .pointer (some ⟨b, 0, none⟩)) (hq : a.eval q = .agg #[.int .i64 0, .int .i64 0, .slice none 0 0, x]) (hx : ∃ oa oc, x = .slice oa n oc)
  (hb : w.heap[b]? = some (.cells #[.int .i64 0, .int .i64 0, .slice none 0 0, .slice none 0 0] 48 (0, 0))) {φ : Value → World → Prop} {R : World → Prop}
  (h : ∀ w', w'.heap[b]? = some (.cells #[.int .i64 0, .int .i64 0, .slice none 0 0, x] 48 (0, 0)) → GrowBut (Only b) w w' → φ undef w' ∧ R w') : mildAt Tryz.prog o a w φ R := by
 obtain ⟨oa, oc, rfl⟩ := hx
 have hh := h ((((w.setCell ⟨b, 0, none⟩ (.int .i64 0)).setCell ⟨b, 1, none⟩ (.int .i64 0)).setCell ⟨b, 2, none⟩ (.slice none 0 0)).setCell ⟨b, 3, none⟩ (.slice oa n oc)) (by rw [heap_put, heap_put, heap_put, heap_put, hb]; rfl) (by simp only [only_put]; exact GrowBut.refl _ _)
 have HH := Lib.hid hh
 obtain ⟨⟨y0, y1, y2, y3⟩, yz⟩ := blk4 hb
 have yz0 := yz 0
 have yz1 := yz 1
 have yz2 := yz 2
 have yz3 := yz 3
 clear h hh yz hb
 unfold mildAt execOp
 simp only [ho, hp, hq]
 go_simp
 exact HH.out
/-- Blocks that hold no cells of the type T are kept. -/
structure KT (T : TypeId) (w w' : World) : Prop where
 size : w.heap.size ≤ w'.heap.size
 block : ∀ k, k < w.heap.size → (∀ cs, w.heap[k]? ≠ some (.cells cs T (0, 0))) → w'.heap[k]? = w.heap[k]?
theorem KT.refl (T : TypeId) (w : World) : KT T w w := ⟨Nat.le_refl _, fun _ _ _ => rfl⟩
theorem KT.trans {T : TypeId} {a b c : World} (h : KT T a b) (k : KT T b c) : KT T a c :=
 ⟨Nat.le_trans h.size k.size, fun i hi hn => by
  have e := h.block i hi hn
  exact (k.block i (Nat.lt_of_lt_of_le hi h.size) (fun cs => by rw [e]; exact hn cs)).trans e⟩
theorem KT.of_grow {T : TypeId} {a b : World} (h : Grow a b) : KT T a b := ⟨h.size, fun i hi _ => h.block i hi⟩
theorem KT.of_grown {T : TypeId} {a b : World} {base n size : Nat} {v : Value} {xs : List Value} (hv : a.ownsRow base T size v n xs) (h : a.grownBy b v.ownBlock) : KT T a b :=
 ⟨h.size, fun i hi hn => h.block i hi (fun e => by
  rcases hv.2 with ⟨rfl, _⟩ | ⟨g, cap, cur, rfl, _, hgb, _⟩
  ·simp [Value.ownBlock] at e
  ·obtain rfl : i = g := by simpa [Value.ownBlock] using e
   exact hn _ hgb)⟩
theorem own_kt {T : TypeId} {w w' : World} {base n size : Nat} {e : TypeId} {v : Value} {xs : List Value} (h : w.ownsRow base e size v n xs) (hg : KT T w w') (hT : e ≠ T) : w'.ownsRow base e size v n xs := by
 obtain ⟨h1, h2⟩ := h
 refine ⟨h1, h2.imp id ?_⟩
 rintro ⟨g, cap, cur, e1, e2, e3, e4⟩
 refine ⟨g, cap, cur, e1, e2, (hg.block g (lt_of_block e3) (fun cs h => ?_)).trans e3, e4⟩
 rw [e3] at h
 injection h with h
 injection h with _ h _
 exact hT h
theorem OutRow.kt {w w' : World} {base port : Nat} {v : Value} {rows : List (List Int)} (h : OutRow w base v port rows) (hg : KT 25 w w') : OutRow w' base v port rows := by
 obtain ⟨vs, h1, h2, h3⟩ := h
 exact ⟨vs, h1, own_kt h2 hg (by decide), fun i hi => ⟨own_kt (h3 i hi).1 hg (by decide), (h3 i hi).2⟩⟩
theorem kt_block {T U : TypeId} {w w' : World} {b : Nat} {cs : Array Value} (h : w.heap[b]? = some (.cells cs U (0, 0))) (hg : KT T w w') (hT : U ≠ T) : w'.heap[b]? = some (.cells cs U (0, 0)) :=
 (hg.block b (lt_of_block h) (fun ds k => by rw [h] at k; injection k with k; injection k with _ k _; exact hT k)).trans h
theorem cutAll_count {os0 P : List Int} {p : Pc} {M : Nat} (k : PcOk os0 P p) (hP : P.length ≤ 1400) : (cutAll p M).length ≤ 1500 := by
 unfold cutAll
 split
 ·simp
 ·rw [List.length_map]
  have h1 := cutsF_length M p.data.length p.os (p.data.length - 0) 0
  have h2 := k.le
  unfold cuts cutsFrom
  omega
theorem flat_count {os0 P : List Int} {M : Nat} (hP : P.length ≤ 1400) : ∀ (l : List Pc), (∀ p ∈ l, PcOk os0 P p) → (l.flatMap (cutAll · M)).length ≤ 1500 * l.length
 | [], _ => by simp
 | p :: l, h => by
  have h1 := cutAll_count (M := M) (h p (by simp)) hP
  have h2 := flat_count (M := M) hP l (fun q hq => h q (by simp [hq]))
  rw [List.flatMap_cons, List.length_append, List.length_cons]
  omega
/-- A row of the new ones fits. -/
theorem row_fits {h : Hd} {t : Int} {p : Pc} {M d : Nat} (r : Raw (p.hd h t)) (hM : 68 ≤ M) (hd : d < (cutAll p M).length) (t' : Int) : (((cutAll p M).map (Pc.row h t')).getD d []).length ≤ M := by
 have e : ((cutAll p M).map (Pc.row h t')).getD d [] = Pc.row h t' (cutAll p M)[d] := by
  rw [List.getD_eq_getElem?_getD, List.getElem?_map, List.getElem?_eq_getElem hd]; rfl
 rw [e]
 have := cutAll_le r hM _ (List.getElem_mem hd)
 unfold Pc.row
 rw [pkt_length]
 exact this
end
end Go.Proofs.YtgckhdepnmiejaaGreat
