/- A region that draws its order, whose operations and callees only make new memory (a chain of calls among them may write to blocks that are named): one walk in the order of the text serves every order. Values that hang on the order (where new memory lies) are known by what they are good for alone. -/
import Derived.Still
import Derived.StillTail
import Derived.Tactics
import Derived.Below
set_option linter.unusedVariables false
namespace Go.Proofs.Ytiphhjipgjpepaa
open Go.RowKit

/-- Memory grows, and of what was there at most the blocks of M have turned. -/
structure GrowBut (M : Nat → Prop) (w w' : World) : Prop where
  os : w'.os = w.os
  tape : w'.tape = w.tape
  output : w'.output = w.output
  size : w.heap.size ≤ w'.heap.size
  block : ∀ k, k < w.heap.size → ¬ M k → w'.heap[k]? = w.heap[k]?

theorem GrowBut.refl (M : Nat → Prop) (w : World) : GrowBut M w w := ⟨rfl, rfl, rfl, Nat.le_refl _, fun _ _ _ => rfl⟩
theorem GrowBut.trans {M : Nat → Prop} {a b c : World} (h : GrowBut M a b) (k : GrowBut M b c) : GrowBut M a c :=
  ⟨k.os.trans h.os, k.tape.trans h.tape, k.output.trans h.output, Nat.le_trans h.size k.size, fun i hi hm => (k.block i (Nat.lt_of_lt_of_le hi h.size) hm).trans (h.block i hi hm)⟩
theorem GrowBut.of_below {M : Nat → Prop} {w w' : World} (h : Below w.heap.size w w') : GrowBut M w w' :=
  ⟨h.os, h.tape, h.output, h.size, fun k hk _ => h.block k hk⟩
theorem GrowBut.below {w w' : World} (h : GrowBut (fun _ => False) w w') : Below w.heap.size w w' :=
  ⟨h.os, h.tape, h.output, h.size, fun k hk => h.block k hk id⟩

section
variable {P : Program} {ops : Array Oper}

/-- The slots whose values are known by a property alone get values. -/
def fill : List (Tmp × (Value → World → Prop)) → (Tmp → Value) → Act → Act
  | [], _, a => a
  | p :: r, xs, a => (fill r xs a).put (some p.1) (xs p.1)

/-- What is known of the slots at which the operation looks. -/
def HF (ops : Array Oper) (o : Oper) (hs : List (Tmp × (Value → World → Prop))) (xs : Tmp → Value) (w : World) : Prop :=
  ∀ p ∈ hs, (o.looksAt ops).contains p.1 = true → p.2 (xs p.1) w

def mildUpon (P : Program) (w : World) (φ : Value → World → Prop) (R : World → Prop) : Result Next → Prop
  | .ok (.value u) w' => φ u w' ∧ R w'
  | .ok .skip w' => φ undef w' ∧ R w'
  | .ok (.enter f args) w' => w' = w ∧ Calls P f args w (fun e w'' => ∃ u, e = .returned u ∧ φ u w'' ∧ R w'')
  | _ => False

def mildAt (P : Program) (o : Oper) (a : Act) (w : World) (φ : Value → World → Prop) (R : World → Prop) : Prop := mildUpon P w φ R ((execOp a.eval o).run P w)

/-- One operation of the lexical walk: from act, hidden slots, state of the chain, to those behind it. -/
def HStep (P : Program) (ops : Array Oper) (M : Nat → Prop) (w0 : World) (ch : Bool) (o : Oper) (a : Act) (hs : List (Tmp × (Value → World → Prop))) (C : World → Prop)
    (a' : Act) (hs' : List (Tmp × (Value → World → Prop))) (C' : World → Prop) : Prop :=
  ((∀ xs, Region.wanted o (yielded ops (fill hs xs a).tmps) = false) ∧ a' = a.put o.dst undef ∧ hs' = hs ∧ C' = C) ∨
  ((∀ xs, Region.wanted o (yielded ops (fill hs xs a).tmps) = true) ∧ ∃ φ : Value → World → Prop, (∀ u w w', GrowBut M w w' → φ u w → φ u w') ∧
    ((∃ v, φ = (fun u _ => u = v) ∧ a' = a.put o.dst v ∧ hs' = hs) ∨ (∃ d, o.dst = some d ∧ a' = a.put o.dst undef ∧ hs' = (d, φ) :: hs)) ∧
    ((C' = C ∧ ch = false ∧ ∀ xs w, GrowBut M w0 w → HF ops o hs xs w → mildAt P o (fill hs xs a) w φ (fun w' => Below w.heap.size w w')) ∨
     ((∀ w w', Below w.heap.size w w' → C' w → C' w') ∧ ch = true ∧ ∀ xs w, GrowBut M w0 w → C w → HF ops o hs xs w → mildAt P o (fill hs xs a) w φ (fun w' => GrowBut M w w' ∧ C' w'))))

/-- The lexical walk. -/
def wpH (P : Program) (ops : Array Oper) (M : Nat → Prop) (w0 : World) (cs : List Nat) (Qf : Act → List (Tmp × (Value → World → Prop)) → (World → Prop) → Prop) :
    List Oper → Nat → Act → List (Tmp × (Value → World → Prop)) → (World → Prop) → Prop
  | [], _, a, hs, C => Qf a hs C
  | o :: rest, k, a, hs, C => ∃ a' hs' C', HStep P ops M w0 (cs.contains k) o a hs C a' hs' C' ∧ wpH P ops M w0 cs Qf rest (k + 1) a' hs' C'

/-- What is asked of the region itself. -/
def growB (ops : Array Oper) (n : Nat) (cs : List Nat) (sz : Nat) : Bool :=
  Region.noSelect ops && decide (n ≤ ops.size) && Region.seqB .any ops (ops.size - n) n (Array.replicate n true ++ Array.replicate (ops.size - n) false) &&
  ((List.range n).all fun j => (List.range n).all fun k =>
    match ops[j]?, ops[k]? with
    | some oj, some ok =>
      match ok.dst with
      | some d => decide (d < sz) && (!(oj.looksAt ops).contains d || (decide (k < j) && Region.waitsFor .any ops j k)) && (decide (j = k) || oj.dst != some d)
      | none => true
    | _, _ => false) &&
  ((List.range ops.size).all fun j => match ops[j]? with | some oj => oj.after.all (fun e => !Region.binds .any e || decide (e.on < j)) | none => false) &&
  (cs.all fun j => cs.all fun i => !decide (i < j) || cs.any fun k => decide (i ≤ k) && decide (k < j) && Region.waitsFor .any ops j k) &&
  (decide (ops.size ≤ n) || (Region.sinkB .any ops n && Region.chainB .any ops n))


/-! ### The walk as sequences -/

theorem wpH_seq {M : Nat → Prop} {w0 : World} {cs : List Nat} {Qf : Act → List (Tmp × (Value → World → Prop)) → (World → Prop) → Prop} :
    ∀ (l : List Oper) (k : Nat) (a : Act) (hs : List (Tmp × (Value → World → Prop))) (C : World → Prop), wpH P ops M w0 cs Qf l k a hs C →
    ∃ (A : Nat → Act) (H : Nat → List (Tmp × (Value → World → Prop))) (D : Nat → World → Prop), A k = a ∧ H k = hs ∧ D k = C ∧
      (∀ j o, l[j]? = some o → HStep P ops M w0 (cs.contains (k + j)) o (A (k + j)) (H (k + j)) (D (k + j)) (A (k + j + 1)) (H (k + j + 1)) (D (k + j + 1))) ∧
      Qf (A (k + l.length)) (H (k + l.length)) (D (k + l.length))
  | [], k, a, hs, C, h => ⟨fun _ => a, fun _ => hs, fun _ => C, rfl, rfl, rfl, fun j o hj => by simp at hj, h⟩
  | o :: rest, k, a, hs, C, h => by
    obtain ⟨a', hs', C', hst, hr⟩ := h
    obtain ⟨A, H, D, hA, hH, hD, hall, hq⟩ := wpH_seq rest (k + 1) a' hs' C' hr
    refine ⟨fun i => if i = k then a else A i, fun i => if i = k then hs else H i, fun i => if i = k then C else D i, by simp, by simp, by simp, ?_, ?_⟩
    · intro j oj hj
      cases j with
      | zero =>
        simp at hj
        subst hj
        simp only [Nat.add_zero, if_true, if_neg (Nat.succ_ne_self k), hA, hH, hD]
        exact hst
      | succ j =>
        have := hall j oj (by simpa using hj)
        have e : k + (j + 1) = k + 1 + j := by omega
        rw [e]
        simp only [if_neg (show ¬ k + 1 + j = k by omega), if_neg (show ¬ k + 1 + j + 1 = k by omega)]
        exact this
    · have e : k + (o :: rest).length = k + 1 + rest.length := by simp; omega
      rw [e]
      simp only [if_neg (show ¬ k + 1 + rest.length = k by omega)]
      exact hq

theorem getD_put (a : Act) (d : Option Tmp) (v : Value) (t : Tmp) (h : d ≠ some t) : (a.put d v).tmps.getD t undef = a.tmps.getD t undef := by
  cases d with
  | none => rfl
  | some d =>
    have : d ≠ t := fun e => h (by rw [e])
    simp [Act.put, Array.getElem?_setIfInBounds_ne this]

theorem getD_put_same (a : Act) (d : Tmp) (v : Value) (h : d < a.tmps.size) : (a.put (some d) v).tmps.getD d undef = v := by
  simp [Act.put, h]

theorem size_put (a : Act) (d : Option Tmp) (v : Value) : (a.put d v).tmps.size = a.tmps.size := by
  cases d <;> simp [Act.put]
theorem defers_put (a : Act) (d : Option Tmp) (v : Value) : (a.put d v).defers = a.defers := by
  cases d <;> rfl

theorem size_fill (hs : List (Tmp × (Value → World → Prop))) (xs : Tmp → Value) (a : Act) : (fill hs xs a).tmps.size = a.tmps.size := by
  induction hs with
  | nil => rfl
  | cons p r ih => rw [fill, size_put, ih]
theorem defers_fill (hs : List (Tmp × (Value → World → Prop))) (xs : Tmp → Value) (a : Act) : (fill hs xs a).defers = a.defers := by
  induction hs with
  | nil => rfl
  | cons p r ih => rw [fill, defers_put, ih]

/-- A slot that is not hidden holds what the act holds; a hidden one what it is filled with. -/
theorem getD_fill_out {t : Tmp} : ∀ {hs : List (Tmp × (Value → World → Prop))} (xs : Tmp → Value) (a : Act), (∀ φ, (t, φ) ∉ hs) → (fill hs xs a).tmps.getD t undef = a.tmps.getD t undef
  | [], _, _, _ => rfl
  | p :: r, xs, a, h => by
    rw [fill, getD_put _ _ _ _ (fun e => h p.2 (by have : p.1 = t := Option.some.inj e; rw [← this]; simp))]
    exact getD_fill_out xs a (fun φ hm => h φ (by simp [hm]))
theorem getD_fill_in {t : Tmp} : ∀ {hs : List (Tmp × (Value → World → Prop))} (xs : Tmp → Value) (a : Act) {φ : Value → World → Prop}, (t, φ) ∈ hs → t < a.tmps.size → (fill hs xs a).tmps.getD t undef = xs t
  | [], _, _, _, h, _ => by cases h
  | p :: r, xs, a, φ, h, hlt => by
    rw [fill]
    by_cases e : p.1 = t
    · rw [e, getD_put_same _ _ _ (by rw [size_fill]; exact hlt)]
    · rw [getD_put _ _ _ _ (fun e' => e (Option.some.inj e'))]
      rcases List.mem_cons.1 h with rfl | h
      · exact absurd rfl e
      · exact getD_fill_in xs a h hlt

/-- How many are not listed yet. -/
def unl (L : Array Bool) : Nat → Nat
  | 0 => 0
  | n + 1 => unl L n + if L.getD n true = false then 1 else 0

theorem unl_set_ge (L : Array Bool) (j : Nat) : ∀ n, n ≤ j → unl (L.setIfInBounds j true) n = unl L n
  | 0, _ => rfl
  | n + 1, h => by rw [unl, unl, unl_set_ge L j n (by omega), getD_set_ne true (by omega)]
theorem unl_set (L : Array Bool) (j : Nat) (hj : L.getD j true = false) : ∀ n, j < n → unl (L.setIfInBounds j true) n + 1 = unl L n
  | 0, h => by omega
  | n + 1, h => by
    rw [unl, unl]
    by_cases e : j = n
    · subst e
      rw [unl_set_ge L j j (Nat.le_refl _)]
      have hlt : j < L.size := by
        rcases Nat.lt_or_ge j L.size with h' | h'
        · exact h'
        · simp [Array.getElem?_eq_none h'] at hj
      have : (L.setIfInBounds j true).getD j true = true := by simp [hlt]
      simp [this, hj]
    · rw [getD_set_ne true e]
      have := unl_set L j hj n (by omega)
      omega
theorem unl_zero {L : Array Bool} : ∀ {n}, unl L n = 0 → ∀ k, k < n → L.getD k true = true
  | 0, _, k, hk => by omega
  | n + 1, h, k, hk => by
    rw [unl] at h
    by_cases e : k = n
    · subst e
      cases hb : L.getD k true
      · simp [hb] at h
      · rfl
    · exact unl_zero (n := n) (by omega) k (by omega)


/-! ### What the Bool says -/

structure GB (ops : Array Oper) (n : Nat) (cs : List Nat) (sz : Nat) : Prop where
  sel : Region.noSelect ops = true
  le : n ≤ ops.size
  seq : Region.seqB .any ops (ops.size - n) n (Array.replicate n true ++ Array.replicate (ops.size - n) false) = true
  slot : ∀ (j k : Nat) (oj ok : Oper) (d : Tmp), j < n → k < n → ops[j]? = some oj → ops[k]? = some ok → ok.dst = some d →
    d < sz ∧ (d ∈ oj.looksAt ops → k < j ∧ Region.waitsFor .any ops j k = true) ∧ (j ≠ k → oj.dst ≠ some d)
  low : ∀ (j : Nat) (oj : Oper), ops[j]? = some oj → ∀ e ∈ oj.after, Region.binds .any e = true → e.on < j
  chain : ∀ j i, j ∈ cs → i ∈ cs → i < j → ∃ k, k ∈ cs ∧ i ≤ k ∧ k < j ∧ Region.waitsFor .any ops j k = true
  sink : n < ops.size → Region.sinkB .any ops n = true ∧ Region.chainB .any ops n = true

theorem growB_spec {n : Nat} {cs : List Nat} {sz : Nat} (h : growB ops n cs sz = true) : GB ops n cs sz := by
  simp only [growB, Bool.and_eq_true, decide_eq_true_eq, List.all_eq_true, List.mem_range] at h
  obtain ⟨⟨⟨⟨⟨⟨h1, h2⟩, h3⟩, h4⟩, h5⟩, h6⟩, h7⟩ := h
  refine ⟨h1, h2, h3, ?_, ?_, ?_, ?_⟩
  · intro j k oj ok d hj hk ej ek ed
    have := h4 j hj k hk
    simp only [ej, ek, ed, Bool.and_eq_true, Bool.or_eq_true, decide_eq_true_eq, Bool.not_eq_true', bne_iff_ne, ne_eq] at this
    obtain ⟨⟨a1, a2⟩, a3⟩ := this
    refine ⟨a1, fun hd => ?_, fun hne => a3.resolve_left hne⟩
    rcases a2 with a2 | a2
    · rw [List.contains_iff_mem.2 hd] at a2; cases a2
    · exact a2
  · intro j oj ej e he hb
    have hlt : j < ops.size := (Array.getElem?_eq_some_iff.1 ej).1
    have := h5 j hlt
    simp only [ej, Array.all_eq_true_iff_forall_mem, Bool.or_eq_true, Bool.not_eq_true', decide_eq_true_eq] at this
    rcases this e he with h | h
    · rw [hb] at h; cases h
    · exact h
  · intro j i hj hi hij
    have := h6 j hj i hi
    simp only [Bool.or_eq_true, Bool.not_eq_true', decide_eq_false_iff_not, List.any_eq_true, Bool.and_eq_true, decide_eq_true_eq] at this
    rcases this with h | ⟨k, hk, ⟨a1, a2⟩, a3⟩
    · exact absurd hij h
    · exact ⟨k, hk, a1, a2, a3⟩
  · intro hlt
    simp only [Bool.or_eq_true, decide_eq_true_eq, Bool.and_eq_true] at h7
    exact h7.resolve_left (by omega)

/-! ### The sequences' facts -/

structure Seqs (P : Program) (ops : Array Oper) (M : Nat → Prop) (w0 : World) (cs : List Nat) (n : Nat) (A : Nat → Act) (H : Nat → List (Tmp × (Value → World → Prop))) (D : Nat → World → Prop) : Prop where
  h0 : H 0 = []
  step : ∀ j o, j < n → ops[j]? = some o → HStep P ops M w0 (cs.contains j) o (A j) (H j) (D j) (A (j + 1)) (H (j + 1)) (D (j + 1))
  op : ∀ j, j < n → ∃ o, ops[j]? = some o
  stable0 : ∀ w w', Below w.heap.size w w' → D 0 w → D 0 w'

section
variable {M : Nat → Prop} {w0 : World} {cs : List Nat} {n : Nat} {A : Nat → Act} {H : Nat → List (Tmp × (Value → World → Prop))} {D : Nat → World → Prop}

theorem Seqs.actOf (S : Seqs P ops M w0 cs n A H D) {j : Nat} {o : Oper} (hj : j < n) (ho : ops[j]? = some o) : ∃ v, A (j + 1) = (A j).put o.dst v := by
  rcases S.step j o hj ho with ⟨_, h, _⟩ | ⟨_, φ, _, ⟨v, _, h, _⟩ | ⟨d, _, h, _⟩, _⟩
  · exact ⟨_, h⟩
  · exact ⟨_, h⟩
  · exact ⟨_, h⟩

theorem Seqs.hidOf (S : Seqs P ops M w0 cs n A H D) {j : Nat} {o : Oper} (hj : j < n) (ho : ops[j]? = some o) : H (j + 1) = H j ∨ ∃ d φ, o.dst = some d ∧ H (j + 1) = (d, φ) :: H j := by
  rcases S.step j o hj ho with ⟨_, _, h, _⟩ | ⟨_, φ, _, ⟨v, _, _, h⟩ | ⟨d, hd, _, h⟩, _⟩
  · exact Or.inl h
  · exact Or.inl h
  · exact Or.inr ⟨d, φ, hd, h⟩

theorem Seqs.size (S : Seqs P ops M w0 cs n A H D) : ∀ j, j ≤ n → (A j).tmps.size = (A 0).tmps.size ∧ (A j).defers = (A 0).defers
  | 0, _ => ⟨rfl, rfl⟩
  | j + 1, h => by
    obtain ⟨o, ho⟩ := S.op j (by omega)
    obtain ⟨v, hv⟩ := S.actOf (by omega) ho
    have := Seqs.size S j (by omega)
    exact ⟨by rw [hv, size_put, this.1], by rw [hv, defers_put, this.2]⟩

theorem Seqs.keep (S : Seqs P ops M w0 cs n A H D) {t : Tmp} {k : Nat} : ∀ m, k ≤ m → m ≤ n → (∀ i o, k ≤ i → i < m → ops[i]? = some o → o.dst ≠ some t) → (A m).tmps.getD t undef = (A k).tmps.getD t undef := by
  intro m hkm hmn h
  induction m with
  | zero => have : k = 0 := by omega
            rw [this]
  | succ m ih =>
    by_cases e : k = m + 1
    · rw [e]
    · obtain ⟨o, ho⟩ := S.op m (by omega)
      obtain ⟨v, hv⟩ := S.actOf (by omega) ho
      rw [hv, getD_put _ _ _ _ (h m o (by omega) (by omega) ho)]
      exact ih (by omega) (by omega) (fun i o hi hi' => h i o hi (by omega))

theorem Seqs.mem (S : Seqs P ops M w0 cs n A H D) {t : Tmp} {φ : Value → World → Prop} : ∀ m, m ≤ n → (t, φ) ∈ H m → ∃ k o, k < m ∧ ops[k]? = some o ∧ o.dst = some t ∧ H (k + 1) = (t, φ) :: H k
  | 0, _, h => by rw [S.h0] at h; cases h
  | m + 1, hm, h => by
    obtain ⟨o, ho⟩ := S.op m (by omega)
    rcases S.hidOf (by omega) ho with e | ⟨d, ψ, hd, e⟩
    · rw [e] at h
      obtain ⟨k, o', h1, h2⟩ := Seqs.mem S m (by omega) h
      exact ⟨k, o', by omega, h2⟩
    · rw [e] at h
      rcases List.mem_cons.1 h with h | h
      · have h1 : t = d := congrArg Prod.fst h
        have h2 : φ = ψ := congrArg Prod.snd h
        subst h1; subst h2
        exact ⟨m, o, by omega, ho, hd, e⟩
      · obtain ⟨k, o', h1, h2⟩ := Seqs.mem S m (by omega) h
        exact ⟨k, o', by omega, h2⟩

theorem Seqs.sub (S : Seqs P ops M w0 cs n A H D) {k : Nat} {p : Tmp × (Value → World → Prop)} : ∀ m, k ≤ m → m ≤ n → p ∈ H k → p ∈ H m := by
  intro m hk hm h
  induction m with
  | zero => have : k = 0 := by omega
            rwa [this] at h
  | succ m ih =>
    by_cases e : k = m + 1
    · rwa [e] at h
    · obtain ⟨o, ho⟩ := S.op m (by omega)
      have := ih (by omega) (by omega)
      rcases S.hidOf (by omega) ho with e | ⟨d, ψ, _, e⟩
      · rw [e]; exact this
      · rw [e]; exact List.mem_cons_of_mem _ this

theorem Seqs.stableD (S : Seqs P ops M w0 cs n A H D) : ∀ j, j ≤ n → ∀ w w', Below w.heap.size w w' → D j w → D j w'
  | 0, _ => S.stable0
  | j + 1, h => by
    obtain ⟨o, ho⟩ := S.op j (by omega)
    have ih := Seqs.stableD S j (by omega)
    rcases S.step j o (by omega) ho with ⟨_, _, _, e⟩ | ⟨_, φ, _, _, ⟨e, _⟩ | ⟨e, _⟩⟩
    · rw [e]; exact ih
    · rw [e]; exact ih
    · exact e

theorem Seqs.sameD (S : Seqs P ops M w0 cs n A H D) {k : Nat} : ∀ m, k ≤ m → m ≤ n → (∀ i, i ∈ cs → k ≤ i → i < m → False) → D m = D k := by
  intro m hk hm h
  induction m with
  | zero => have : k = 0 := by omega
            rw [this]
  | succ m ih =>
    by_cases e : k = m + 1
    · rw [e]
    · obtain ⟨o, ho⟩ := S.op m (by omega)
      have := ih (by omega) (by omega) (fun i hi h1 h2 => h i hi h1 (by omega))
      rw [← this]
      rcases S.step m o (by omega) ho with ⟨_, _, _, e⟩ | ⟨_, φ, _, _, ⟨e, _⟩ | ⟨_, e, _⟩⟩
      · exact e
      · exact e
      · exact absurd (List.contains_iff_mem.1 e) (fun hm => h m hm (by omega) (by omega))

/-! ### The invariant of every order -/

structure RInv (ops : Array Oper) (M : Nat → Prop) (w0 : World) (cs : List Nat) (n : Nat) (A : Nat → Act) (H : Nat → List (Tmp × (Value → World → Prop))) (D : Nat → World → Prop) (L : Array Bool) (a : Act) (w : World) : Prop where
  size : L.size = ops.size
  closed : ∀ (j : Nat) (oj : Oper), ops[j]? = some oj → L.getD j false = true → ∀ e ∈ oj.after, Region.binds .any e = true → L.getD e.on false = true
  grow : GrowBut M w0 w
  chain : ∀ k, k ≤ n → (∀ i, i ∈ cs → i < k → L.getD i false = true) → (∀ i, i ∈ cs → k ≤ i → L.getD i false = false) → D k w
  hit : ∀ (k : Nat) (ok : Oper) (t : Tmp), k < n → ops[k]? = some ok → L.getD k false = true → ok.dst = some t →
    (∀ φ, (t, φ) ∈ H n → φ (a.tmps.getD t undef) w) ∧ ((∀ φ, (t, φ) ∉ H n) → a.tmps.getD t undef = (A n).tmps.getD t undef)
  miss : ∀ t, (∀ (k : Nat) (ok : Oper), k < n → ops[k]? = some ok → L.getD k false = true → ok.dst ≠ some t) → a.tmps.getD t undef = (A 0).tmps.getD t undef
  asize : a.tmps.size = (A 0).tmps.size
  defers : a.defers = (A 0).defers
  tail : ∀ t, n ≤ t → L.getD t false = false

theorem same_get {a b : Array Value} {t : Tmp} (hs : a.size = b.size) (h : a.getD t undef = b.getD t undef) : a[t]? = b[t]? := by
  by_cases ht : t < a.size
  · have ht' : t < b.size := hs ▸ ht
    simp [ht, ht'] at h ⊢
    exact h
  · rw [Array.getElem?_eq_none (Nat.le_of_not_lt ht), Array.getElem?_eq_none (Nat.le_of_not_lt (hs ▸ ht))]

theorem waits_listed {L : Array Bool} {j k : Nat} {o : Oper} (ho : ops[j]? = some o) (hall : ∀ e ∈ o.after, Region.binds .any e = true → L.getD e.on false = true) (h : Region.waitsFor .any ops j k = true) : L.getD k false = true := by
  obtain ⟨oj, hj, e, he, hb, hk⟩ := Region.waitsFor_spec h
  have : oj = o := Option.some.inj (hj.symm.trans ho)
  subst this
  rw [← hk]; exact hall e he hb

/-- Where an operation comes up, it sees what the lexical walk lets it see. -/
theorem RInv.look (S : Seqs P ops M w0 cs n A H D) (G : GB ops n cs (A 0).tmps.size) {L : Array Bool} {a : Act} {w : World} (I : RInv ops M w0 cs n A H D L a w) {j : Nat} {o : Oper} (hj : j < n) (ho : ops[j]? = some o)
    (hall : ∀ e ∈ o.after, Region.binds .any e = true → L.getD e.on false = true) (t : Tmp) (ht : t ∈ o.looksAt ops) :
    (fill (H j) (fun t => a.tmps.getD t undef) (A j)).tmps.getD t undef = a.tmps.getD t undef := by
  by_cases hin : ∃ φ, (t, φ) ∈ H j
  · obtain ⟨φ, hφ⟩ := hin
    obtain ⟨k, ok, hk, hok, hd, _⟩ := S.mem j (by omega) hφ
    exact getD_fill_in _ _ hφ (by rw [(S.size j (by omega)).1]; exact (G.slot j k o ok t hj (by omega) ho hok hd).1)
  · have hout : ∀ φ, (t, φ) ∉ H j := fun φ h => hin ⟨φ, h⟩
    rw [getD_fill_out _ _ hout]
    by_cases hk : ∃ k ok, k < n ∧ ops[k]? = some ok ∧ ok.dst = some t
    · obtain ⟨k, ok, hkn, hok, hd⟩ := hk
      obtain ⟨_, h2, _⟩ := G.slot j k o ok t hj hkn ho hok hd
      obtain ⟨hkj, hw⟩ := h2 ht
      have hL := waits_listed ho hall hw
      have hn : ∀ φ, (t, φ) ∉ H n := fun φ hφ => by
        obtain ⟨k', ok', hk', hok', hd', e⟩ := S.mem n (Nat.le_refl _) hφ
        have hkk : k' = k := Classical.byContradiction fun hne => (G.slot k' k ok' ok t hk' hkn hok' hok hd).2.2 hne hd'
        subst hkk
        exact hout φ (S.sub j (k := k' + 1) (by omega) (by omega) (by rw [e]; simp))
      rw [(I.hit k ok t hkn hok hL hd).2 hn]
      refine (S.keep n (by omega) (Nat.le_refl _) fun i oi hi hi' hoi => ?_).symm
      exact (G.slot i k oi ok t hi' hkn hoi hok hd).2.2 (by omega)
    · have hno : ∀ (k : Nat) (ok : Oper), k < n → ops[k]? = some ok → ok.dst ≠ some t := fun k ok h1 h2 h3 => hk ⟨k, ok, h1, h2, h3⟩
      rw [I.miss t (fun k ok h1 h2 _ => hno k ok h1 h2)]
      exact S.keep j (Nat.zero_le _) (by omega) fun i oi _ hi' hoi => hno i oi (by omega) hoi

theorem RInv.exec (S : Seqs P ops M w0 cs n A H D) (G : GB ops n cs (A 0).tmps.size) {L : Array Bool} {a : Act} {w : World} (I : RInv ops M w0 cs n A H D L a w) {j : Nat} {o : Oper} (hj : j < n) (ho : ops[j]? = some o)
    (hall : ∀ e ∈ o.after, Region.binds .any e = true → L.getD e.on false = true) :
    execOp a.eval o = execOp (fill (H j) (fun t => a.tmps.getD t undef) (A j)).eval o ∧
    Region.wanted o (yielded ops a.tmps) = Region.wanted o (yielded ops (fill (H j) (fun t => a.tmps.getD t undef) (A j)).tmps) := by
  have hl := fun t ht => I.look S G hj ho hall t ht
  refine ⟨execOp_congr o (fun cs b => Region.noSelect_spec G.sel j o cs b ho) fun x hx => ?_, ?_⟩
  · cases x with
    | tmp t => exact (hl t (List.mem_append_left _ (List.mem_filterMap.2 ⟨.tmp t, by simpa using hx, rfl⟩))).symm
    | _ => rfl
  · unfold Region.wanted
    cases hg : o.guard with
    | none => rfl
    | some gw =>
      obtain ⟨g, want⟩ := gw
      have hy : yielded ops a.tmps g = yielded ops (fill (H j) (fun t => a.tmps.getD t undef) (A j)).tmps g := by
        unfold yielded
        cases ht : (ops[g]?).bind (·.dst) with
        | none => rfl
        | some t =>
          simp only [Option.bind_some]
          rw [same_get (t := t) (by rw [size_fill, (S.size j (by omega)).1, I.asize]) (hl t (by simp [Oper.looksAt, hg, ht])).symm]
      simp only [hy]

theorem RInv.hf (S : Seqs P ops M w0 cs n A H D) (G : GB ops n cs (A 0).tmps.size) {L : Array Bool} {a : Act} {w : World} (I : RInv ops M w0 cs n A H D L a w) {j : Nat} {o : Oper} (hj : j < n) (ho : ops[j]? = some o)
    (hall : ∀ e ∈ o.after, Region.binds .any e = true → L.getD e.on false = true) : HF ops o (H j) (fun t => a.tmps.getD t undef) w := by
  intro p hp hlook
  obtain ⟨t, φ⟩ := p
  obtain ⟨k, ok, hk, hok, hd, _⟩ := S.mem j (by omega) hp
  have ht : t ∈ o.looksAt ops := List.contains_iff_mem.1 hlook
  obtain ⟨_, h2, _⟩ := G.slot j k o ok t hj (by omega) ho hok hd
  have hL := waits_listed ho hall (h2 ht).2
  exact (I.hit k ok t (by omega) hok hL hd).1 φ (S.sub n (by omega) (Nat.le_refl _) hp)

theorem RInv.cut (G : GB ops n cs (A 0).tmps.size) {L : Array Bool} {a : Act} {w : World} (I : RInv ops M w0 cs n A H D L a w) :
    ∀ (j : Nat), (∀ i, i < j → ∀ k, k ∈ cs → i ∈ cs → j ≤ k → True) → ∀ k, k < j → k ∈ cs → L.getD k false = true → ∀ i, i ∈ cs → i < k → L.getD i false = true := by
  intro j
  induction j with
  | zero => intro _ k hk; omega
  | succ j ih =>
    intro _ k hk hkc hL i hi hik
    obtain ⟨k', hk', h1, h2, hw⟩ := G.chain k i hkc hi hik
    obtain ⟨ok, hok, e, he, hb, hon⟩ := Region.waitsFor_spec hw
    have hL' : L.getD k' false = true := by rw [← hon]; exact I.closed k ok hok hL e he hb
    rcases Nat.lt_or_ge i k' with h | h
    · exact ih (fun _ _ _ _ _ _ => trivial) k' (by omega) hk' hL' i hi h
    · have : i = k' := by omega
      subst this; exact hL'

/-- One operation has run: the invariant goes on. -/
theorem RInv.next (S : Seqs P ops M w0 cs n A H D) (G : GB ops n cs (A 0).tmps.size) {L : Array Bool} {a : Act} {w : World} (I : RInv ops M w0 cs n A H D L a w) {j : Nat} {o : Oper} (hj : j < n) (ho : ops[j]? = some o)
    (hun : L.getD j true = false) (hall : ∀ e ∈ o.after, Region.binds .any e = true → L.getD e.on false = true) {u : Value} {w' : World} (hg : GrowBut M w w')
    (hD : (Below w.heap.size w w' ∧ D (j + 1) = D j) ∨ (j ∈ cs ∧ D (j + 1) w'))
    (hu : ∀ t, o.dst = some t → (∀ φ, (t, φ) ∈ H n → φ u w') ∧ ((∀ φ, (t, φ) ∉ H n) → (A (j + 1)).tmps.getD t undef = u))
    (hst : ∀ p ∈ H n, ∀ u w w', GrowBut M w w' → p.2 u w → p.2 u w') :
    RInv ops M w0 cs n A H D (L.setIfInBounds j true) (a.put o.dst u) w' := by
  have hjs : j < L.size := by
    rcases Nat.lt_or_ge j L.size with h' | h'
    · exact h'
    · simp [Array.getElem?_eq_none h'] at hun
  have hset : (L.setIfInBounds j true).getD j false = true := by simp [hjs]
  have hne : ∀ k, k ≠ j → (L.setIfInBounds j true).getD k false = L.getD k false := fun k hk => getD_set_ne false (Ne.symm hk)
  have hfalse : L.getD j false = false := getD_both hun
  refine ⟨by simp [I.size], ?_, I.grow.trans hg, ?_, ?_, ?_, by rw [size_put, I.asize], by rw [defers_put, I.defers], ?_⟩
  · intro k ok hok hL e he hb
    refine getD_set_true ?_
    by_cases hkj : k = j
    · subst hkj
      have : ok = o := Option.some.inj (hok.symm.trans ho)
      subst this
      exact hall e he hb
    · rw [hne k hkj] at hL
      exact I.closed k ok hok hL e he hb
  · intro k hk h1 h2
    rcases hD with ⟨hb, hDj⟩ | ⟨hjc, hDj⟩
    · by_cases hjc : j ∈ cs
      · by_cases hkj : k ≤ j
        · have := h2 j hjc hkj
          rw [hset] at this; cases this
        · have hD1 : D k = D (j + 1) := S.sameD k (by omega) hk fun i hi h3 h4 => by
            have hLi := h1 i hi h4
            rw [hne i (by omega)] at hLi
            have := I.cut G (i + 1) (fun _ _ _ _ _ _ => trivial) i (by omega) hi hLi j hjc (by omega)
            rw [hfalse] at this; cases this
          rw [hD1, hDj]
          refine S.stableD j (by omega) _ _ hb (I.chain j (by omega) ?_ ?_)
          · intro i hi hij
            have := h1 i hi (by omega)
            rwa [hne i (by omega)] at this
          · intro i hi hij
            by_cases hij' : i = j
            · rw [hij']; exact hfalse
            · cases hb : L.getD i false
              · rfl
              · have := I.cut G (i + 1) (fun _ _ _ _ _ _ => trivial) i (by omega) hi hb j hjc (by omega)
                rw [hfalse] at this; cases this
      · refine S.stableD k hk _ _ hb (I.chain k hk ?_ ?_)
        · intro i hi hik
          have := h1 i hi hik
          rwa [hne i (fun e => hjc (e ▸ hi))] at this
        · intro i hi hik
          have := h2 i hi hik
          rwa [hne i (fun e => hjc (e ▸ hi))] at this
    · by_cases hkj : k ≤ j
      · have := h2 j hjc hkj
        rw [hset] at this; cases this
      · have hD1 : D k = D (j + 1) := S.sameD k (by omega) hk fun i hi h3 h4 => by
          have hLi := h1 i hi h4
          rw [hne i (by omega)] at hLi
          have := I.cut G (i + 1) (fun _ _ _ _ _ _ => trivial) i (by omega) hi hLi j hjc (by omega)
          rw [hfalse] at this; cases this
        rw [hD1]; exact hDj
  · intro k ok t hk hok hL hd
    by_cases hkj : k = j
    · subst hkj
      have : ok = o := Option.some.inj (hok.symm.trans ho)
      subst this
      have hlt := (G.slot k k ok ok t hk hk hok hok hd).1
      have e : (a.put ok.dst u).tmps.getD t undef = u := by rw [hd]; exact getD_put_same _ _ _ (by rw [I.asize]; exact hlt)
      rw [e]
      refine ⟨(hu t hd).1, fun hn => ?_⟩
      rw [← (hu t hd).2 hn]
      refine (S.keep n (by omega) (Nat.le_refl _) fun i oi hi hi' hoi => ?_).symm
      exact (G.slot i k oi ok t hi' hk hoi hok hd).2.2 (by omega)
    · rw [hne k hkj] at hL
      have hne' : o.dst ≠ some t := (G.slot j k o ok t hj hk ho hok hd).2.2 (Ne.symm hkj)
      rw [getD_put _ _ _ _ hne']
      have := I.hit k ok t hk hok hL hd
      exact ⟨fun φ hφ => hst _ hφ _ _ _ hg (this.1 φ hφ), this.2⟩
  · intro t ht
    have hne' : o.dst ≠ some t := ht j o hj ho hset
    rw [getD_put _ _ _ _ hne']
    refine I.miss t fun k ok hk hok hL => ht k ok hk hok ?_
    by_cases hkj : k = j
    · rw [hkj]; exact hset
    · rw [hne k hkj]; exact hL
  · intro t ht; rw [hne t (by omega)]; exact I.tail t ht

/-- The stable facts. -/
theorem Seqs.stableH (S : Seqs P ops M w0 cs n A H D) : ∀ p ∈ H n, ∀ u w w', GrowBut M w w' → p.2 u w → p.2 u w' := by
  intro p hp
  obtain ⟨t, φ⟩ := p
  obtain ⟨k, o, hk, ho, hd, e⟩ := S.mem n (Nat.le_refl _) hp
  rcases S.step k o hk ho with ⟨_, _, h, _⟩ | ⟨_, ψ, hψ, ⟨v, _, _, h⟩ | ⟨d, _, _, h⟩, _⟩
  · rw [h] at e; exact absurd (congrArg List.length e) (by simp)
  · rw [h] at e; exact absurd (congrArg List.length e) (by simp)
  · rw [h] at e
    have : (d, ψ) = (t, φ) := (List.cons.inj e).1
    have : ψ = φ := congrArg Prod.snd this
    subst this
    exact hψ

/-- What the slot of an operation that was taken holds at the walk's end. -/
theorem Seqs.slotEnd (S : Seqs P ops M w0 cs n A H D) (G : GB ops n cs (A 0).tmps.size) {j : Nat} {o : Oper} {t : Tmp} (hj : j < n) (ho : ops[j]? = some o) (hd : o.dst = some t) {φ : Value → World → Prop} (hφ : (t, φ) ∈ H n) : H (j + 1) = (t, φ) :: H j := by
  obtain ⟨k, ok, hk, hok, hdk, e⟩ := S.mem n (Nat.le_refl _) hφ
  have : k = j := Classical.byContradiction fun hne => (G.slot k j ok o t hk hj hok ho hd).2.2 hne hdk
  subst this
  exact e

theorem wp_of_mild {o : Oper} {a : Act} {w : World} {φ : Value → World → Prop} {R : World → Prop} {K : Act → World → Prop} {Q : Exit → Act → World → Prop}
    (h : mildUpon P w φ R ((execOp a.eval o).run P w)) (hK : ∀ u w', φ u w' → R w' → K (a.put o.dst u) w') : o.wp P a w K Q := by
  unfold Oper.wp
  generalize (execOp a.eval o).run P w = r at *
  cases r with
  | ok x w' =>
    cases x <;> simp only [mildUpon] at h <;> simp only [Oper.upon]
    case value u => exact hK _ _ h.1 h.2
    case skip => exact hK _ _ h.1 h.2
    case enter f args =>
      obtain ⟨e1, hc⟩ := h
      rw [e1]
      refine hc.mono fun e w'' he => ?_
      obtain ⟨u, rfl, h1, h2⟩ := he
      exact hK _ _ h1 h2
  | halt x w' => simp only [mildUpon] at h

theorem RInv.step (S : Seqs P ops M w0 cs n A H D) (G : GB ops n cs (A 0).tmps.size) {L : Array Bool} {a : Act} {w : World} (I : RInv ops M w0 cs n A H D L a w) {j : Nat} (hj : j < n) (hr : j ∈ Region.ready .any ops L)
    {K : Act → World → Prop} {Q : Exit → Act → World → Prop} (hK : ∀ a' w', RInv ops M w0 cs n A H D (L.setIfInBounds j true) a' w' → K a' w') : wpOp P ops Q j K a w := by
  obtain ⟨hun, o, ho, hall⟩ := mem_ready.1 hr
  obtain ⟨hex, hwa⟩ := I.exec S G hj ho hall
  have hf := I.hf S G hj ho hall
  have hH := fun p hp => S.stableH p hp
  unfold wpOp
  simp only [ho]
  rcases S.step j o hj ho with ⟨hw, hA, hH', hD'⟩ | ⟨hw, φ, hst, hA, hD'⟩
  · rw [hwa, hw]
    simp only [Bool.false_eq_true, if_false]
    refine hK _ _ (I.next S G hj ho hun hall (GrowBut.refl _ _) (Or.inl ⟨Below.refl _ _, hD'⟩) (fun t hd => ⟨fun ψ hψ => ?_, fun _ => ?_⟩) hH)
    · have := S.slotEnd G hj ho hd hψ
      rw [hH'] at this
      exact absurd (congrArg List.length this) (by simp)
    · have hlt := (G.slot j j o o t hj hj ho ho hd).1
      rw [hA, hd, getD_put_same _ _ _ (by rw [(S.size j (by omega)).1]; exact hlt)]
  · rw [hwa, hw]
    simp only [if_true]
    refine Or.inl ?_
    have slots : ∀ u w', φ u w' → ∀ t, o.dst = some t → (∀ ψ, (t, ψ) ∈ H n → ψ u w') ∧ ((∀ ψ, (t, ψ) ∉ H n) → (A (j + 1)).tmps.getD t undef = u) := by
      intro u w' hu t hd
      have hlt := (G.slot j j o o t hj hj ho ho hd).1
      rcases hA with ⟨v, rfl, hA, hH'⟩ | ⟨d, hd', hA, hH'⟩
      · refine ⟨fun ψ hψ => ?_, fun _ => ?_⟩
        · have := S.slotEnd G hj ho hd hψ
          rw [hH'] at this
          exact absurd (congrArg List.length this) (by simp)
        · rw [hA, hd, getD_put_same _ _ _ (by rw [(S.size j (by omega)).1]; exact hlt)]
          exact hu.symm
      · refine ⟨fun ψ hψ => ?_, fun hno => ?_⟩
        · have e := S.slotEnd G hj ho hd hψ
          rw [hH'] at e
          have : φ = ψ := congrArg Prod.snd (List.cons.inj e).1
          rw [← this]; exact hu
        · have : d = t := Option.some.inj (hd'.symm.trans hd)
          subst this
          exact absurd (S.sub n (k := j + 1) (by omega) (Nat.le_refl _) (by rw [hH']; simp)) (hno φ)
    rcases hD' with ⟨hD', _, hm⟩ | ⟨_, hc, hm⟩
    · have hm' := hm _ w I.grow hf
      unfold mildAt at hm'
      rw [← hex] at hm'
      exact wp_of_mild hm' fun u w' hu hb => hK _ _ (I.next S G hj ho hun hall (GrowBut.of_below hb) (Or.inl ⟨hb, hD'⟩) (slots u w' hu) hH)
    · have hjc : j ∈ cs := List.contains_iff_mem.1 hc
      have hDj : D j w := by
        refine I.chain j (by omega) ?_ ?_
        · intro i hi hij
          obtain ⟨k, hk, h1, h2, hw'⟩ := G.chain j i hjc hi hij
          have hLk := waits_listed ho hall hw'
          by_cases hik : i = k
          · rw [hik]; exact hLk
          · exact I.cut G (k + 1) (fun _ _ _ _ _ _ => trivial) k (by omega) hk hLk i hi (by omega)
        · intro i hi hij
          by_cases hij' : i = j
          · rw [hij']; exact getD_both hun
          · cases hb : L.getD i false
            · rfl
            · have := I.cut G (i + 1) (fun _ _ _ _ _ _ => trivial) i (by omega) hi hb j hjc (by omega)
              rw [getD_both hun] at this; cases this
      have hm' := hm _ w I.grow hDj hf
      unfold mildAt at hm'
      rw [← hex] at hm'
      exact wp_of_mild hm' fun u w' hu hb => hK _ _ (I.next S G hj ho hun hall hb.1 (Or.inr ⟨hjc, hb.2⟩) (slots u w' hu) hH)

/-- All that the walk asked is listed: the act is the walk's last one, filled with something. -/
theorem RInv.fin (S : Seqs P ops M w0 cs n A H D) (G : GB ops n cs (A 0).tmps.size) {L : Array Bool} {a : Act} {w : World} (I : RInv ops M w0 cs n A H D L a w) (hL : ∀ k, k < n → L.getD k false = true)
    (hcs : ∀ i ∈ cs, i < n) :
    GrowBut M w0 w ∧ D n w ∧ (∀ p ∈ H n, p.2 (a.tmps.getD p.1 undef) w) ∧ a = fill (H n) (fun t => a.tmps.getD t undef) (A n) := by
  refine ⟨I.grow, I.chain n (Nat.le_refl _) (fun i _ hi => hL i hi) (fun i hi h => by have := hcs i hi; omega), ?_, ?_⟩
  · intro p hp
    obtain ⟨t, φ⟩ := p
    obtain ⟨k, o, hk, ho, hd, _⟩ := S.mem n (Nat.le_refl _) hp
    exact (I.hit k o t hk ho (hL k hk) hd).1 φ hp
  · have hsz := (S.size n (Nat.le_refl _)).1
    have hd := (S.size n (Nat.le_refl _)).2
    have ht : a.tmps = (fill (H n) (fun t => a.tmps.getD t undef) (A n)).tmps := by
      refine Array.ext_getElem? fun t => same_get (by rw [size_fill, hsz, I.asize]) ?_
      by_cases hin : ∃ φ, (t, φ) ∈ H n
      · obtain ⟨φ, hφ⟩ := hin
        obtain ⟨k, ok, hk, hok, hdk, _⟩ := S.mem n (Nat.le_refl _) hφ
        exact (getD_fill_in (fun t => a.tmps.getD t undef) (A n) hφ (by rw [hsz]; exact (G.slot k k ok ok t hk hk hok hok hdk).1)).symm
      · have hout : ∀ φ, (t, φ) ∉ H n := fun φ h => hin ⟨φ, h⟩
        rw [getD_fill_out _ _ hout]
        by_cases hk : ∃ k ok, k < n ∧ ops[k]? = some ok ∧ ok.dst = some t
        · obtain ⟨k, ok, hkn, hok, hdk⟩ := hk
          exact (I.hit k ok t hkn hok (hL k hkn) hdk).2 hout
        · have hno : ∀ (k : Nat) (ok : Oper), k < n → ops[k]? = some ok → ok.dst ≠ some t := fun k ok h1 h2 h3 => hk ⟨k, ok, h1, h2, h3⟩
          rw [I.miss t (fun k ok h1 h2 _ => hno k ok h1 h2)]
          exact (S.keep n (Nat.zero_le _) (Nat.le_refl _) fun i oi _ hi' hoi => hno i oi hi' hoi).symm
    have hdf : a.defers = (fill (H n) (fun t => a.tmps.getD t undef) (A n)).defers := by rw [defers_fill, hd, I.defers]
    obtain ⟨x, y⟩ := a
    generalize fill (H n) (fun t => (Act.mk x y).tmps.getD t undef) (A n) = b at *
    obtain ⟨x', y'⟩ := b
    simp only at ht hdf
    rw [ht, hdf]
end


theorem wpAny_of_inv {M : Nat → Prop} {w0 : World} {cs : List Nat} {n : Nat} {A : Nat → Act} {H : Nat → List (Tmp × (Value → World → Prop))} {D : Nat → World → Prop} {Q : Exit → Act → World → Prop}
    (S : Seqs P ops M w0 cs n A H D) (G : GB ops n cs (A 0).tmps.size) (hcs : ∀ i ∈ cs, i < n)
    (hq : ∀ xs w, GrowBut M w0 w → D n w → (∀ p ∈ H n, p.2 (xs p.1) w) → wpList P ops Q (ops.toList.drop n) (fill (H n) xs (A n)) w) :
    ∀ (m : Nat) (L : Array Bool) (a : Act) (w : World), RInv ops M w0 cs n A H D L a w → unl L n = m → wpAny P .any ops Q (m + (ops.size - n)) L a w := by
  -- where all that the walk asked is listed, the tail is left
  have last : ∀ (L : Array Bool) (a : Act) (w : World), RInv ops M w0 cs n A H D L a w → (∀ k, k < n → L.getD k true = true) →
      wpList P ops Q (ops.toList.drop n) a w := by
    intro L a w I hL
    have hL' : ∀ k, k < n → L.getD k false = true := fun k hk => by
      cases hb : L.getD k false
      · have hlt : k < L.size := by rw [I.size]; have := G.le; omega
        have := getD_in hlt hb
        rw [hL k hk] at this; cases this
      · rfl
    obtain ⟨h1, h2, h3, h4⟩ := I.fin S G hL' hcs
    rw [h4]
    exact hq _ w h1 h2 h3
  have least : ∀ (L : Array Bool) (a : Act) (w : World), RInv ops M w0 cs n A H D L a w → ∀ k, k < ops.size → L.getD k true = false → ∃ j, j ∈ Region.ready .any ops L := by
    intro L a w I k
    induction k using Nat.strongRecOn with
    | ind k ih =>
      intro hk hun
      by_cases h : ∀ e ∈ (ops[k]'hk).after, Region.binds .any e = true → L.getD e.on false = true
      · exact ⟨k, mem_ready.2 ⟨hun, ops[k], by simp [hk], h⟩⟩
      · have : ∃ e, e ∈ (ops[k]'hk).after ∧ Region.binds .any e = true ∧ L.getD e.on false = false := by
          refine Classical.byContradiction fun hn => h fun e he hb => ?_
          cases hb' : L.getD e.on false
          · exact absurd ⟨e, he, hb, hb'⟩ hn
          · rfl
        obtain ⟨e, he, hb, hf⟩ := this
        have hlo := G.low k ops[k] (by simp [hk]) e he hb
        exact ih e.on hlo (by omega) (getD_in (by rw [I.size]; omega) hf)
  intro m
  induction m with
  | zero =>
    intro L a w I hu
    have hall := unl_zero hu
    have hLe : L = Array.replicate n true ++ Array.replicate (ops.size - n) false := by
      have hle := G.le
      refine Array.ext (by rw [I.size]; simp; omega) fun i h1 h2 => ?_
      rw [Array.getElem_append]
      rcases Nat.lt_or_ge i n with h | h
      · have h3 := hall i h
        rw [dif_pos (by simpa using h)]
        simp [h1] at h3
        simpa using h3
      · have h3 := I.tail i h
        rw [dif_neg (by simpa using h)]
        simp [h1] at h3
        simpa using h3
    have hl := last L a w I hall
    have := wpAny_of_seq (md := .any) (ops := ops) (P := P) (Q' := Q) (ops.toList.drop n) n L a w (fun j => by simp) (by rw [List.length_drop, Array.length_toList, hLe]; exact G.seq) hl
    rw [List.length_drop, Array.length_toList] at this
    rw [Nat.zero_add]
    exact this
  | succ m ih =>
    intro L a w I hu
    -- something of the front is not listed
    have hsome : ∃ k, k < n ∧ L.getD k true = false := by
      refine Classical.byContradiction fun hno => ?_
      have : ∀ q, q ≤ n → unl L q = 0 := by
        intro q
        induction q with
        | zero => intro _; rfl
        | succ q ih =>
          intro hm
          rw [unl, ih (by omega)]
          cases hb : L.getD q true
          · exact absurd ⟨q, by omega, hb⟩ hno
          · simp
      rw [this _ (Nat.le_refl _)] at hu; omega
    obtain ⟨k, hk, hun⟩ := hsome
    have hle := G.le
    rw [Nat.succ_add]
    refine ⟨fun hnr => ?_, fun j hj => ?_⟩
    · obtain ⟨j, hj⟩ := least L a w I k (by omega) hun
      rw [hnr] at hj; cases hj
    · have hjn : j < n := by
        rcases Nat.lt_or_ge j n with h | h
        · exact h
        · obtain ⟨_, o, ho, _⟩ := mem_ready.1 hj
          have hjs : j < ops.size := (Array.getElem?_eq_some_iff.1 ho).1
          obtain ⟨h1, h2⟩ := G.sink (by omega)
          exact absurd hj (tail_waits h1 h2 (by omega) ⟨I.size, I.closed, fun t ht hts => getD_in (by rw [I.size]; exact hts) (I.tail t ht)⟩ _ k rfl hk hun j h)
      have hun' := (mem_ready.1 hj).1
      have hu' : unl (L.setIfInBounds j true) n = m := by have := unl_set L j hun' n hjn; omega
      exact I.step S G hjn hj fun a' w' I' => ih _ a' w' I' hu'

/-- **ONE WALK OF THE LEXICAL ORDER SERVES EVERY ORDER** of a region whose operations make new memory alone, but for the chain 'cs', which may turn the blocks of M. The last operations may be left over (all but the first 'n'), if they wait for all and for one another: they are walked plainly. -/
theorem wp_region_grow {id : Nat} {Q : Exit → Act → World → Prop} {a : Act} {w : World} {l : List Oper} (n : Nat) (cs : List Nat) (M : Nat → Prop) (C : World → Prop) (hm : P.follows .mixedOrders = true)
    (hB : growB l.toArray n cs a.tmps.size = true) (hcs : (cs.all fun i => decide (i < n)) = true) (hC : ∀ w w', Below w.heap.size w w' → C w → C w') (hC0 : C w)
    (h : wpH P l.toArray M w cs (fun a' hs C' => ∀ xs w', GrowBut M w w' → C' w' → (∀ p ∈ hs, p.2 (xs p.1) w') → wpList P l.toArray Q (l.drop n) (fill hs xs a') w') (l.take n) 0 a [] C) :
    (Code.region id l.toArray true).wp P Q a w := by
  have G := growB_spec hB
  have hcs' : ∀ i ∈ cs, i < n := fun i hi => by have := List.all_eq_true.1 hcs i hi; simpa using this
  refine wp_region_any hm ?_
  obtain ⟨A, H, D, hA, hH, hD, hall, hq⟩ := wpH_seq _ _ _ _ _ h
  have hlen : (l.take n).length = n := by have := G.le; simp at this ⊢; omega
  rw [hlen] at hq
  simp only [Nat.zero_add] at hq hall
  subst hA
  have S : Seqs P l.toArray M w cs n A H D := by
    refine ⟨hH, fun j o hj ho => ?_, fun j hj => ?_, by rw [hD]; exact hC⟩
    · refine hall j o ?_
      rw [List.getElem?_take, if_pos hj]
      simpa using ho
    · have : j < l.length := by have := G.le; simp at this; omega
      exact ⟨l[j], by simp [this]⟩
  have hmain := wpAny_of_inv S G hcs' (fun xs w' h1 h2 h3 => by simpa using hq xs w' h1 h2 h3) n (Array.replicate l.toArray.size false) (A 0) { w with drawn := w.drawn + 1 } ?_ ?_
  · have : n + (l.toArray.size - n) = l.toArray.size := by have := G.le; omega
    rwa [this] at hmain
  · refine ⟨by simp, ?_, ⟨rfl, rfl, rfl, Nat.le_refl _, fun _ _ _ => rfl⟩, ?_, ?_, ?_, rfl, rfl, fun t _ => getD_replicate_false _ _⟩
    · intro j oj _ hL; rw [getD_replicate_false] at hL; cases hL
    · intro k hk h1 _
      have : D k = D 0 := S.sameD k (Nat.zero_le _) hk fun i hi _ hik => by
        have := h1 i hi hik
        rw [getD_replicate_false] at this; cases this
      rw [this, hD]
      exact hC w _ ⟨rfl, rfl, rfl, Nat.le_refl _, fun _ _ => rfl⟩ hC0
    · intro k ok t _ _ hL; rw [getD_replicate_false] at hL; cases hL
    · intro t _; rfl
  · have : ∀ m, m ≤ l.toArray.size → unl (Array.replicate l.toArray.size false) m = m := by
      intro m
      induction m with
      | zero => intro _; rfl
      | succ m ih =>
        intro hm
        rw [unl, ih (by omega)]
        have : (Array.replicate l.toArray.size false).getD m true = false := by
          have : m < l.toArray.size := by omega
          simp at this
          simp [this]
        rw [if_pos this]
    exact this _ G.le

end
end Go.Proofs.Ytiphhjipgjpepaa
