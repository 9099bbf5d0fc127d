/- The chapter's rows; two adjacencies. -/
import Derived.Test.YtnpmdiekcdjfaaaAdDo
set_option linter.unusedVariables false
set_option linter.unusedSimpArgs false
namespace Go.Proofs.Ytnpmdiekcdjfaaa
open Go.RowKit

/-- Two adjacencies; elder memory stands. -/
structure Duo (w0 w : World) (P Q : Nat) (a b : Ad) : Prop where
  a : AdV w P a
  b : AdV w Q b
  below : Below w0.heap.size w0 w
  hP : w0.heap.size ≤ P
  hQ : w0.heap.size ≤ Q
  ne : P ≠ Q

section
variable {w0 w w' : World} {P Q : Nat} {a b a' b' : Ad}
theorem Duo.turnA (h : Duo w0 w P Q a b) (hs : AdV w' P a') (hw : GrowBut (One P) w w') : Duo w0 w' P Q a' b :=
  ⟨hs, h.b.stay hw (fun e => h.ne e.symm), below_but h.below hw (fun k hk => by unfold One at hk; rw [hk]; exact h.hP), h.hP, h.hQ, h.ne⟩
theorem Duo.turnB (h : Duo w0 w P Q a b) (hs : AdV w' Q b') (hw : GrowBut (One Q) w w') : Duo w0 w' P Q a b' :=
  ⟨h.a.stay hw (fun e => h.ne e), hs, below_but h.below hw (fun k hk => by unfold One at hk; rw [hk]; exact h.hQ), h.hP, h.hQ, h.ne⟩
theorem Duo.grow (h : Duo w0 w P Q a b) (hw : Grow w w') : Duo w0 w' P Q a b :=
  ⟨h.a.stay (M := NoBlock) (GrowBut.of_below hw) (fun h => h), h.b.stay (M := NoBlock) (GrowBut.of_below hw) (fun h => h), h.below.trans (Below.mono hw h.below.size), h.hP, h.hQ, h.ne⟩
theorem Duo.alloc (h : Duo w0 w P Q a b) (o : Obj) : Duo w0 (w.alloc o) P Q a b := h.grow ((Grow.refl w).alloc o)
theorem Duo.other {B : Nat} (h : Duo w0 w P Q a b) (hw : GrowBut (One B) w w') (h1 : B ≠ P) (h2 : B ≠ Q) (h3 : w0.heap.size ≤ B) : Duo w0 w' P Q a b :=
  ⟨h.a.stay hw (fun e => h1 e.symm), h.b.stay hw (fun e => h2 e.symm), below_but h.below hw (fun k hk => by unfold One at hk; omega), h.hP, h.hQ, h.ne⟩
theorem Duo.of_new {w1 : World} (h1 : AdV w1 P a) (g1 : Grow w w1) (hP : w.heap.size ≤ P) (h2 : AdV w' Q b) (g2 : Grow w1 w') (hQ : w1.heap.size ≤ Q) : Duo w w' P Q a b :=
  ⟨h1.stay (M := NoBlock) (GrowBut.of_below g2) (fun h => h), h2, Grow.trans g1 g2, hP, Nat.le_trans g1.size hQ, by have := h1.ltP; omega⟩
end

theorem Ad.say_ok {a : Ad} (h : AdOk a) : HlOk a.say := ⟨by have := h.node; show -9223372036854775808 ≤ a.node ∧ a.node ≤ 9223372036854775807; omega, h.mb, h.mt, h.tb, h.tt⟩
theorem Ad.say_good {a : Ad} (h : AdOk a) (h1 : a.mb ≠ 0) (h2 : a.mt ≠ 0) : ¬ a.say.bad := by
  have := h.node
  unfold Hl.bad Ad.say
  dsimp only
  omega

def ka0 : Ad := Ad.fresh 1 5 3 9
def kb0 : Ad := Ad.fresh 2 7 3 9
def kb1 : Ad := ⟨2, 3, 9, 1, 7, 1, 5, 1, 1, 0, 0⟩
def ka1 : Ad := ⟨1, 3, 9, 2, 5, 1, 7, 1, 2, 0, 0⟩
def kb2 : Ad := ⟨2, 3, 9, 2, 7, 1, 5, 1, 1, 0, 0⟩
theorem k_one : kb0.hear1 ka0.say = (kb1, 0) := rfl
theorem k_two : ka0.hear1 kb1.say = (ka1, 1) := rfl
theorem k_three : kb1.hear1 ka1.say = (kb2, 1) := rfl
theorem k_a : acceptsB ka1 2 5 1 7 1 = true := by decide
theorem k_b : acceptsB kb2 1 7 1 5 1 = true := by decide

theorem hello_block {M : Nat → Prop} {w1 w2 : World} {B : Nat} {x : Hl} (h1 : w1.heap[B]? = some (.cells #[.int .i64 x.node, .int .u64 x.mb, .int .u64 x.mt, .int .u64 x.hb, .int .u64 x.ht] 35 (0, 0))) (hg : GrowBut M w1 w2) (hm : ¬ M B) :
    w2.heap[B]? = some (.cells #[.int .i64 x.node, .int .u64 x.mb, .int .u64 x.mt, .int .u64 x.hb, .int .u64 x.ht] 35 (0, 0)) := (hg.block B (lt_of_block h1) hm).trans h1

set_option maxRecDepth 20000 in
set_option maxHeartbeats 2000000 in
theorem known_any (w : World) : Calls Try.prog 7 #[] w fun e w' => e = .returned (.bool true) ∧ Grow w w' := by
  have HN1 : Hid (∀ x, Calls Try.prog 8 #[.int .i64 1, .int .u64 5, .int .i64 3, .int .i64 9] x (SomeAd x ka0)) := fun x => new_any 1 5 3 9 x (by omega) (by omega) (by omega) (by omega)
  have HN2 : Hid (∀ x, Calls Try.prog 8 #[.int .i64 2, .int .u64 7, .int .i64 3, .int .i64 9] x (SomeAd x kb0)) := fun x => new_any 2 7 3 9 x (by omega) (by omega) (by omega) (by omega)
  go_enter Try.func7, Try.ntmps7
  go_wp2_with fail
  refine (HN1.out _).mono ?_
  rintro e w1 ⟨P, rfl, h1, g1, hP⟩
  have H1 : Hid (AdV w1 P ka0 ∧ Grow w w1 ∧ w.heap.size ≤ P) := ⟨h1, g1, hP⟩
  clear h1 g1 hP
  go_wp2_with fail
  refine (HN2.out _).mono ?_
  rintro e w2 ⟨Q, rfl, h2, g2, hQ⟩
  have HD := Lib.hid (Duo.of_new H1.out.1 H1.out.2.1 H1.out.2.2 h2 g2 hQ)
  clear h2 g2 hQ H1 HN1 HN2
  go_wp2_with fail
  refine (say_any HD.out.a).mono ?_
  rintro e w3 ⟨rfl, hg⟩
  have HD3 := Lib.hid (HD.out.grow hg)
  clear hg HD
  simp only [Ad.say, Hl.val]
  go_wp2_with fail
  refine (hear_ok (HD3.out.alloc _).b ka0.say (Ad.say_ok HD3.out.a.ok) (Ad.say_good HD3.out.a.ok (by decide) (by decide)) (by decide)).mono ?_
  rw [k_one]
  rintro e w4 ⟨rfl, hs, hg⟩
  have HX : Hid (w4.heap[w3.heap.size]? = some (.cells #[.int .i64 1, .int .u64 5, .int .u64 1, .int .u64 0, .int .u64 0] 35 (0, 0))) :=
    hello_block (x := ⟨1, 5, 1, 0, 0⟩) (heap_alloc_new w3 _) hg (fun e => by have := HD3.out.b.ltP; unfold One at e; omega)
  have HXP : Hid (w3.heap.size ≠ P ∧ w3.heap.size ≠ Q) := ⟨by have := HD3.out.a.ltP; omega, by have := HD3.out.b.ltP; omega⟩
  have HXS : Hid (w.heap.size ≤ w3.heap.size) := HD3.out.below.size
  have HD4 := Lib.hid ((HD3.out.alloc _).turnB hs hg)
  clear hs hg HD3
  go_wp2_with fail
  refine (view_any HD4.out.b).mono ?_
  rintro e w5 ⟨he, hg⟩
  have he' : e = .returned (.agg #[.int .i64 1, .int .u64 7, .int .u64 1, .int .u64 5, .int .u64 1, .int .i64 1]) := he
  subst he'
  have HX5 := Lib.hid (hello_block (M := NoBlock) (x := ⟨1, 5, 1, 0, 0⟩) HX.out (GrowBut.of_below hg) (fun h => h))
  have HD5 := Lib.hid (HD4.out.grow hg)
  clear he hg HX HD4
  have hfl : ∀ x : World, (Instr.field 40 (.agg #[.int .i64 1, .int .u64 7, .int .u64 1, .int .u64 5, .int .u64 1, .int .i64 1]) 0).run Try.prog x = .ok (.int .i64 1) x := fun _ => by kernel_rfl
  go_wp2_with fail
  refine (say_any HD5.out.b).mono ?_
  rintro e w6 ⟨he, hg⟩
  have he' : e = .returned (.tuple #[.agg #[.int .i64 2, .int .u64 7, .int .u64 1, .int .u64 5, .int .u64 1], .int .i64 0]) := he
  subst he'
  have HX6 := Lib.hid (hello_block (M := NoBlock) (x := ⟨1, 5, 1, 0, 0⟩) HX5.out (GrowBut.of_below hg) (fun h => h))
  have HD6 := Lib.hid (HD5.out.grow hg)
  clear he hg HX5 HD5
  go_wp2_with fail
  refine (hear_ok (HD6.out.alloc _).a kb1.say (Ad.say_ok HD6.out.b.ok) (Ad.say_good HD6.out.b.ok (by decide) (by decide)) (by decide)).mono ?_
  rw [k_two]
  rintro e w7 ⟨rfl, hs, hg⟩
  have HX7 := Lib.hid (hello_block (x := ⟨1, 5, 1, 0, 0⟩) HX6.out ((grow_alloc (P := P) w6 _).trans hg) (fun e => HXP.out.1 e))
  have HD7 := Lib.hid ((HD6.out.alloc _).turnA hs hg)
  clear hs hg HX6 HD6
  go_wp2_with fail
  refine (say_any HD7.out.a).mono ?_
  rintro e w8 ⟨he, hg⟩
  have he' : e = .returned (.tuple #[.agg #[.int .i64 1, .int .u64 5, .int .u64 1, .int .u64 7, .int .u64 1], .int .i64 0]) := he
  subst he'
  have HX8 := Lib.hid (hello_block (M := NoBlock) (x := ⟨1, 5, 1, 0, 0⟩) HX7.out (GrowBut.of_below hg) (fun h => h))
  have HD8 := Lib.hid (HD7.out.grow hg)
  clear he hg HX7 HD7
  have hx8 := HX8.out
  have d0 : w8.cell? ⟨w3.heap.size, 0, none⟩ = some (.int .i64 1) := by simp [World.cell?, hx8]
  have d1 : w8.cell? ⟨w3.heap.size, 1, none⟩ = some (.int .u64 5) := by simp [World.cell?, hx8]
  have d2 : w8.cell? ⟨w3.heap.size, 2, none⟩ = some (.int .u64 1) := by simp [World.cell?, hx8]
  have d3 : w8.cell? ⟨w3.heap.size, 3, none⟩ = some (.int .u64 0) := by simp [World.cell?, hx8]
  have d4 : w8.cell? ⟨w3.heap.size, 4, none⟩ = some (.int .u64 0) := by simp [World.cell?, hx8]
  have f0 : w8.frozen? ⟨w3.heap.size, 0, none⟩ = false := by simp [World.frozen?, hx8]
  have f1 : w8.frozen? ⟨w3.heap.size, 1, none⟩ = false := by simp [World.frozen?, hx8]
  have f2 : w8.frozen? ⟨w3.heap.size, 2, none⟩ = false := by simp [World.frozen?, hx8]
  have f3 : w8.frozen? ⟨w3.heap.size, 3, none⟩ = false := by simp [World.frozen?, hx8]
  have f4 : w8.frozen? ⟨w3.heap.size, 4, none⟩ = false := by simp [World.frozen?, hx8]
  clear hx8
  go_wp2_with fail
  have hg9 : ∀ v0 v1 v2 v3 v4, GrowBut (One w3.heap.size) w8 (((((w8.setCell ⟨w3.heap.size, 0, none⟩ v0).setCell ⟨w3.heap.size, 1, none⟩ v1).setCell ⟨w3.heap.size, 2, none⟩ v2).setCell ⟨w3.heap.size, 3, none⟩ v3).setCell ⟨w3.heap.size, 4, none⟩ v4) := fun v0 v1 v2 v3 v4 => by
    simp only [but_put]; exact GrowBut.refl _ _
  have HD9 := Lib.hid (fun v0 v1 v2 v3 v4 => HD8.out.other (hg9 v0 v1 v2 v3 v4) HXP.out.1 HXP.out.2 HXS.out)
  refine (hear_ok (HD9.out _ _ _ _ _).b ka1.say (Ad.say_ok HD8.out.a.ok) (Ad.say_good HD8.out.a.ok (by decide) (by decide)) (by decide)).mono ?_
  rw [k_three]
  rintro e w9 ⟨rfl, hs, hg⟩
  have HD10 := Lib.hid ((HD9.out _ _ _ _ _).turnB hs hg)
  clear hs hg hg9 HD9 HD8 HX8 d0 d1 d2 d3 d4 f0 f1 f2 f3 f4
  go_wp2_with fail
  have hac := accepts_any HD10.out.a 2 5 1 7 1
  rw [k_a] at hac
  refine hac.mono ?_
  rintro e w10 ⟨rfl, hg⟩
  have HD11 := Lib.hid (HD10.out.grow hg)
  clear hg hac HD10
  go_wp2_with fail
  have hac := accepts_any HD11.out.b 1 7 1 5 1
  rw [k_b] at hac
  refine hac.mono ?_
  rintro e w11 ⟨rfl, hg⟩
  have HD12 := Lib.hid (HD11.out.grow hg)
  clear hg hac HD11
  go_wp2_with fail
  go_ret
  exact ⟨rfl, HD12.out.below⟩
end Go.Proofs.Ytnpmdiekcdjfaaa
