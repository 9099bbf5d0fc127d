/- Tags; frames in plain words. -/
import Derived.Test.YtiphhjipgjpepaaFrUpd2
set_option linter.unusedVariables false
set_option linter.unusedSimpArgs false
namespace Go.Proofs.Ytiphhjipgjpepaa
open Go.RowKit

def U64 (x : Int) : Prop := 0 ≤ x ∧ x < 18446744073709551616
def I64 (x : Int) : Prop := -9223372036854775808 ≤ x ∧ x ≤ 9223372036854775807
/-- May a tag be? Is it none? -/
def tagOk (b t : Int) : Bool := decide (b = 0 ↔ t = 0)
def noneT (b t : Int) : Bool := decide (b = 0 ∧ t = 0)

def tagW (w : World) (b t : Int) : World := w.alloc (.cells #[.int .u64 b, .int .u64 t] 25)

theorem maytag_any (b t : Int) (w : World) : Calls Try.prog 18 #[.agg #[.int .u64 b, .int .u64 t]] w fun e w' => e = .returned (.bool (tagOk b t)) ∧ w' = w.alloc (.cells #[.int .u64 b, .int .u64 t] 25) := by
  by_cases hb : b = 0
  · subst hb
    by_cases ht : t = 0
    · subst ht
      go_enter Try.func18, Try.ntmps18
      go_wp2_with fail
      go_ret
      exact ⟨rfl, rfl⟩
    · have h1 : (t == 0) = false := by simpa using ht
      have HR : Hid (tagOk 0 t = false) := by show _ = _; unfold tagOk; simp [ht]
      clear ht
      go_enter Try.func18, Try.ntmps18
      go_wp2_with fail
      go_ret
      exact ⟨ret_bool' (by have := HR.out; first | exact this.symm | (rw [this]; simp)), rfl⟩
  · have h0 : (b == 0) = false := by simpa using hb
    by_cases ht : t = 0
    · subst ht
      have HR : Hid (tagOk b 0 = false) := by show _ = _; unfold tagOk; simp [hb]
      clear hb
      go_enter Try.func18, Try.ntmps18
      go_wp2_with fail
      go_ret
      exact ⟨ret_bool' (by have := HR.out; first | exact this.symm | (rw [this]; simp)), rfl⟩
    · have h1 : (t == 0) = false := by simpa using ht
      have HR : Hid (tagOk b t = true) := by show _ = _; unfold tagOk; simp [hb, ht]
      clear hb ht
      go_enter Try.func18, Try.ntmps18
      go_wp2_with fail
      go_ret
      exact ⟨ret_bool' (by have := HR.out; first | exact this.symm | (rw [this]; simp)), rfl⟩

theorem none_any (b t : Int) (w : World) : Calls Try.prog 20 #[.agg #[.int .u64 b, .int .u64 t]] w fun e w' => e = .returned (.bool (noneT b t)) ∧ w' = w.alloc (.cells #[.int .u64 b, .int .u64 t] 25) := by
  by_cases hb : b = 0
  · subst hb
    by_cases ht : t = 0
    · subst ht
      go_enter Try.func20, Try.ntmps20
      go_wp2_with fail
      go_ret
      exact ⟨rfl, rfl⟩
    · have h1 : (t == 0) = false := by simpa using ht
      have HR : Hid (noneT 0 t = false) := by show _ = _; unfold noneT; simp [ht]
      clear ht
      go_enter Try.func20, Try.ntmps20
      go_wp2_with fail
      go_ret
      exact ⟨ret_bool' (by have := HR.out; first | exact this.symm | (rw [this]; simp)), rfl⟩
  · have h0 : (b == 0) = false := by simpa using hb
    have HR : Hid (noneT b t = false) := by show _ = _; unfold noneT; simp [hb]
    clear hb
    go_enter Try.func20, Try.ntmps20
    go_wp2_with fail
    go_ret
    exact ⟨ret_bool' (by have := HR.out; first | exact this.symm | (rw [this]; simp)), rfl⟩

theorem rmaytag_any (b t : Int) (w : World) (hb0 : 0 ≤ b) (ht0 : 0 ≤ t) : Calls Try.prog 26 #[.agg #[.int .u64 b, .int .u64 t]] w fun e w' => e = .returned (.bool (tagOk b t)) ∧ w' = (w.alloc (.cells #[.int .u64 b, .int .u64 t] 25)).alloc (.cells #[.int .u64 b, .int .u64 t] 25) := by
  have HN := Lib.hid (fun x => none_any b t x)
  cases hn : noneT b t
  · rw [hn] at HN
    by_cases hb : b = 0
    · subst hb
      have ht : t ≠ 0 := by rintro rfl; exact absurd hn (by decide)
      have HR : Hid (tagOk 0 t = false) := by show _ = _; unfold tagOk; simp [ht]
      clear ht hn
      go_enter Try.func26, Try.ntmps26
      go_wp2_with fail
      refine (HN.out _).mono ?_
      rintro e w' ⟨rfl, rfl⟩
      go_wp2_with fail
      go_ret
      exact ⟨ret_bool' (by have := HR.out; first | exact this.symm | (rw [this]; simp)), rfl⟩
    · have hb1 : 0 < b := by omega
      by_cases ht : t = 0
      · subst ht
        have HR : Hid (tagOk b 0 = false) := by show _ = _; unfold tagOk; simp [hb]
        clear hb hn
        go_enter Try.func26, Try.ntmps26
        go_wp2_with fail
        refine (HN.out _).mono ?_
        rintro e w' ⟨rfl, rfl⟩
        go_wp2_with fail
        go_ret
        exact ⟨ret_bool' (by have := HR.out; first | exact this.symm | (rw [this]; simp)), rfl⟩
      · have ht1 : 0 < t := by omega
        have HR : Hid (tagOk b t = true) := by show _ = _; unfold tagOk; simp [hb, ht]
        clear hb ht hn
        go_enter Try.func26, Try.ntmps26
        go_wp2_with fail
        refine (HN.out _).mono ?_
        rintro e w' ⟨rfl, rfl⟩
        go_wp2_with fail
        go_ret
        exact ⟨ret_bool' (by have := HR.out; first | exact this.symm | (rw [this]; simp; omega) | (rw [this]; simp)), rfl⟩
  · rw [hn] at HN
    have hq : b = 0 ∧ t = 0 := of_decide_eq_true hn
    obtain ⟨rfl, rfl⟩ := hq
    clear hn
    go_enter Try.func26, Try.ntmps26
    go_wp2_with fail
    refine (HN.out _).mono ?_
    rintro e w' ⟨rfl, rfl⟩
    go_wp2_with fail
    go_ret
    exact ⟨rfl, rfl⟩

/-- A frame in plain words; its bytes as a value, too. -/
structure Fr where
  kind : Int
  node : Int
  mb : Int
  mt : Int
  tb : Int
  tt : Int
  sq : Int
  ak : Int
  v : Value
  zs : List Int

def frCells (kind node mb mt tb tt sq ak : Int) (v : Value) : Array Value := #[.int .i64 kind, .int .i64 node, .int .u64 mb, .int .u64 mt, .int .u64 tb, .int .u64 tt, .int .u64 sq, .int .u64 ak, v]
def Fr.cells (f : Fr) : Array Value := frCells f.kind f.node f.mb f.mt f.tb f.tt f.sq f.ak f.v
def Fr.val (f : Fr) : Value := .agg f.cells

structure FrOk (w : World) (f : Fr) : Prop where
  kind : I64 f.kind
  node : I64 f.node
  mb : U64 f.mb
  mt : U64 f.mt
  tb : U64 f.tb
  tt : U64 f.tt
  sq : U64 f.sq
  ak : U64 f.ak
  body : BytesV w f.v f.zs
theorem FrOk.mono {w w' : World} {f : Fr} (h : FrOk w f) (hg : Grow w w') : FrOk w' f := ⟨h.kind, h.node, h.mb, h.mt, h.tb, h.tt, h.sq, h.ak, h.body.mono hg⟩

def MayF (f : Fr) : Prop := (1 ≤ f.node ∧ f.node ≤ 16) ∧ (tagOk f.mb f.mt = true ∧ tagOk f.tb f.tt = true ∧ noneT f.mb f.mt = false) ∧
  ((f.kind = 1 ∧ f.sq = 0 ∧ f.ak = 0 ∧ f.zs.length = 0) ∨ (f.kind = 2 ∧ noneT f.tb f.tt = false ∧ (isU f.zs = true ∧ f.sq ≠ 0 ∨ f.zs.length = 0 ∧ f.sq = 0)) ∨ (f.kind = 3 ∧ noneT f.tb f.tt = false ∧ f.sq = 0 ∧ f.ak = 0 ∧ 1 ≤ f.zs.length ∧ f.zs.length ≤ 2048))
instance (f : Fr) : Decidable (MayF f) := by unfold MayF; infer_instance
def mayF (f : Fr) : Bool := decide (MayF f)

/-- Cells of a frame's block. -/
theorem blkF {w : World} {B : Nat} {T : TypeId} {a b c d e f g h i : Value} (hh : w.heap[B]? = some (.cells #[a, b, c, d, e, f, g, h, i] T (0, 0))) :
    (w.cell? ⟨B, 0, none⟩ = some a ∧ w.cell? ⟨B, 1, none⟩ = some b ∧ w.cell? ⟨B, 2, none⟩ = some c ∧ w.cell? ⟨B, 3, none⟩ = some d ∧ w.cell? ⟨B, 4, none⟩ = some e) ∧ w.cell? ⟨B, 5, none⟩ = some f ∧ w.cell? ⟨B, 6, none⟩ = some g ∧ w.cell? ⟨B, 7, none⟩ = some h ∧ w.cell? ⟨B, 8, none⟩ = some i := by
  refine ⟨⟨?_, ?_, ?_, ?_, ?_⟩, ?_, ?_, ?_, ?_⟩ <;> simp [World.cell?, hh]
theorem blk2 {w : World} {B : Nat} {T : TypeId} {a b : Value} (h : w.heap[B]? = some (.cells #[a, b] T (0, 0))) : w.cell? ⟨B, 0, none⟩ = some a ∧ w.cell? ⟨B, 1, none⟩ = some b := by
  refine ⟨?_, ?_⟩ <;> simp [World.cell?, h]
theorem isU_len {zs : List Int} (h : isU zs = true) : zs.length = 6 := by
  unfold isU at h
  simp only [Bool.and_eq_true] at h
  exact of_decide_eq_true h.1
end Go.Proofs.Ytiphhjipgjpepaa
