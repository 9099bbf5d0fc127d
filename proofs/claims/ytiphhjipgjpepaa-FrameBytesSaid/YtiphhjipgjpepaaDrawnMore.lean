/- Steps of the rule for drawn regions at operations that look at no hidden slot: the hidden slots are not filled. -/
import Derived.Test.YtiphhjipgjpepaaDrawnUse
set_option linter.unusedVariables false
namespace Go.Proofs.Ytiphhjipgjpepaa
open Go.RowKit

section
variable {P : Program} {ops : Array Oper} {M : Nat → Prop} {w0 : World} {cs : List Nat} {Qf : Act → List (Tmp × (Value → World → Prop)) → (World → Prop) → Prop}
  {o : Oper} {rest : List Oper} {k : Nat} {a : Act} {hs : List (Tmp × (Value → World → Prop))} {C : World → Prop}

theorem mildAt_out (xs : Tmp → Value) (h : (hs.all fun p => !(o.looksAt ops).contains p.1) = true) (hs' : ∀ cs b, o.op ≠ .select cs b) {w : World} {φ : Value → World → Prop} {R : World → Prop} (hm : mildAt P o a w φ R) : mildAt P o (fill hs xs a) w φ R := by
  unfold mildAt at hm ⊢
  rw [(fill_out xs h hs').1]
  exact hm

theorem wpH_det' (v : Value) (hsel : ∀ cs b, o.op ≠ .select cs b) (hc : cs.contains k = false) (hl : (hs.all fun p => !(o.looksAt ops).contains p.1) = true) (hw : Region.wanted o (yielded ops a.tmps) = true)
    (h : ∀ w, GrowBut M w0 w → mildAt P o a w (fun u _ => u = v) (fun w' => Below w.heap.size w w')) (hk : wpH P ops M w0 cs Qf rest (k + 1) (a.put o.dst v) hs C) :
    wpH P ops M w0 cs Qf (o :: rest) k a hs C :=
  wpH_det v hc (fun xs => by rw [(fill_out xs hl hsel).2]; exact hw) (fun xs w hg _ => mildAt_out xs hl hsel (h w hg)) hk

theorem wpH_hid' {d : Tmp} (φ : Value → World → Prop) (hsel : ∀ cs b, o.op ≠ .select cs b) (hd : o.dst = some d) (hc : cs.contains k = false) (hst : ∀ u w w', GrowBut M w w' → φ u w → φ u w') (hl : (hs.all fun p => !(o.looksAt ops).contains p.1) = true)
    (hw : Region.wanted o (yielded ops a.tmps) = true)
    (h : ∀ w, GrowBut M w0 w → mildAt P o a w φ (fun w' => Below w.heap.size w w')) (hk : wpH P ops M w0 cs Qf rest (k + 1) (a.put o.dst undef) ((d, φ) :: hs) C) :
    wpH P ops M w0 cs Qf (o :: rest) k a hs C :=
  wpH_hid φ hd hc hst (fun xs => by rw [(fill_out xs hl hsel).2]; exact hw) (fun xs w hg _ => mildAt_out xs hl hsel (h w hg)) hk
end
end Go.Proofs.Ytiphhjipgjpepaa
