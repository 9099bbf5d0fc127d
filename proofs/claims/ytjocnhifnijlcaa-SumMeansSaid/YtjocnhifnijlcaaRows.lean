/-
  No cell of these rows narrows 'for every input' (looked for: loops, veiled, ifaces, maps, wideKeys, modest, calm, conditions, laid).
  DERIVED. THE GIVEN ROWS OF THIS SEAT. 6 by the template 'for every input the law returns true; each argument reads behind the call as it read before'; 0 by the template 'total and deterministic' (their statements: YtjocnhifnijlcaaTotals.lean).
  GIVEN WITH THE SEED: the statements are not yours to turn. If you find one false, say at which input.
  Laid BY PROGRAM, IN A SANDBOX (cutbox-rows.mjs): the forced cells as the released guide's own fill.sh prints them over the translation ab1e935204ba0349… (all of the seat's roots in one cut). By AI agents, Wed Nov 11 2026. No macro, syntax, notation, axiom, sorry.
-/
import Derived.Test.YtjocnhifnijlcaaChecked
import GoSem.Claim
import GoSem.ClaimJoined
import GoSem.ClaimMapViews
import Derived.JoinedTies
import Derived.KernelRfl
namespace Go.Proofs.Ytjocnhifnijlcaa
/- THE CELL 'sum', in the pinned program and in every row, IS THE sha256 OF THE DUMP (.gsa) THAT YtjocnhifnijlcaaProg.lean LOADS. Nothing in Lean hashes anything: it is a label: what it is worth is what the hold of that sum in a sandbox is worth. -/
noncomputable def Try.pinned : Pinned := { name := "ytjocnhifnijlcaa", sum := "ab1e935204ba0349258be8e846f1b3f19a818898f4fac9e3568d58b91a23eeee", checked := Try.checked }
namespace Rows
def none {H : Type} : Left H := { results := [], args := [] }

/-- 'guidepostlaw02.SumTotals': WHATEVER THE INPUT: true; the input reads as it did. -/
def sumTotalsSpec : ChangeSpec := { name := "sumTotals", fn := fun _ => fun
  | [d1, d2] => { results := [.lit (.bool true)], args := [d1, d2] }
  | _ => none }
def sumTotalsRow : OpenClaim := { program := "ytjocnhifnijlcaa", sum := "ab1e935204ba0349258be8e846f1b3f19a818898f4fac9e3568d58b91a23eeee", func := "guidepost/guidepostlaw02.SumTotals", spec := "sumTotals", unfollowed := true, recurses := true, apart := false }
def SumTotalsSaid : Prop := sumTotalsRow.holds Try.pinned (OpenSpec.ofChange sumTotalsSpec)

/-- ITS FALSE NEIGHBOUR: 'it returns false'. Refute it at one input. -/
def sumTotalsWrong : ChangeSpec := { name := "sumTotals", fn := fun _ => fun
  | [d1, d2] => { results := [.lit (.bool false)], args := [d1, d2] }
  | _ => none }
def SumTotalsWrongFalsely : Prop := sumTotalsRow.holds Try.pinned (OpenSpec.ofChange sumTotalsWrong)

/-- 'guidepostlaw02.SumRing': WHATEVER THE INPUT: true; the input reads as it did. -/
def sumRingSpec : ChangeSpec := { name := "sumRing", fn := fun _ => fun
  | [d1, d2, d3] => { results := [.lit (.bool true)], args := [d1, d2, d3] }
  | _ => none }
def sumRingRow : OpenClaim := { program := "ytjocnhifnijlcaa", sum := "ab1e935204ba0349258be8e846f1b3f19a818898f4fac9e3568d58b91a23eeee", func := "guidepost/guidepostlaw02.SumRing", spec := "sumRing", unfollowed := true, recurses := true, apart := false }
def SumRingSaid : Prop := sumRingRow.holds Try.pinned (OpenSpec.ofChange sumRingSpec)

/-- ITS FALSE NEIGHBOUR: 'it returns false'. Refute it at one input. -/
def sumRingWrong : ChangeSpec := { name := "sumRing", fn := fun _ => fun
  | [d1, d2, d3] => { results := [.lit (.bool false)], args := [d1, d2, d3] }
  | _ => none }
def SumRingWrongFalsely : Prop := sumRingRow.holds Try.pinned (OpenSpec.ofChange sumRingWrong)

/-- 'guidepostlaw02.SumOrder': WHATEVER THE INPUT: true; the input reads as it did. -/
def sumOrderSpec : ChangeSpec := { name := "sumOrder", fn := fun _ => fun
  | [d1, d2] => { results := [.lit (.bool true)], args := [d1, d2] }
  | _ => none }
def sumOrderRow : OpenClaim := { program := "ytjocnhifnijlcaa", sum := "ab1e935204ba0349258be8e846f1b3f19a818898f4fac9e3568d58b91a23eeee", func := "guidepost/guidepostlaw02.SumOrder", spec := "sumOrder", unfollowed := true, recurses := true, apart := false }
def SumOrderSaid : Prop := sumOrderRow.holds Try.pinned (OpenSpec.ofChange sumOrderSpec)

/-- ITS FALSE NEIGHBOUR: 'it returns false'. Refute it at one input. -/
def sumOrderWrong : ChangeSpec := { name := "sumOrder", fn := fun _ => fun
  | [d1, d2] => { results := [.lit (.bool false)], args := [d1, d2] }
  | _ => none }
def SumOrderWrongFalsely : Prop := sumOrderRow.holds Try.pinned (OpenSpec.ofChange sumOrderWrong)

/-- 'guidepostlaw02.SumParts': WHATEVER THE INPUT: true; the input reads as it did. -/
def sumPartsSpec : ChangeSpec := { name := "sumParts", fn := fun _ => fun
  | [d1, d2] => { results := [.lit (.bool true)], args := [d1, d2] }
  | _ => none }
def sumPartsRow : OpenClaim := { program := "ytjocnhifnijlcaa", sum := "ab1e935204ba0349258be8e846f1b3f19a818898f4fac9e3568d58b91a23eeee", func := "guidepost/guidepostlaw02.SumParts", spec := "sumParts", unfollowed := true, recurses := true, apart := false }
def SumPartsSaid : Prop := sumPartsRow.holds Try.pinned (OpenSpec.ofChange sumPartsSpec)

/-- ITS FALSE NEIGHBOUR: 'it returns false'. Refute it at one input. -/
def sumPartsWrong : ChangeSpec := { name := "sumParts", fn := fun _ => fun
  | [d1, d2] => { results := [.lit (.bool false)], args := [d1, d2] }
  | _ => none }
def SumPartsWrongFalsely : Prop := sumPartsRow.holds Try.pinned (OpenSpec.ofChange sumPartsWrong)

/-- 'guidepostlaw02.SumChanges': WHATEVER THE INPUT: true; the input reads as it did. -/
def sumChangesSpec : ChangeSpec := { name := "sumChanges", fn := fun _ => fun
  | [d1, d2, d3, d4] => { results := [.lit (.bool true)], args := [d1, d2, d3, d4] }
  | _ => none }
def sumChangesRow : OpenClaim := { program := "ytjocnhifnijlcaa", sum := "ab1e935204ba0349258be8e846f1b3f19a818898f4fac9e3568d58b91a23eeee", func := "guidepost/guidepostlaw02.SumChanges", spec := "sumChanges", unfollowed := true, recurses := true, apart := false }
def SumChangesSaid : Prop := sumChangesRow.holds Try.pinned (OpenSpec.ofChange sumChangesSpec)

/-- ITS FALSE NEIGHBOUR: 'it returns false'. Refute it at one input. -/
def sumChangesWrong : ChangeSpec := { name := "sumChanges", fn := fun _ => fun
  | [d1, d2, d3, d4] => { results := [.lit (.bool false)], args := [d1, d2, d3, d4] }
  | _ => none }
def SumChangesWrongFalsely : Prop := sumChangesRow.holds Try.pinned (OpenSpec.ofChange sumChangesWrong)

/-- 'guidepostlaw02.SumMeans': WHATEVER THE INPUT: true; the input reads as it did. -/
def sumMeansSpec : ChangeSpec := { name := "sumMeans", fn := fun _ => fun
  | [d1, d2, d3] => { results := [.lit (.bool true)], args := [d1, d2, d3] }
  | _ => none }
def sumMeansRow : OpenClaim := { program := "ytjocnhifnijlcaa", sum := "ab1e935204ba0349258be8e846f1b3f19a818898f4fac9e3568d58b91a23eeee", func := "guidepost/guidepostlaw02.SumMeans", spec := "sumMeans", unfollowed := true, recurses := true, apart := false }
def SumMeansSaid : Prop := sumMeansRow.holds Try.pinned (OpenSpec.ofChange sumMeansSpec)

/-- ITS FALSE NEIGHBOUR: 'it returns false'. Refute it at one input. -/
def sumMeansWrong : ChangeSpec := { name := "sumMeans", fn := fun _ => fun
  | [d1, d2, d3] => { results := [.lit (.bool false)], args := [d1, d2, d3] }
  | _ => none }
def SumMeansWrongFalsely : Prop := sumMeansRow.holds Try.pinned (OpenSpec.ofChange sumMeansWrong)

/- THE SECOND FORM. 'bulk': how many values and letters a reading holds, each counted each time it is reached (what is shared counts as often as it is met; a slice's spare places count too). A statement '..UptoSaid' is the law's where the arguments, and the package variables that the reading takes, are together of bulk at most 1048576: NARROWER than '..Said'. Prove '..Said' where nothing that the law and all that it calls make is longer than what came in: it says more and counts as full. Else prove '..UptoSaid'. A law counts once. -/
mutual
def uptoBulk {H : Type} : DataW H → Nat
  | .lit (.string bytes) => bytes.length + 1
  | .lit _ => 1
  | .nil => 1
  | .ptr d => uptoBulk d + 1
  | .slice elems spare => uptoBulkAll elems + uptoBulkAll spare + 1
  | .agg parts => uptoBulkAll parts + 1
  | .iface _ d => uptoBulk d + 1
  | .map entries => uptoBulkEntries entries + 1
  | .held _ => 1
def uptoBulkAll {H : Type} : List (DataW H) → Nat
  | [] => 0
  | d :: r => uptoBulk d + uptoBulkAll r
def uptoBulkEntries {H : Type} : List (Lit × DataW H) → Nat
  | [] => 0
  | x :: r => uptoBulkEntry x + uptoBulkEntries r
def uptoBulkEntry {H : Type} : Lit × DataW H → Nat
  | (.string bytes, d) => bytes.length + uptoBulk d + 1
  | (_, d) => uptoBulk d + 1
 end
def uptoSmall : (H : Type) → List (DataW H) → Bool := fun _ ds => decide (uptoBulkAll ds ≤ 1048576)
def OpenSpec.upto (s : _root_.Go.ChangeSpec) : _root_.Go.OpenSpec := { _root_.Go.OpenSpec.ofChange s with cond := some uptoSmall }

/-- 'guidepostlaw02.SumTotals', WHERE WHAT IT READS IS OF BULK AT MOST 1048576: true; the input reads as it did. -/
def sumTotalsUptoRow : OpenClaim := { program := "ytjocnhifnijlcaa", sum := "ab1e935204ba0349258be8e846f1b3f19a818898f4fac9e3568d58b91a23eeee", func := "guidepost/guidepostlaw02.SumTotals", spec := "sumTotals", unfollowed := true, recurses := true, apart := false, narrowed := true }
def SumTotalsUptoSaid : Prop := sumTotalsUptoRow.holds Try.pinned (OpenSpec.upto sumTotalsSpec)

/-- 'guidepostlaw02.SumRing', WHERE WHAT IT READS IS OF BULK AT MOST 1048576: true; the input reads as it did. -/
def sumRingUptoRow : OpenClaim := { program := "ytjocnhifnijlcaa", sum := "ab1e935204ba0349258be8e846f1b3f19a818898f4fac9e3568d58b91a23eeee", func := "guidepost/guidepostlaw02.SumRing", spec := "sumRing", unfollowed := true, recurses := true, apart := false, narrowed := true }
def SumRingUptoSaid : Prop := sumRingUptoRow.holds Try.pinned (OpenSpec.upto sumRingSpec)

/-- 'guidepostlaw02.SumOrder', WHERE WHAT IT READS IS OF BULK AT MOST 1048576: true; the input reads as it did. -/
def sumOrderUptoRow : OpenClaim := { program := "ytjocnhifnijlcaa", sum := "ab1e935204ba0349258be8e846f1b3f19a818898f4fac9e3568d58b91a23eeee", func := "guidepost/guidepostlaw02.SumOrder", spec := "sumOrder", unfollowed := true, recurses := true, apart := false, narrowed := true }
def SumOrderUptoSaid : Prop := sumOrderUptoRow.holds Try.pinned (OpenSpec.upto sumOrderSpec)

/-- 'guidepostlaw02.SumParts', WHERE WHAT IT READS IS OF BULK AT MOST 1048576: true; the input reads as it did. -/
def sumPartsUptoRow : OpenClaim := { program := "ytjocnhifnijlcaa", sum := "ab1e935204ba0349258be8e846f1b3f19a818898f4fac9e3568d58b91a23eeee", func := "guidepost/guidepostlaw02.SumParts", spec := "sumParts", unfollowed := true, recurses := true, apart := false, narrowed := true }
def SumPartsUptoSaid : Prop := sumPartsUptoRow.holds Try.pinned (OpenSpec.upto sumPartsSpec)

/-- 'guidepostlaw02.SumChanges', WHERE WHAT IT READS IS OF BULK AT MOST 1048576: true; the input reads as it did. -/
def sumChangesUptoRow : OpenClaim := { program := "ytjocnhifnijlcaa", sum := "ab1e935204ba0349258be8e846f1b3f19a818898f4fac9e3568d58b91a23eeee", func := "guidepost/guidepostlaw02.SumChanges", spec := "sumChanges", unfollowed := true, recurses := true, apart := false, narrowed := true }
def SumChangesUptoSaid : Prop := sumChangesUptoRow.holds Try.pinned (OpenSpec.upto sumChangesSpec)

/-- 'guidepostlaw02.SumMeans', WHERE WHAT IT READS IS OF BULK AT MOST 1048576: true; the input reads as it did. -/
def sumMeansUptoRow : OpenClaim := { program := "ytjocnhifnijlcaa", sum := "ab1e935204ba0349258be8e846f1b3f19a818898f4fac9e3568d58b91a23eeee", func := "guidepost/guidepostlaw02.SumMeans", spec := "sumMeans", unfollowed := true, recurses := true, apart := false, narrowed := true }
def SumMeansUptoSaid : Prop := sumMeansUptoRow.holds Try.pinned (OpenSpec.upto sumMeansSpec)

end Rows
end Go.Proofs.Ytjocnhifnijlcaa
