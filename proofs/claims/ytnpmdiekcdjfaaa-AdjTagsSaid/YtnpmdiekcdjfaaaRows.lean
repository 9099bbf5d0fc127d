/-
  No cell of these rows narrows 'for every input' (looked for: loops, veiled, ifaces, maps, wideKeys, modest, calm, conditions, laid).
  DERIVED. THE GIVEN ROWS OF THIS SEAT. 4 by the template 'for every input the law returns true; each argument reads behind the call as it read before'; 0 by the template 'total and deterministic' (their statements: YtnpmdiekcdjfaaaTotals.lean).
  GIVEN WITH THE SEED: the statements are not yours to turn. If you find one false, say at which input.
  Laid BY PROGRAM, IN A SANDBOX (cutbox-rows.mjs): the forced cells as the released guide's own fill.sh prints them over the translation 307d86f2b68e8992… (all of the seat's roots in one cut). By AI agents, Wed Nov 11 2026. No macro, syntax, notation, axiom, sorry.
-/
import Derived.Test.YtnpmdiekcdjfaaaChecked
import GoSem.Claim
import GoSem.ClaimJoined
import GoSem.ClaimMapViews
import Derived.JoinedTies
import Derived.KernelRfl
namespace Go.Proofs.Ytnpmdiekcdjfaaa
/- THE CELL 'sum', in the pinned program and in every row, IS THE sha256 OF THE DUMP (.gsa) THAT YtnpmdiekcdjfaaaProg.lean LOADS. Nothing in Lean hashes anything: it is a label: what it is worth is what the hold of that sum in a sandbox is worth. -/
noncomputable def Try.pinned : Pinned := { name := "ytnpmdiekcdjfaaa", sum := "307d86f2b68e8992840fc8ebda457e4365a43fecca212fe30fdea1762ca72ca6", checked := Try.checked }
namespace Rows
def none {H : Type} : Left H := { results := [], args := [] }

/-- 'guidepostlaw10.AdjAccepts': WHATEVER THE INPUT: true; the input reads as it did. -/
def adjAcceptsSpec : ChangeSpec := { name := "adjAccepts", fn := fun _ => fun
  | [d1, d2, d3, d4] => { results := [.lit (.bool true)], args := [d1, d2, d3, d4] }
  | _ => none }
def adjAcceptsRow : OpenClaim := { program := "ytnpmdiekcdjfaaa", sum := "307d86f2b68e8992840fc8ebda457e4365a43fecca212fe30fdea1762ca72ca6", func := "guidepost/guidepostlaw10.AdjAccepts", spec := "adjAccepts", plainKeys := false, apart := false }
def AdjAcceptsSaid : Prop := adjAcceptsRow.holds Try.pinned (OpenSpec.ofChange adjAcceptsSpec)

/-- ITS FALSE NEIGHBOUR: 'it returns false'. Refute it at one input. -/
def adjAcceptsWrong : ChangeSpec := { name := "adjAccepts", fn := fun _ => fun
  | [d1, d2, d3, d4] => { results := [.lit (.bool false)], args := [d1, d2, d3, d4] }
  | _ => none }
def AdjAcceptsWrongFalsely : Prop := adjAcceptsRow.holds Try.pinned (OpenSpec.ofChange adjAcceptsWrong)

/-- 'guidepostlaw10.AdjTags': WHATEVER THE INPUT: true; the input reads as it did. -/
def adjTagsSpec : ChangeSpec := { name := "adjTags", fn := fun _ => fun
  | [d] => { results := [.lit (.bool true)], args := [d] }
  | _ => none }
def adjTagsRow : OpenClaim := { program := "ytnpmdiekcdjfaaa", sum := "307d86f2b68e8992840fc8ebda457e4365a43fecca212fe30fdea1762ca72ca6", func := "guidepost/guidepostlaw10.AdjTags", spec := "adjTags", plainKeys := false, apart := false }
def AdjTagsSaid : Prop := adjTagsRow.holds Try.pinned (OpenSpec.ofChange adjTagsSpec)

/-- ITS FALSE NEIGHBOUR: 'it returns false'. Refute it at one input. -/
def adjTagsWrong : ChangeSpec := { name := "adjTags", fn := fun _ => fun
  | [d] => { results := [.lit (.bool false)], args := [d] }
  | _ => none }
def AdjTagsWrongFalsely : Prop := adjTagsRow.holds Try.pinned (OpenSpec.ofChange adjTagsWrong)

/-- 'guidepostlaw10.AdjMeets': WHATEVER THE INPUT: true; the input reads as it did. -/
def adjMeetsSpec : ChangeSpec := { name := "adjMeets", fn := fun _ => fun
  | [d1, d2] => { results := [.lit (.bool true)], args := [d1, d2] }
  | _ => none }
def adjMeetsRow : OpenClaim := { program := "ytnpmdiekcdjfaaa", sum := "307d86f2b68e8992840fc8ebda457e4365a43fecca212fe30fdea1762ca72ca6", func := "guidepost/guidepostlaw10.AdjMeets", spec := "adjMeets", plainKeys := false, apart := false }
def AdjMeetsSaid : Prop := adjMeetsRow.holds Try.pinned (OpenSpec.ofChange adjMeetsSpec)

/-- ITS FALSE NEIGHBOUR: 'it returns false'. Refute it at one input. -/
def adjMeetsWrong : ChangeSpec := { name := "adjMeets", fn := fun _ => fun
  | [d1, d2] => { results := [.lit (.bool false)], args := [d1, d2] }
  | _ => none }
def AdjMeetsWrongFalsely : Prop := adjMeetsRow.holds Try.pinned (OpenSpec.ofChange adjMeetsWrong)

/-- 'guidepostlaw10.AdjNil': WHATEVER THE INPUT: true; the input reads as it did. -/
def adjNilSpec : ChangeSpec := { name := "adjNil", fn := fun _ => fun
  | [] => { results := [.lit (.bool true)], args := [] }
  | _ => none }
def adjNilRow : OpenClaim := { program := "ytnpmdiekcdjfaaa", sum := "307d86f2b68e8992840fc8ebda457e4365a43fecca212fe30fdea1762ca72ca6", func := "guidepost/guidepostlaw10.AdjNil", spec := "adjNil", plainKeys := false, apart := false }
def AdjNilSaid : Prop := adjNilRow.holds Try.pinned (OpenSpec.ofChange adjNilSpec)

/-- ITS FALSE NEIGHBOUR: 'it returns false'. Refute it at one input. -/
def adjNilWrong : ChangeSpec := { name := "adjNil", fn := fun _ => fun
  | [] => { results := [.lit (.bool false)], args := [] }
  | _ => none }
def AdjNilWrongFalsely : Prop := adjNilRow.holds Try.pinned (OpenSpec.ofChange adjNilWrong)

/- THE SECOND FORM. 'bulk': how many values and letters a reading holds, each counted each time it is reached (what is shared counts as often as it is met; a slice's spare places count too). A statement '..UptoSaid' is the law's where the arguments, and the package variables that the reading takes, are together of bulk at most 1048576: NARROWER than '..Said'. Prove '..Said' where nothing that the law and all that it calls make is longer than what came in: it says more and counts as full. Else prove '..UptoSaid'. A law counts once. -/
mutual
def uptoBulk {H : Type} : DataW H → Nat
  | .lit (.string bytes) => bytes.length + 1
  | .lit _ => 1
  | .nil => 1
  | .ptr d => uptoBulk d + 1
  | .slice elems spare => uptoBulkAll elems + uptoBulkAll spare + 1
  | .agg parts => uptoBulkAll parts + 1
  | .iface _ d => uptoBulk d + 1
  | .map entries => uptoBulkEntries entries + 1
  | .held _ => 1
def uptoBulkAll {H : Type} : List (DataW H) → Nat
  | [] => 0
  | d :: r => uptoBulk d + uptoBulkAll r
def uptoBulkEntries {H : Type} : List (Lit × DataW H) → Nat
  | [] => 0
  | x :: r => uptoBulkEntry x + uptoBulkEntries r
def uptoBulkEntry {H : Type} : Lit × DataW H → Nat
  | (.string bytes, d) => bytes.length + uptoBulk d + 1
  | (_, d) => uptoBulk d + 1
 end
def uptoSmall : (H : Type) → List (DataW H) → Bool := fun _ ds => decide (uptoBulkAll ds ≤ 1048576)
def OpenSpec.upto (s : _root_.Go.ChangeSpec) : _root_.Go.OpenSpec := { _root_.Go.OpenSpec.ofChange s with cond := some uptoSmall }

/-- 'guidepostlaw10.AdjAccepts', WHERE WHAT IT READS IS OF BULK AT MOST 1048576: true; the input reads as it did. -/
def adjAcceptsUptoRow : OpenClaim := { program := "ytnpmdiekcdjfaaa", sum := "307d86f2b68e8992840fc8ebda457e4365a43fecca212fe30fdea1762ca72ca6", func := "guidepost/guidepostlaw10.AdjAccepts", spec := "adjAccepts", plainKeys := false, apart := false, narrowed := true }
def AdjAcceptsUptoSaid : Prop := adjAcceptsUptoRow.holds Try.pinned (OpenSpec.upto adjAcceptsSpec)

/-- 'guidepostlaw10.AdjTags', WHERE WHAT IT READS IS OF BULK AT MOST 1048576: true; the input reads as it did. -/
def adjTagsUptoRow : OpenClaim := { program := "ytnpmdiekcdjfaaa", sum := "307d86f2b68e8992840fc8ebda457e4365a43fecca212fe30fdea1762ca72ca6", func := "guidepost/guidepostlaw10.AdjTags", spec := "adjTags", plainKeys := false, apart := false, narrowed := true }
def AdjTagsUptoSaid : Prop := adjTagsUptoRow.holds Try.pinned (OpenSpec.upto adjTagsSpec)

/-- 'guidepostlaw10.AdjMeets', WHERE WHAT IT READS IS OF BULK AT MOST 1048576: true; the input reads as it did. -/
def adjMeetsUptoRow : OpenClaim := { program := "ytnpmdiekcdjfaaa", sum := "307d86f2b68e8992840fc8ebda457e4365a43fecca212fe30fdea1762ca72ca6", func := "guidepost/guidepostlaw10.AdjMeets", spec := "adjMeets", plainKeys := false, apart := false, narrowed := true }
def AdjMeetsUptoSaid : Prop := adjMeetsUptoRow.holds Try.pinned (OpenSpec.upto adjMeetsSpec)

/-- 'guidepostlaw10.AdjNil', WHERE WHAT IT READS IS OF BULK AT MOST 1048576: true; the input reads as it did. -/
def adjNilUptoRow : OpenClaim := { program := "ytnpmdiekcdjfaaa", sum := "307d86f2b68e8992840fc8ebda457e4365a43fecca212fe30fdea1762ca72ca6", func := "guidepost/guidepostlaw10.AdjNil", spec := "adjNil", plainKeys := false, apart := false, narrowed := true }
def AdjNilUptoSaid : Prop := adjNilUptoRow.holds Try.pinned (OpenSpec.upto adjNilSpec)

end Rows
end Go.Proofs.Ytnpmdiekcdjfaaa
