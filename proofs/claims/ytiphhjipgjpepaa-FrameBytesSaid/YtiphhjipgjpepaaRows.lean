/-
  No cell of these rows narrows 'for every input' (looked for: loops, veiled, ifaces, maps, wideKeys, modest, calm, conditions, laid).
  DERIVED. THE GIVEN ROWS OF THIS SEAT. 5 by the template 'for every input the law returns true; each argument reads behind the call as it read before'; 0 by the template 'total and deterministic' (their statements: YtiphhjipgjpepaaTotals.lean).
  GIVEN WITH THE SEED: the statements are not yours to turn. If you find one false, say at which input.
  Laid BY PROGRAM, IN A SANDBOX (cutbox-rows.mjs): the forced cells as the released guide's own fill.sh prints them over the translation a663a644eafc1c7b… (all of the seat's roots in one cut). By AI agents, Wed Nov 11 2026. No macro, syntax, notation, axiom, sorry.
-/
import Derived.Test.YtiphhjipgjpepaaChecked
import GoSem.Claim
import GoSem.ClaimJoined
import GoSem.ClaimMapViews
import Derived.JoinedTies
import Derived.KernelRfl
namespace Go.Proofs.Ytiphhjipgjpepaa
/- THE CELL 'sum', in the pinned program and in every row, IS THE sha256 OF THE DUMP (.gsa) THAT YtiphhjipgjpepaaProg.lean LOADS. Nothing in Lean hashes anything: it is a label: what it is worth is what the hold of that sum in a sandbox is worth. -/
noncomputable def Try.pinned : Pinned := { name := "ytiphhjipgjpepaa", sum := "a663a644eafc1c7b477f7d4ef82731963eff1d416063dd366ee5833239ac7451", checked := Try.checked }
namespace Rows
def none {H : Type} : Left H := { results := [], args := [] }

/-- 'guidepostlaw06.FrameBytes': WHATEVER THE INPUT: true; the input reads as it did. -/
def frameBytesSpec : ChangeSpec := { name := "frameBytes", fn := fun _ => fun
  | [d1, d2] => { results := [.lit (.bool true)], args := [d1, d2] }
  | _ => none }
def frameBytesRow : OpenClaim := { program := "ytiphhjipgjpepaa", sum := "a663a644eafc1c7b477f7d4ef82731963eff1d416063dd366ee5833239ac7451", func := "guidepost/guidepostlaw06.FrameBytes", spec := "frameBytes", unfollowed := true, recurses := true, apart := false }
def FrameBytesSaid : Prop := frameBytesRow.holds Try.pinned (OpenSpec.ofChange frameBytesSpec)

/-- ITS FALSE NEIGHBOUR: 'it returns false'. Refute it at one input. -/
def frameBytesWrong : ChangeSpec := { name := "frameBytes", fn := fun _ => fun
  | [d1, d2] => { results := [.lit (.bool false)], args := [d1, d2] }
  | _ => none }
def FrameBytesWrongFalsely : Prop := frameBytesRow.holds Try.pinned (OpenSpec.ofChange frameBytesWrong)

/-- 'guidepostlaw06.FrameMeans': WHATEVER THE INPUT: true; the input reads as it did. -/
def frameMeansSpec : ChangeSpec := { name := "frameMeans", fn := fun _ => fun
  | [d1, d2, d3, d4] => { results := [.lit (.bool true)], args := [d1, d2, d3, d4] }
  | _ => none }
def frameMeansRow : OpenClaim := { program := "ytiphhjipgjpepaa", sum := "a663a644eafc1c7b477f7d4ef82731963eff1d416063dd366ee5833239ac7451", func := "guidepost/guidepostlaw06.FrameMeans", spec := "frameMeans", unfollowed := true, recurses := true, apart := false }
def FrameMeansSaid : Prop := frameMeansRow.holds Try.pinned (OpenSpec.ofChange frameMeansSpec)

/-- ITS FALSE NEIGHBOUR: 'it returns false'. Refute it at one input. -/
def frameMeansWrong : ChangeSpec := { name := "frameMeans", fn := fun _ => fun
  | [d1, d2, d3, d4] => { results := [.lit (.bool false)], args := [d1, d2, d3, d4] }
  | _ => none }
def FrameMeansWrongFalsely : Prop := frameMeansRow.holds Try.pinned (OpenSpec.ofChange frameMeansWrong)

/-- 'guidepostlaw06.FrameSessions': WHATEVER THE INPUT: true; the input reads as it did. -/
def frameSessionsSpec : ChangeSpec := { name := "frameSessions", fn := fun _ => fun
  | [d1, d2, d3, d4, d5] => { results := [.lit (.bool true)], args := [d1, d2, d3, d4, d5] }
  | _ => none }
def frameSessionsRow : OpenClaim := { program := "ytiphhjipgjpepaa", sum := "a663a644eafc1c7b477f7d4ef82731963eff1d416063dd366ee5833239ac7451", func := "guidepost/guidepostlaw06.FrameSessions", spec := "frameSessions", unfollowed := true, recurses := true, apart := false }
def FrameSessionsSaid : Prop := frameSessionsRow.holds Try.pinned (OpenSpec.ofChange frameSessionsSpec)

/-- ITS FALSE NEIGHBOUR: 'it returns false'. Refute it at one input. -/
def frameSessionsWrong : ChangeSpec := { name := "frameSessions", fn := fun _ => fun
  | [d1, d2, d3, d4, d5] => { results := [.lit (.bool false)], args := [d1, d2, d3, d4, d5] }
  | _ => none }
def FrameSessionsWrongFalsely : Prop := frameSessionsRow.holds Try.pinned (OpenSpec.ofChange frameSessionsWrong)

/-- 'guidepostlaw06.FrameUpdates': WHATEVER THE INPUT: true; the input reads as it did. -/
def frameUpdatesSpec : ChangeSpec := { name := "frameUpdates", fn := fun _ => fun
  | [d1, d2, d3, d4, d5] => { results := [.lit (.bool true)], args := [d1, d2, d3, d4, d5] }
  | _ => none }
def frameUpdatesRow : OpenClaim := { program := "ytiphhjipgjpepaa", sum := "a663a644eafc1c7b477f7d4ef82731963eff1d416063dd366ee5833239ac7451", func := "guidepost/guidepostlaw06.FrameUpdates", spec := "frameUpdates", unfollowed := true, recurses := true, apart := false }
def FrameUpdatesSaid : Prop := frameUpdatesRow.holds Try.pinned (OpenSpec.ofChange frameUpdatesSpec)

/-- ITS FALSE NEIGHBOUR: 'it returns false'. Refute it at one input. -/
def frameUpdatesWrong : ChangeSpec := { name := "frameUpdates", fn := fun _ => fun
  | [d1, d2, d3, d4, d5] => { results := [.lit (.bool false)], args := [d1, d2, d3, d4, d5] }
  | _ => none }
def FrameUpdatesWrongFalsely : Prop := frameUpdatesRow.holds Try.pinned (OpenSpec.ofChange frameUpdatesWrong)

/-- 'guidepostlaw06.FrameLooks': WHATEVER THE INPUT: true; the input reads as it did. -/
def frameLooksSpec : ChangeSpec := { name := "frameLooks", fn := fun _ => fun
  | [d1, d2, d3, d4] => { results := [.lit (.bool true)], args := [d1, d2, d3, d4] }
  | _ => none }
def frameLooksRow : OpenClaim := { program := "ytiphhjipgjpepaa", sum := "a663a644eafc1c7b477f7d4ef82731963eff1d416063dd366ee5833239ac7451", func := "guidepost/guidepostlaw06.FrameLooks", spec := "frameLooks", unfollowed := true, recurses := true, apart := false }
def FrameLooksSaid : Prop := frameLooksRow.holds Try.pinned (OpenSpec.ofChange frameLooksSpec)

/-- ITS FALSE NEIGHBOUR: 'it returns false'. Refute it at one input. -/
def frameLooksWrong : ChangeSpec := { name := "frameLooks", fn := fun _ => fun
  | [d1, d2, d3, d4] => { results := [.lit (.bool false)], args := [d1, d2, d3, d4] }
  | _ => none }
def FrameLooksWrongFalsely : Prop := frameLooksRow.holds Try.pinned (OpenSpec.ofChange frameLooksWrong)

/- THE SECOND FORM. 'bulk': how many values and letters a reading holds, each counted each time it is reached (what is shared counts as often as it is met; a slice's spare places count too). A statement '..UptoSaid' is the law's where the arguments, and the package variables that the reading takes, are together of bulk at most 1048576: NARROWER than '..Said'. Prove '..Said' where nothing that the law and all that it calls make is longer than what came in: it says more and counts as full. Else prove '..UptoSaid'. A law counts once. -/
mutual
def uptoBulk {H : Type} : DataW H → Nat
  | .lit (.string bytes) => bytes.length + 1
  | .lit _ => 1
  | .nil => 1
  | .ptr d => uptoBulk d + 1
  | .slice elems spare => uptoBulkAll elems + uptoBulkAll spare + 1
  | .agg parts => uptoBulkAll parts + 1
  | .iface _ d => uptoBulk d + 1
  | .map entries => uptoBulkEntries entries + 1
  | .held _ => 1
def uptoBulkAll {H : Type} : List (DataW H) → Nat
  | [] => 0
  | d :: r => uptoBulk d + uptoBulkAll r
def uptoBulkEntries {H : Type} : List (Lit × DataW H) → Nat
  | [] => 0
  | x :: r => uptoBulkEntry x + uptoBulkEntries r
def uptoBulkEntry {H : Type} : Lit × DataW H → Nat
  | (.string bytes, d) => bytes.length + uptoBulk d + 1
  | (_, d) => uptoBulk d + 1
 end
def uptoSmall : (H : Type) → List (DataW H) → Bool := fun _ ds => decide (uptoBulkAll ds ≤ 1048576)
def OpenSpec.upto (s : _root_.Go.ChangeSpec) : _root_.Go.OpenSpec := { _root_.Go.OpenSpec.ofChange s with cond := some uptoSmall }

/-- 'guidepostlaw06.FrameBytes', WHERE WHAT IT READS IS OF BULK AT MOST 1048576: true; the input reads as it did. -/
def frameBytesUptoRow : OpenClaim := { program := "ytiphhjipgjpepaa", sum := "a663a644eafc1c7b477f7d4ef82731963eff1d416063dd366ee5833239ac7451", func := "guidepost/guidepostlaw06.FrameBytes", spec := "frameBytes", unfollowed := true, recurses := true, apart := false, narrowed := true }
def FrameBytesUptoSaid : Prop := frameBytesUptoRow.holds Try.pinned (OpenSpec.upto frameBytesSpec)

/-- 'guidepostlaw06.FrameMeans', WHERE WHAT IT READS IS OF BULK AT MOST 1048576: true; the input reads as it did. -/
def frameMeansUptoRow : OpenClaim := { program := "ytiphhjipgjpepaa", sum := "a663a644eafc1c7b477f7d4ef82731963eff1d416063dd366ee5833239ac7451", func := "guidepost/guidepostlaw06.FrameMeans", spec := "frameMeans", unfollowed := true, recurses := true, apart := false, narrowed := true }
def FrameMeansUptoSaid : Prop := frameMeansUptoRow.holds Try.pinned (OpenSpec.upto frameMeansSpec)

/-- 'guidepostlaw06.FrameSessions', WHERE WHAT IT READS IS OF BULK AT MOST 1048576: true; the input reads as it did. -/
def frameSessionsUptoRow : OpenClaim := { program := "ytiphhjipgjpepaa", sum := "a663a644eafc1c7b477f7d4ef82731963eff1d416063dd366ee5833239ac7451", func := "guidepost/guidepostlaw06.FrameSessions", spec := "frameSessions", unfollowed := true, recurses := true, apart := false, narrowed := true }
def FrameSessionsUptoSaid : Prop := frameSessionsUptoRow.holds Try.pinned (OpenSpec.upto frameSessionsSpec)

/-- 'guidepostlaw06.FrameUpdates', WHERE WHAT IT READS IS OF BULK AT MOST 1048576: true; the input reads as it did. -/
def frameUpdatesUptoRow : OpenClaim := { program := "ytiphhjipgjpepaa", sum := "a663a644eafc1c7b477f7d4ef82731963eff1d416063dd366ee5833239ac7451", func := "guidepost/guidepostlaw06.FrameUpdates", spec := "frameUpdates", unfollowed := true, recurses := true, apart := false, narrowed := true }
def FrameUpdatesUptoSaid : Prop := frameUpdatesUptoRow.holds Try.pinned (OpenSpec.upto frameUpdatesSpec)

/-- 'guidepostlaw06.FrameLooks', WHERE WHAT IT READS IS OF BULK AT MOST 1048576: true; the input reads as it did. -/
def frameLooksUptoRow : OpenClaim := { program := "ytiphhjipgjpepaa", sum := "a663a644eafc1c7b477f7d4ef82731963eff1d416063dd366ee5833239ac7451", func := "guidepost/guidepostlaw06.FrameLooks", spec := "frameLooks", unfollowed := true, recurses := true, apart := false, narrowed := true }
def FrameLooksUptoSaid : Prop := frameLooksUptoRow.holds Try.pinned (OpenSpec.upto frameLooksSpec)

end Rows
end Go.Proofs.Ytiphhjipgjpepaa
