/-
  No cell of these rows narrows 'for every input' (looked for: loops, veiled, ifaces, maps, wideKeys, modest, calm, conditions, laid).
  DERIVED. THE GIVEN ROWS OF THIS SEAT. 4 by the template 'for every input the law returns true; each argument reads behind the call as it read before'; 0 by the template 'total and deterministic' (their statements: YtajmfgadbphjbaaTotals.lean).
  GIVEN WITH THE SEED: the statements are not yours to turn. If you find one false, say at which input.
  Laid BY PROGRAM, IN A SANDBOX (cutbox-rows.mjs): the forced cells as the released guide's own fill.sh prints them over the translation 2e7e177c946d3865… (all of the seat's roots in one cut). By AI agents, Wed Nov 11 2026. No macro, syntax, notation, axiom, sorry.
-/
import Derived.Test.YtajmfgadbphjbaaChecked
import GoSem.Claim
import GoSem.ClaimJoined
import GoSem.ClaimMapViews
import Derived.JoinedTies
import Derived.KernelRfl
namespace Go.Proofs.Ytajmfgadbphjbaa
/- THE CELL 'sum', in the pinned program and in every row, IS THE sha256 OF THE DUMP (.gsa) THAT YtajmfgadbphjbaaProg.lean LOADS. Nothing in Lean hashes anything: it is a label: what it is worth is what the hold of that sum in a sandbox is worth. -/
noncomputable def Try.pinned : Pinned := { name := "ytajmfgadbphjbaa", sum := "2e7e177c946d3865092086057b3445a00404c74720b55081f45aea0263d11f4a", checked := Try.checked }
namespace Rows
def none {H : Type} : Left H := { results := [], args := [] }

/-- 'guidepostlaw08.BootSlots': WHATEVER THE INPUT: true; the input reads as it did. -/
def bootSlotsSpec : ChangeSpec := { name := "bootSlots", fn := fun _ => fun
  | [d1, d2] => { results := [.lit (.bool true)], args := [d1, d2] }
  | _ => none }
def bootSlotsRow : OpenClaim := { program := "ytajmfgadbphjbaa", sum := "2e7e177c946d3865092086057b3445a00404c74720b55081f45aea0263d11f4a", func := "guidepost/guidepostlaw08.BootSlots", spec := "bootSlots", apart := false }
def BootSlotsSaid : Prop := bootSlotsRow.holds Try.pinned (OpenSpec.ofChange bootSlotsSpec)

/-- ITS FALSE NEIGHBOUR: 'it returns false'. Refute it at one input. -/
def bootSlotsWrong : ChangeSpec := { name := "bootSlots", fn := fun _ => fun
  | [d1, d2] => { results := [.lit (.bool false)], args := [d1, d2] }
  | _ => none }
def BootSlotsWrongFalsely : Prop := bootSlotsRow.holds Try.pinned (OpenSpec.ofChange bootSlotsWrong)

/-- 'guidepostlaw08.BootKeeps': WHATEVER THE INPUT: true; the input reads as it did. -/
def bootKeepsSpec : ChangeSpec := { name := "bootKeeps", fn := fun _ => fun
  | [d1, d2] => { results := [.lit (.bool true)], args := [d1, d2] }
  | _ => none }
def bootKeepsRow : OpenClaim := { program := "ytajmfgadbphjbaa", sum := "2e7e177c946d3865092086057b3445a00404c74720b55081f45aea0263d11f4a", func := "guidepost/guidepostlaw08.BootKeeps", spec := "bootKeeps", apart := false }
def BootKeepsSaid : Prop := bootKeepsRow.holds Try.pinned (OpenSpec.ofChange bootKeepsSpec)

/-- ITS FALSE NEIGHBOUR: 'it returns false'. Refute it at one input. -/
def bootKeepsWrong : ChangeSpec := { name := "bootKeeps", fn := fun _ => fun
  | [d1, d2] => { results := [.lit (.bool false)], args := [d1, d2] }
  | _ => none }
def BootKeepsWrongFalsely : Prop := bootKeepsRow.holds Try.pinned (OpenSpec.ofChange bootKeepsWrong)

/-- 'guidepostlaw08.BootNil': WHATEVER THE INPUT: true; the input reads as it did. -/
def bootNilSpec : ChangeSpec := { name := "bootNil", fn := fun _ => fun
  | [] => { results := [.lit (.bool true)], args := [] }
  | _ => none }
def bootNilRow : OpenClaim := { program := "ytajmfgadbphjbaa", sum := "2e7e177c946d3865092086057b3445a00404c74720b55081f45aea0263d11f4a", func := "guidepost/guidepostlaw08.BootNil", spec := "bootNil", apart := false }
def BootNilSaid : Prop := bootNilRow.holds Try.pinned (OpenSpec.ofChange bootNilSpec)

/-- ITS FALSE NEIGHBOUR: 'it returns false'. Refute it at one input. -/
def bootNilWrong : ChangeSpec := { name := "bootNil", fn := fun _ => fun
  | [] => { results := [.lit (.bool false)], args := [] }
  | _ => none }
def BootNilWrongFalsely : Prop := bootNilRow.holds Try.pinned (OpenSpec.ofChange bootNilWrong)

/-- 'guidepostlaw08.BootPlays': WHATEVER THE INPUT: true; the input reads as it did. -/
def bootPlaysSpec : ChangeSpec := { name := "bootPlays", fn := fun _ => fun
  | [d1, d2, d3] => { results := [.lit (.bool true)], args := [d1, d2, d3] }
  | _ => none }
def bootPlaysRow : OpenClaim := { program := "ytajmfgadbphjbaa", sum := "2e7e177c946d3865092086057b3445a00404c74720b55081f45aea0263d11f4a", func := "guidepost/guidepostlaw08.BootPlays", spec := "bootPlays", apart := false }
def BootPlaysSaid : Prop := bootPlaysRow.holds Try.pinned (OpenSpec.ofChange bootPlaysSpec)

/-- ITS FALSE NEIGHBOUR: 'it returns false'. Refute it at one input. -/
def bootPlaysWrong : ChangeSpec := { name := "bootPlays", fn := fun _ => fun
  | [d1, d2, d3] => { results := [.lit (.bool false)], args := [d1, d2, d3] }
  | _ => none }
def BootPlaysWrongFalsely : Prop := bootPlaysRow.holds Try.pinned (OpenSpec.ofChange bootPlaysWrong)

/- THE SECOND FORM. 'bulk': how many values and letters a reading holds, each counted each time it is reached (what is shared counts as often as it is met; a slice's spare places count too). A statement '..UptoSaid' is the law's where the arguments, and the package variables that the reading takes, are together of bulk at most 1048576: NARROWER than '..Said'. Prove '..Said' where nothing that the law and all that it calls make is longer than what came in: it says more and counts as full. Else prove '..UptoSaid'. A law counts once. -/
mutual
def uptoBulk {H : Type} : DataW H → Nat
  | .lit (.string bytes) => bytes.length + 1
  | .lit _ => 1
  | .nil => 1
  | .ptr d => uptoBulk d + 1
  | .slice elems spare => uptoBulkAll elems + uptoBulkAll spare + 1
  | .agg parts => uptoBulkAll parts + 1
  | .iface _ d => uptoBulk d + 1
  | .map entries => uptoBulkEntries entries + 1
  | .held _ => 1
def uptoBulkAll {H : Type} : List (DataW H) → Nat
  | [] => 0
  | d :: r => uptoBulk d + uptoBulkAll r
def uptoBulkEntries {H : Type} : List (Lit × DataW H) → Nat
  | [] => 0
  | x :: r => uptoBulkEntry x + uptoBulkEntries r
def uptoBulkEntry {H : Type} : Lit × DataW H → Nat
  | (.string bytes, d) => bytes.length + uptoBulk d + 1
  | (_, d) => uptoBulk d + 1
 end
def uptoSmall : (H : Type) → List (DataW H) → Bool := fun _ ds => decide (uptoBulkAll ds ≤ 1048576)
def OpenSpec.upto (s : _root_.Go.ChangeSpec) : _root_.Go.OpenSpec := { _root_.Go.OpenSpec.ofChange s with cond := some uptoSmall }

/-- 'guidepostlaw08.BootSlots', WHERE WHAT IT READS IS OF BULK AT MOST 1048576: true; the input reads as it did. -/
def bootSlotsUptoRow : OpenClaim := { program := "ytajmfgadbphjbaa", sum := "2e7e177c946d3865092086057b3445a00404c74720b55081f45aea0263d11f4a", func := "guidepost/guidepostlaw08.BootSlots", spec := "bootSlots", apart := false, narrowed := true }
def BootSlotsUptoSaid : Prop := bootSlotsUptoRow.holds Try.pinned (OpenSpec.upto bootSlotsSpec)

/-- 'guidepostlaw08.BootKeeps', WHERE WHAT IT READS IS OF BULK AT MOST 1048576: true; the input reads as it did. -/
def bootKeepsUptoRow : OpenClaim := { program := "ytajmfgadbphjbaa", sum := "2e7e177c946d3865092086057b3445a00404c74720b55081f45aea0263d11f4a", func := "guidepost/guidepostlaw08.BootKeeps", spec := "bootKeeps", apart := false, narrowed := true }
def BootKeepsUptoSaid : Prop := bootKeepsUptoRow.holds Try.pinned (OpenSpec.upto bootKeepsSpec)

/-- 'guidepostlaw08.BootNil', WHERE WHAT IT READS IS OF BULK AT MOST 1048576: true; the input reads as it did. -/
def bootNilUptoRow : OpenClaim := { program := "ytajmfgadbphjbaa", sum := "2e7e177c946d3865092086057b3445a00404c74720b55081f45aea0263d11f4a", func := "guidepost/guidepostlaw08.BootNil", spec := "bootNil", apart := false, narrowed := true }
def BootNilUptoSaid : Prop := bootNilUptoRow.holds Try.pinned (OpenSpec.upto bootNilSpec)

/-- 'guidepostlaw08.BootPlays', WHERE WHAT IT READS IS OF BULK AT MOST 1048576: true; the input reads as it did. -/
def bootPlaysUptoRow : OpenClaim := { program := "ytajmfgadbphjbaa", sum := "2e7e177c946d3865092086057b3445a00404c74720b55081f45aea0263d11f4a", func := "guidepost/guidepostlaw08.BootPlays", spec := "bootPlays", apart := false, narrowed := true }
def BootPlaysUptoSaid : Prop := bootPlaysUptoRow.holds Try.pinned (OpenSpec.upto bootPlaysSpec)

end Rows
end Go.Proofs.Ytajmfgadbphjbaa
