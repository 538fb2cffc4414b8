/-
  No cell of these rows narrows 'for every input' (looked for: loops, veiled, ifaces, maps, wideKeys, modest, calm, conditions, laid).
  DERIVED. THE GIVEN ROWS OF THIS SEAT. 5 by the template 'for every input the law returns true; each argument reads behind the call as it read before'; 0 by the template 'total and deterministic' (their statements: YtclgekgocfhobaaTotals.lean).
  GIVEN WITH THE SEED: the statements are not yours to turn. If you find one false, say at which input.
  Laid BY PROGRAM, IN A SANDBOX (cutbox-rows.mjs): the forced cells as the released guide's own fill.sh prints them over the translation e4d8fb13edf4616c… (all of the seat's roots in one cut). By AI agents, Wed Nov 11 2026. No macro, syntax, notation, axiom, sorry.
-/
import Derived.Test.YtclgekgocfhobaaChecked
import GoSem.Claim
import GoSem.ClaimJoined
import GoSem.ClaimMapViews
import Derived.JoinedTies
import Derived.KernelRfl
namespace Go.Proofs.Ytclgekgocfhobaa
/- THE CELL 'sum', in the pinned program and in every row, IS THE sha256 OF THE DUMP (.gsa) THAT YtclgekgocfhobaaProg.lean LOADS. Nothing in Lean hashes anything: it is a label: what it is worth is what the hold of that sum in a sandbox is worth. -/
noncomputable def Try.pinned : Pinned := { name := "ytclgekgocfhobaa", sum := "e4d8fb13edf4616cba3e32e4e28475cf513fb12eef2170410ee9052be6234b82", checked := Try.checked }
namespace Rows
def none {H : Type} : Left H := { results := [], args := [] }

/-- 'glacierlaw12.CommandBack': WHATEVER THE INPUT: true; the input reads as it did. -/
def commandBackSpec : ChangeSpec := { name := "commandBack", fn := fun _ => fun
  | [d] => { results := [.lit (.bool true)], args := [d] }
  | _ => none }
def commandBackRow : OpenClaim := { program := "ytclgekgocfhobaa", sum := "e4d8fb13edf4616cba3e32e4e28475cf513fb12eef2170410ee9052be6234b82", func := "glacier/glacierlaw12.CommandBack", spec := "commandBack", recurses := true, apart := false }
def CommandBackSaid : Prop := commandBackRow.holds Try.pinned (OpenSpec.ofChange commandBackSpec)

/-- ITS FALSE NEIGHBOUR: 'it returns false'. Refute it at one input. -/
def commandBackWrong : ChangeSpec := { name := "commandBack", fn := fun _ => fun
  | [d] => { results := [.lit (.bool false)], args := [d] }
  | _ => none }
def CommandBackWrongFalsely : Prop := commandBackRow.holds Try.pinned (OpenSpec.ofChange commandBackWrong)

/-- 'glacierlaw12.CommandOne': WHATEVER THE INPUT: true; the input reads as it did. -/
def commandOneSpec : ChangeSpec := { name := "commandOne", fn := fun _ => fun
  | [d] => { results := [.lit (.bool true)], args := [d] }
  | _ => none }
def commandOneRow : OpenClaim := { program := "ytclgekgocfhobaa", sum := "e4d8fb13edf4616cba3e32e4e28475cf513fb12eef2170410ee9052be6234b82", func := "glacier/glacierlaw12.CommandOne", spec := "commandOne", recurses := true, apart := false }
def CommandOneSaid : Prop := commandOneRow.holds Try.pinned (OpenSpec.ofChange commandOneSpec)

/-- ITS FALSE NEIGHBOUR: 'it returns false'. Refute it at one input. -/
def commandOneWrong : ChangeSpec := { name := "commandOne", fn := fun _ => fun
  | [d] => { results := [.lit (.bool false)], args := [d] }
  | _ => none }
def CommandOneWrongFalsely : Prop := commandOneRow.holds Try.pinned (OpenSpec.ofChange commandOneWrong)

/-- 'glacierlaw12.CommandDisks': WHATEVER THE INPUT: true; the input reads as it did. -/
def commandDisksSpec : ChangeSpec := { name := "commandDisks", fn := fun _ => fun
  | [d] => { results := [.lit (.bool true)], args := [d] }
  | _ => none }
def commandDisksRow : OpenClaim := { program := "ytclgekgocfhobaa", sum := "e4d8fb13edf4616cba3e32e4e28475cf513fb12eef2170410ee9052be6234b82", func := "glacier/glacierlaw12.CommandDisks", spec := "commandDisks", recurses := true, apart := false }
def CommandDisksSaid : Prop := commandDisksRow.holds Try.pinned (OpenSpec.ofChange commandDisksSpec)

/-- ITS FALSE NEIGHBOUR: 'it returns false'. Refute it at one input. -/
def commandDisksWrong : ChangeSpec := { name := "commandDisks", fn := fun _ => fun
  | [d] => { results := [.lit (.bool false)], args := [d] }
  | _ => none }
def CommandDisksWrongFalsely : Prop := commandDisksRow.holds Try.pinned (OpenSpec.ofChange commandDisksWrong)

/-- 'glacierlaw12.CommandApart': WHATEVER THE INPUT: true; the input reads as it did. -/
def commandApartSpec : ChangeSpec := { name := "commandApart", fn := fun _ => fun
  | [d1, d2] => { results := [.lit (.bool true)], args := [d1, d2] }
  | _ => none }
def commandApartRow : OpenClaim := { program := "ytclgekgocfhobaa", sum := "e4d8fb13edf4616cba3e32e4e28475cf513fb12eef2170410ee9052be6234b82", func := "glacier/glacierlaw12.CommandApart", spec := "commandApart", recurses := true, apart := false }
def CommandApartSaid : Prop := commandApartRow.holds Try.pinned (OpenSpec.ofChange commandApartSpec)

/-- ITS FALSE NEIGHBOUR: 'it returns false'. Refute it at one input. -/
def commandApartWrong : ChangeSpec := { name := "commandApart", fn := fun _ => fun
  | [d1, d2] => { results := [.lit (.bool false)], args := [d1, d2] }
  | _ => none }
def CommandApartWrongFalsely : Prop := commandApartRow.holds Try.pinned (OpenSpec.ofChange commandApartWrong)

/-- 'glacierlaw12.CommandCut': WHATEVER THE INPUT: true; the input reads as it did. -/
def commandCutSpec : ChangeSpec := { name := "commandCut", fn := fun _ => fun
  | [d1, d2, d3] => { results := [.lit (.bool true)], args := [d1, d2, d3] }
  | _ => none }
def commandCutRow : OpenClaim := { program := "ytclgekgocfhobaa", sum := "e4d8fb13edf4616cba3e32e4e28475cf513fb12eef2170410ee9052be6234b82", func := "glacier/glacierlaw12.CommandCut", spec := "commandCut", recurses := true, apart := false }
def CommandCutSaid : Prop := commandCutRow.holds Try.pinned (OpenSpec.ofChange commandCutSpec)

/-- ITS FALSE NEIGHBOUR: 'it returns false'. Refute it at one input. -/
def commandCutWrong : ChangeSpec := { name := "commandCut", fn := fun _ => fun
  | [d1, d2, d3] => { results := [.lit (.bool false)], args := [d1, d2, d3] }
  | _ => none }
def CommandCutWrongFalsely : Prop := commandCutRow.holds Try.pinned (OpenSpec.ofChange commandCutWrong)

/- THE SECOND FORM. 'bulk': how many values and letters a reading holds, each counted each time it is reached (what is shared counts as often as it is met; a slice's spare places count too). A statement '..UptoSaid' is the law's where the arguments, and the package variables that the reading takes, are together of bulk at most 1048576: NARROWER than '..Said'. Prove '..Said' where nothing that the law and all that it calls make is longer than what came in: it says more and counts as full. Else prove '..UptoSaid'. A law counts once. -/
mutual
def uptoBulk {H : Type} : DataW H → Nat
  | .lit (.string bytes) => bytes.length + 1
  | .lit _ => 1
  | .nil => 1
  | .ptr d => uptoBulk d + 1
  | .slice elems spare => uptoBulkAll elems + uptoBulkAll spare + 1
  | .agg parts => uptoBulkAll parts + 1
  | .iface _ d => uptoBulk d + 1
  | .map entries => uptoBulkEntries entries + 1
  | .held _ => 1
def uptoBulkAll {H : Type} : List (DataW H) → Nat
  | [] => 0
  | d :: r => uptoBulk d + uptoBulkAll r
def uptoBulkEntries {H : Type} : List (Lit × DataW H) → Nat
  | [] => 0
  | x :: r => uptoBulkEntry x + uptoBulkEntries r
def uptoBulkEntry {H : Type} : Lit × DataW H → Nat
  | (.string bytes, d) => bytes.length + uptoBulk d + 1
  | (_, d) => uptoBulk d + 1
 end
def uptoSmall : (H : Type) → List (DataW H) → Bool := fun _ ds => decide (uptoBulkAll ds ≤ 1048576)
def OpenSpec.upto (s : _root_.Go.ChangeSpec) : _root_.Go.OpenSpec := { _root_.Go.OpenSpec.ofChange s with cond := some uptoSmall }

/-- 'glacierlaw12.CommandBack', WHERE WHAT IT READS IS OF BULK AT MOST 1048576: true; the input reads as it did. -/
def commandBackUptoRow : OpenClaim := { program := "ytclgekgocfhobaa", sum := "e4d8fb13edf4616cba3e32e4e28475cf513fb12eef2170410ee9052be6234b82", func := "glacier/glacierlaw12.CommandBack", spec := "commandBack", recurses := true, apart := false, narrowed := true }
def CommandBackUptoSaid : Prop := commandBackUptoRow.holds Try.pinned (OpenSpec.upto commandBackSpec)

/-- 'glacierlaw12.CommandOne', WHERE WHAT IT READS IS OF BULK AT MOST 1048576: true; the input reads as it did. -/
def commandOneUptoRow : OpenClaim := { program := "ytclgekgocfhobaa", sum := "e4d8fb13edf4616cba3e32e4e28475cf513fb12eef2170410ee9052be6234b82", func := "glacier/glacierlaw12.CommandOne", spec := "commandOne", recurses := true, apart := false, narrowed := true }
def CommandOneUptoSaid : Prop := commandOneUptoRow.holds Try.pinned (OpenSpec.upto commandOneSpec)

/-- 'glacierlaw12.CommandDisks', WHERE WHAT IT READS IS OF BULK AT MOST 1048576: true; the input reads as it did. -/
def commandDisksUptoRow : OpenClaim := { program := "ytclgekgocfhobaa", sum := "e4d8fb13edf4616cba3e32e4e28475cf513fb12eef2170410ee9052be6234b82", func := "glacier/glacierlaw12.CommandDisks", spec := "commandDisks", recurses := true, apart := false, narrowed := true }
def CommandDisksUptoSaid : Prop := commandDisksUptoRow.holds Try.pinned (OpenSpec.upto commandDisksSpec)

/-- 'glacierlaw12.CommandApart', WHERE WHAT IT READS IS OF BULK AT MOST 1048576: true; the input reads as it did. -/
def commandApartUptoRow : OpenClaim := { program := "ytclgekgocfhobaa", sum := "e4d8fb13edf4616cba3e32e4e28475cf513fb12eef2170410ee9052be6234b82", func := "glacier/glacierlaw12.CommandApart", spec := "commandApart", recurses := true, apart := false, narrowed := true }
def CommandApartUptoSaid : Prop := commandApartUptoRow.holds Try.pinned (OpenSpec.upto commandApartSpec)

/-- 'glacierlaw12.CommandCut', WHERE WHAT IT READS IS OF BULK AT MOST 1048576: true; the input reads as it did. -/
def commandCutUptoRow : OpenClaim := { program := "ytclgekgocfhobaa", sum := "e4d8fb13edf4616cba3e32e4e28475cf513fb12eef2170410ee9052be6234b82", func := "glacier/glacierlaw12.CommandCut", spec := "commandCut", recurses := true, apart := false, narrowed := true }
def CommandCutUptoSaid : Prop := commandCutUptoRow.holds Try.pinned (OpenSpec.upto commandCutSpec)

end Rows
end Go.Proofs.Ytclgekgocfhobaa
