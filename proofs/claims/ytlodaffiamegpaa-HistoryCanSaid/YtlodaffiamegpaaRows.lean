/-
  No cell of these rows narrows 'for every input' (looked for: loops, veiled, ifaces, maps, wideKeys, modest, calm, conditions, laid).
  DERIVED. THE GIVEN ROWS OF THIS SEAT. 7 by the template 'for every input the law returns true; each argument reads behind the call as it read before'; 0 by the template 'total and deterministic' (their statements: YtlodaffiamegpaaTotals.lean).
  GIVEN WITH THE SEED: the statements are not yours to turn. If you find one false, say at which input.
  Laid BY PROGRAM, IN A SANDBOX (cutbox-rows.mjs): the forced cells as the released guide's own fill.sh prints them over the translation 8b5bbd5e2b26c2fa… (all of the seat's roots in one cut). By AI agents, Wed Nov 11 2026. No macro, syntax, notation, axiom, sorry.
-/
import Derived.Test.YtlodaffiamegpaaChecked
import GoSem.Claim
import GoSem.ClaimJoined
import GoSem.ClaimMapViews
import Derived.JoinedTies
import Derived.KernelRfl
namespace Go.Proofs.Ytlodaffiamegpaa
/- THE CELL 'sum', in the pinned program and in every row, IS THE sha256 OF THE DUMP (.gsa) THAT YtlodaffiamegpaaProg.lean LOADS. Nothing in Lean hashes anything: it is a label: what it is worth is what the hold of that sum in a sandbox is worth. -/
noncomputable def Try.pinned : Pinned := { name := "ytlodaffiamegpaa", sum := "8b5bbd5e2b26c2fae8fdeac373361910cd9e68a7c401d758f4b1b0f0a42b05ba", checked := Try.checked }
namespace Rows
def none {H : Type} : Left H := { results := [], args := [] }

/-- 'glacierlaw18.HistoryChecks': WHATEVER THE INPUT: true; the input reads as it did. -/
def historyChecksSpec : ChangeSpec := { name := "historyChecks", fn := fun _ => fun
  | [d] => { results := [.lit (.bool true)], args := [d] }
  | _ => none }
def historyChecksRow : OpenClaim := { program := "ytlodaffiamegpaa", sum := "8b5bbd5e2b26c2fae8fdeac373361910cd9e68a7c401d758f4b1b0f0a42b05ba", func := "glacier/glacierlaw18.HistoryChecks", spec := "historyChecks", recurses := true, apart := false }
def HistoryChecksSaid : Prop := historyChecksRow.holds Try.pinned (OpenSpec.ofChange historyChecksSpec)

/-- ITS FALSE NEIGHBOUR: 'it returns false'. Refute it at one input. -/
def historyChecksWrong : ChangeSpec := { name := "historyChecks", fn := fun _ => fun
  | [d] => { results := [.lit (.bool false)], args := [d] }
  | _ => none }
def HistoryChecksWrongFalsely : Prop := historyChecksRow.holds Try.pinned (OpenSpec.ofChange historyChecksWrong)

/-- 'glacierlaw18.HistoryArgs': WHATEVER THE INPUT: true; the input reads as it did. -/
def historyArgsSpec : ChangeSpec := { name := "historyArgs", fn := fun _ => fun
  | [d] => { results := [.lit (.bool true)], args := [d] }
  | _ => none }
def historyArgsRow : OpenClaim := { program := "ytlodaffiamegpaa", sum := "8b5bbd5e2b26c2fae8fdeac373361910cd9e68a7c401d758f4b1b0f0a42b05ba", func := "glacier/glacierlaw18.HistoryArgs", spec := "historyArgs", recurses := true, apart := false }
def HistoryArgsSaid : Prop := historyArgsRow.holds Try.pinned (OpenSpec.ofChange historyArgsSpec)

/-- ITS FALSE NEIGHBOUR: 'it returns false'. Refute it at one input. -/
def historyArgsWrong : ChangeSpec := { name := "historyArgs", fn := fun _ => fun
  | [d] => { results := [.lit (.bool false)], args := [d] }
  | _ => none }
def HistoryArgsWrongFalsely : Prop := historyArgsRow.holds Try.pinned (OpenSpec.ofChange historyArgsWrong)

/-- 'glacierlaw18.HistoryCan': WHATEVER THE INPUT: true; the input reads as it did. -/
def historyCanSpec : ChangeSpec := { name := "historyCan", fn := fun _ => fun
  | [d1, d2, d3, d4, d5] => { results := [.lit (.bool true)], args := [d1, d2, d3, d4, d5] }
  | _ => none }
def historyCanRow : OpenClaim := { program := "ytlodaffiamegpaa", sum := "8b5bbd5e2b26c2fae8fdeac373361910cd9e68a7c401d758f4b1b0f0a42b05ba", func := "glacier/glacierlaw18.HistoryCan", spec := "historyCan", recurses := true, apart := false }
def HistoryCanSaid : Prop := historyCanRow.holds Try.pinned (OpenSpec.ofChange historyCanSpec)

/-- ITS FALSE NEIGHBOUR: 'it returns false'. Refute it at one input. -/
def historyCanWrong : ChangeSpec := { name := "historyCan", fn := fun _ => fun
  | [d1, d2, d3, d4, d5] => { results := [.lit (.bool false)], args := [d1, d2, d3, d4, d5] }
  | _ => none }
def HistoryCanWrongFalsely : Prop := historyCanRow.holds Try.pinned (OpenSpec.ofChange historyCanWrong)

/-- 'glacierlaw18.HistoryStale': WHATEVER THE INPUT: true; the input reads as it did. -/
def historyStaleSpec : ChangeSpec := { name := "historyStale", fn := fun _ => fun
  | [d1, d2, d3] => { results := [.lit (.bool true)], args := [d1, d2, d3] }
  | _ => none }
def historyStaleRow : OpenClaim := { program := "ytlodaffiamegpaa", sum := "8b5bbd5e2b26c2fae8fdeac373361910cd9e68a7c401d758f4b1b0f0a42b05ba", func := "glacier/glacierlaw18.HistoryStale", spec := "historyStale", recurses := true, apart := false }
def HistoryStaleSaid : Prop := historyStaleRow.holds Try.pinned (OpenSpec.ofChange historyStaleSpec)

/-- ITS FALSE NEIGHBOUR: 'it returns false'. Refute it at one input. -/
def historyStaleWrong : ChangeSpec := { name := "historyStale", fn := fun _ => fun
  | [d1, d2, d3] => { results := [.lit (.bool false)], args := [d1, d2, d3] }
  | _ => none }
def HistoryStaleWrongFalsely : Prop := historyStaleRow.holds Try.pinned (OpenSpec.ofChange historyStaleWrong)

/-- 'glacierlaw18.HistoryTurned': WHATEVER THE INPUT: true; the input reads as it did. -/
def historyTurnedSpec : ChangeSpec := { name := "historyTurned", fn := fun _ => fun
  | [d1, d2] => { results := [.lit (.bool true)], args := [d1, d2] }
  | _ => none }
def historyTurnedRow : OpenClaim := { program := "ytlodaffiamegpaa", sum := "8b5bbd5e2b26c2fae8fdeac373361910cd9e68a7c401d758f4b1b0f0a42b05ba", func := "glacier/glacierlaw18.HistoryTurned", spec := "historyTurned", recurses := true, apart := false }
def HistoryTurnedSaid : Prop := historyTurnedRow.holds Try.pinned (OpenSpec.ofChange historyTurnedSpec)

/-- ITS FALSE NEIGHBOUR: 'it returns false'. Refute it at one input. -/
def historyTurnedWrong : ChangeSpec := { name := "historyTurned", fn := fun _ => fun
  | [d1, d2] => { results := [.lit (.bool false)], args := [d1, d2] }
  | _ => none }
def HistoryTurnedWrongFalsely : Prop := historyTurnedRow.holds Try.pinned (OpenSpec.ofChange historyTurnedWrong)

/-- 'glacierlaw18.HistoryReads': WHATEVER THE INPUT: true; the input reads as it did. -/
def historyReadsSpec : ChangeSpec := { name := "historyReads", fn := fun _ => fun
  | [d1, d2] => { results := [.lit (.bool true)], args := [d1, d2] }
  | _ => none }
def historyReadsRow : OpenClaim := { program := "ytlodaffiamegpaa", sum := "8b5bbd5e2b26c2fae8fdeac373361910cd9e68a7c401d758f4b1b0f0a42b05ba", func := "glacier/glacierlaw18.HistoryReads", spec := "historyReads", recurses := true, apart := false }
def HistoryReadsSaid : Prop := historyReadsRow.holds Try.pinned (OpenSpec.ofChange historyReadsSpec)

/-- ITS FALSE NEIGHBOUR: 'it returns false'. Refute it at one input. -/
def historyReadsWrong : ChangeSpec := { name := "historyReads", fn := fun _ => fun
  | [d1, d2] => { results := [.lit (.bool false)], args := [d1, d2] }
  | _ => none }
def HistoryReadsWrongFalsely : Prop := historyReadsRow.holds Try.pinned (OpenSpec.ofChange historyReadsWrong)

/-- 'glacierlaw18.HistoryWide': WHATEVER THE INPUT: true; the input reads as it did. -/
def historyWideSpec : ChangeSpec := { name := "historyWide", fn := fun _ => fun
  | [d1, d2, d3, d4] => { results := [.lit (.bool true)], args := [d1, d2, d3, d4] }
  | _ => none }
def historyWideRow : OpenClaim := { program := "ytlodaffiamegpaa", sum := "8b5bbd5e2b26c2fae8fdeac373361910cd9e68a7c401d758f4b1b0f0a42b05ba", func := "glacier/glacierlaw18.HistoryWide", spec := "historyWide", recurses := true, apart := false }
def HistoryWideSaid : Prop := historyWideRow.holds Try.pinned (OpenSpec.ofChange historyWideSpec)

/-- ITS FALSE NEIGHBOUR: 'it returns false'. Refute it at one input. -/
def historyWideWrong : ChangeSpec := { name := "historyWide", fn := fun _ => fun
  | [d1, d2, d3, d4] => { results := [.lit (.bool false)], args := [d1, d2, d3, d4] }
  | _ => none }
def HistoryWideWrongFalsely : Prop := historyWideRow.holds Try.pinned (OpenSpec.ofChange historyWideWrong)

/- THE SECOND FORM. 'bulk': how many values and letters a reading holds, each counted each time it is reached (what is shared counts as often as it is met; a slice's spare places count too). A statement '..UptoSaid' is the law's where the arguments, and the package variables that the reading takes, are together of bulk at most 1048576: NARROWER than '..Said'. Prove '..Said' where nothing that the law and all that it calls make is longer than what came in: it says more and counts as full. Else prove '..UptoSaid'. A law counts once. -/
mutual
def uptoBulk {H : Type} : DataW H → Nat
  | .lit (.string bytes) => bytes.length + 1
  | .lit _ => 1
  | .nil => 1
  | .ptr d => uptoBulk d + 1
  | .slice elems spare => uptoBulkAll elems + uptoBulkAll spare + 1
  | .agg parts => uptoBulkAll parts + 1
  | .iface _ d => uptoBulk d + 1
  | .map entries => uptoBulkEntries entries + 1
  | .held _ => 1
def uptoBulkAll {H : Type} : List (DataW H) → Nat
  | [] => 0
  | d :: r => uptoBulk d + uptoBulkAll r
def uptoBulkEntries {H : Type} : List (Lit × DataW H) → Nat
  | [] => 0
  | x :: r => uptoBulkEntry x + uptoBulkEntries r
def uptoBulkEntry {H : Type} : Lit × DataW H → Nat
  | (.string bytes, d) => bytes.length + uptoBulk d + 1
  | (_, d) => uptoBulk d + 1
 end
def uptoSmall : (H : Type) → List (DataW H) → Bool := fun _ ds => decide (uptoBulkAll ds ≤ 1048576)
def OpenSpec.upto (s : _root_.Go.ChangeSpec) : _root_.Go.OpenSpec := { _root_.Go.OpenSpec.ofChange s with cond := some uptoSmall }

/-- 'glacierlaw18.HistoryChecks', WHERE WHAT IT READS IS OF BULK AT MOST 1048576: true; the input reads as it did. -/
def historyChecksUptoRow : OpenClaim := { program := "ytlodaffiamegpaa", sum := "8b5bbd5e2b26c2fae8fdeac373361910cd9e68a7c401d758f4b1b0f0a42b05ba", func := "glacier/glacierlaw18.HistoryChecks", spec := "historyChecks", recurses := true, apart := false, narrowed := true }
def HistoryChecksUptoSaid : Prop := historyChecksUptoRow.holds Try.pinned (OpenSpec.upto historyChecksSpec)

/-- 'glacierlaw18.HistoryArgs', WHERE WHAT IT READS IS OF BULK AT MOST 1048576: true; the input reads as it did. -/
def historyArgsUptoRow : OpenClaim := { program := "ytlodaffiamegpaa", sum := "8b5bbd5e2b26c2fae8fdeac373361910cd9e68a7c401d758f4b1b0f0a42b05ba", func := "glacier/glacierlaw18.HistoryArgs", spec := "historyArgs", recurses := true, apart := false, narrowed := true }
def HistoryArgsUptoSaid : Prop := historyArgsUptoRow.holds Try.pinned (OpenSpec.upto historyArgsSpec)

/-- 'glacierlaw18.HistoryCan', WHERE WHAT IT READS IS OF BULK AT MOST 1048576: true; the input reads as it did. -/
def historyCanUptoRow : OpenClaim := { program := "ytlodaffiamegpaa", sum := "8b5bbd5e2b26c2fae8fdeac373361910cd9e68a7c401d758f4b1b0f0a42b05ba", func := "glacier/glacierlaw18.HistoryCan", spec := "historyCan", recurses := true, apart := false, narrowed := true }
def HistoryCanUptoSaid : Prop := historyCanUptoRow.holds Try.pinned (OpenSpec.upto historyCanSpec)

/-- 'glacierlaw18.HistoryStale', WHERE WHAT IT READS IS OF BULK AT MOST 1048576: true; the input reads as it did. -/
def historyStaleUptoRow : OpenClaim := { program := "ytlodaffiamegpaa", sum := "8b5bbd5e2b26c2fae8fdeac373361910cd9e68a7c401d758f4b1b0f0a42b05ba", func := "glacier/glacierlaw18.HistoryStale", spec := "historyStale", recurses := true, apart := false, narrowed := true }
def HistoryStaleUptoSaid : Prop := historyStaleUptoRow.holds Try.pinned (OpenSpec.upto historyStaleSpec)

/-- 'glacierlaw18.HistoryTurned', WHERE WHAT IT READS IS OF BULK AT MOST 1048576: true; the input reads as it did. -/
def historyTurnedUptoRow : OpenClaim := { program := "ytlodaffiamegpaa", sum := "8b5bbd5e2b26c2fae8fdeac373361910cd9e68a7c401d758f4b1b0f0a42b05ba", func := "glacier/glacierlaw18.HistoryTurned", spec := "historyTurned", recurses := true, apart := false, narrowed := true }
def HistoryTurnedUptoSaid : Prop := historyTurnedUptoRow.holds Try.pinned (OpenSpec.upto historyTurnedSpec)

/-- 'glacierlaw18.HistoryReads', WHERE WHAT IT READS IS OF BULK AT MOST 1048576: true; the input reads as it did. -/
def historyReadsUptoRow : OpenClaim := { program := "ytlodaffiamegpaa", sum := "8b5bbd5e2b26c2fae8fdeac373361910cd9e68a7c401d758f4b1b0f0a42b05ba", func := "glacier/glacierlaw18.HistoryReads", spec := "historyReads", recurses := true, apart := false, narrowed := true }
def HistoryReadsUptoSaid : Prop := historyReadsUptoRow.holds Try.pinned (OpenSpec.upto historyReadsSpec)

/-- 'glacierlaw18.HistoryWide', WHERE WHAT IT READS IS OF BULK AT MOST 1048576: true; the input reads as it did. -/
def historyWideUptoRow : OpenClaim := { program := "ytlodaffiamegpaa", sum := "8b5bbd5e2b26c2fae8fdeac373361910cd9e68a7c401d758f4b1b0f0a42b05ba", func := "glacier/glacierlaw18.HistoryWide", spec := "historyWide", recurses := true, apart := false, narrowed := true }
def HistoryWideUptoSaid : Prop := historyWideUptoRow.holds Try.pinned (OpenSpec.upto historyWideSpec)

end Rows
end Go.Proofs.Ytlodaffiamegpaa
