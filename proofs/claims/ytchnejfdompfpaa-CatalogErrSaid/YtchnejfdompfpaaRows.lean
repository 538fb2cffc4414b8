/-
  No cell of these rows narrows 'for every input' (looked for: loops, veiled, ifaces, maps, wideKeys, modest, calm, conditions, laid).
  DERIVED. THE GIVEN ROWS OF THIS SEAT. 4 by the template 'for every input the law returns true; each argument reads behind the call as it read before'; 0 by the template 'total and deterministic' (their statements: YtchnejfdompfpaaTotals.lean).
  GIVEN WITH THE SEED: the statements are not yours to turn. If you find one false, say at which input.
  Laid BY PROGRAM, IN A SANDBOX (cutbox-rows.mjs): the forced cells as the released guide's own fill.sh prints them over the translation 4ba22969b9bbd26f… (all of the seat's roots in one cut). By AI agents, Wed Nov 11 2026. No macro, syntax, notation, axiom, sorry.
-/
import Derived.Test.YtchnejfdompfpaaChecked
import GoSem.Claim
import GoSem.ClaimJoined
import GoSem.ClaimMapViews
import Derived.JoinedTies
import Derived.KernelRfl
namespace Go.Proofs.Ytchnejfdompfpaa
/- THE CELL 'sum', in the pinned program and in every row, IS THE sha256 OF THE DUMP (.gsa) THAT YtchnejfdompfpaaProg.lean LOADS. Nothing in Lean hashes anything: it is a label: what it is worth is what the hold of that sum in a sandbox is worth. -/
noncomputable def Try.pinned : Pinned := { name := "ytchnejfdompfpaa", sum := "4ba22969b9bbd26f3f09029051d15133f186df0102a5acfba08c794bda1046c5", checked := Try.checked }
namespace Rows
def none {H : Type} : Left H := { results := [], args := [] }

/-- 'glacierlaw13.CatalogKept': WHATEVER THE INPUT: true; the input reads as it did. -/
def catalogKeptSpec : ChangeSpec := { name := "catalogKept", fn := fun _ => fun
  | [d] => { results := [.lit (.bool true)], args := [d] }
  | _ => none }
def catalogKeptRow : OpenClaim := { program := "ytchnejfdompfpaa", sum := "4ba22969b9bbd26f3f09029051d15133f186df0102a5acfba08c794bda1046c5", func := "glacier/glacierlaw13.CatalogKept", spec := "catalogKept", unfollowed := true, recurses := true, apart := false }
def CatalogKeptSaid : Prop := catalogKeptRow.holds Try.pinned (OpenSpec.ofChange catalogKeptSpec)

/-- ITS FALSE NEIGHBOUR: 'it returns false'. Refute it at one input. -/
def catalogKeptWrong : ChangeSpec := { name := "catalogKept", fn := fun _ => fun
  | [d] => { results := [.lit (.bool false)], args := [d] }
  | _ => none }
def CatalogKeptWrongFalsely : Prop := catalogKeptRow.holds Try.pinned (OpenSpec.ofChange catalogKeptWrong)

/-- 'glacierlaw13.CatalogPins': WHATEVER THE INPUT: true; the input reads as it did. -/
def catalogPinsSpec : ChangeSpec := { name := "catalogPins", fn := fun _ => fun
  | [d1, d2] => { results := [.lit (.bool true)], args := [d1, d2] }
  | _ => none }
def catalogPinsRow : OpenClaim := { program := "ytchnejfdompfpaa", sum := "4ba22969b9bbd26f3f09029051d15133f186df0102a5acfba08c794bda1046c5", func := "glacier/glacierlaw13.CatalogPins", spec := "catalogPins", unfollowed := true, recurses := true, apart := false }
def CatalogPinsSaid : Prop := catalogPinsRow.holds Try.pinned (OpenSpec.ofChange catalogPinsSpec)

/-- ITS FALSE NEIGHBOUR: 'it returns false'. Refute it at one input. -/
def catalogPinsWrong : ChangeSpec := { name := "catalogPins", fn := fun _ => fun
  | [d1, d2] => { results := [.lit (.bool false)], args := [d1, d2] }
  | _ => none }
def CatalogPinsWrongFalsely : Prop := catalogPinsRow.holds Try.pinned (OpenSpec.ofChange catalogPinsWrong)

/-- 'glacierlaw13.CatalogLive': WHATEVER THE INPUT: true; the input reads as it did. -/
def catalogLiveSpec : ChangeSpec := { name := "catalogLive", fn := fun _ => fun
  | [d1, d2] => { results := [.lit (.bool true)], args := [d1, d2] }
  | _ => none }
def catalogLiveRow : OpenClaim := { program := "ytchnejfdompfpaa", sum := "4ba22969b9bbd26f3f09029051d15133f186df0102a5acfba08c794bda1046c5", func := "glacier/glacierlaw13.CatalogLive", spec := "catalogLive", unfollowed := true, recurses := true, apart := false }
def CatalogLiveSaid : Prop := catalogLiveRow.holds Try.pinned (OpenSpec.ofChange catalogLiveSpec)

/-- ITS FALSE NEIGHBOUR: 'it returns false'. Refute it at one input. -/
def catalogLiveWrong : ChangeSpec := { name := "catalogLive", fn := fun _ => fun
  | [d1, d2] => { results := [.lit (.bool false)], args := [d1, d2] }
  | _ => none }
def CatalogLiveWrongFalsely : Prop := catalogLiveRow.holds Try.pinned (OpenSpec.ofChange catalogLiveWrong)

/-- 'glacierlaw13.CatalogErr': WHATEVER THE INPUT: true; the input reads as it did. -/
def catalogErrSpec : ChangeSpec := { name := "catalogErr", fn := fun _ => fun
  | [d1, d2] => { results := [.lit (.bool true)], args := [d1, d2] }
  | _ => none }
def catalogErrRow : OpenClaim := { program := "ytchnejfdompfpaa", sum := "4ba22969b9bbd26f3f09029051d15133f186df0102a5acfba08c794bda1046c5", func := "glacier/glacierlaw13.CatalogErr", spec := "catalogErr", unfollowed := true, recurses := true, apart := false }
def CatalogErrSaid : Prop := catalogErrRow.holds Try.pinned (OpenSpec.ofChange catalogErrSpec)

/-- ITS FALSE NEIGHBOUR: 'it returns false'. Refute it at one input. -/
def catalogErrWrong : ChangeSpec := { name := "catalogErr", fn := fun _ => fun
  | [d1, d2] => { results := [.lit (.bool false)], args := [d1, d2] }
  | _ => none }
def CatalogErrWrongFalsely : Prop := catalogErrRow.holds Try.pinned (OpenSpec.ofChange catalogErrWrong)

/- THE SECOND FORM. 'bulk': how many values and letters a reading holds, each counted each time it is reached (what is shared counts as often as it is met; a slice's spare places count too). A statement '..UptoSaid' is the law's where the arguments, and the package variables that the reading takes, are together of bulk at most 1048576: NARROWER than '..Said'. Prove '..Said' where nothing that the law and all that it calls make is longer than what came in: it says more and counts as full. Else prove '..UptoSaid'. A law counts once. -/
mutual
def uptoBulk {H : Type} : DataW H → Nat
  | .lit (.string bytes) => bytes.length + 1
  | .lit _ => 1
  | .nil => 1
  | .ptr d => uptoBulk d + 1
  | .slice elems spare => uptoBulkAll elems + uptoBulkAll spare + 1
  | .agg parts => uptoBulkAll parts + 1
  | .iface _ d => uptoBulk d + 1
  | .map entries => uptoBulkEntries entries + 1
  | .held _ => 1
def uptoBulkAll {H : Type} : List (DataW H) → Nat
  | [] => 0
  | d :: r => uptoBulk d + uptoBulkAll r
def uptoBulkEntries {H : Type} : List (Lit × DataW H) → Nat
  | [] => 0
  | x :: r => uptoBulkEntry x + uptoBulkEntries r
def uptoBulkEntry {H : Type} : Lit × DataW H → Nat
  | (.string bytes, d) => bytes.length + uptoBulk d + 1
  | (_, d) => uptoBulk d + 1
 end
def uptoSmall : (H : Type) → List (DataW H) → Bool := fun _ ds => decide (uptoBulkAll ds ≤ 1048576)
def OpenSpec.upto (s : _root_.Go.ChangeSpec) : _root_.Go.OpenSpec := { _root_.Go.OpenSpec.ofChange s with cond := some uptoSmall }

/-- 'glacierlaw13.CatalogKept', WHERE WHAT IT READS IS OF BULK AT MOST 1048576: true; the input reads as it did. -/
def catalogKeptUptoRow : OpenClaim := { program := "ytchnejfdompfpaa", sum := "4ba22969b9bbd26f3f09029051d15133f186df0102a5acfba08c794bda1046c5", func := "glacier/glacierlaw13.CatalogKept", spec := "catalogKept", unfollowed := true, recurses := true, apart := false, narrowed := true }
def CatalogKeptUptoSaid : Prop := catalogKeptUptoRow.holds Try.pinned (OpenSpec.upto catalogKeptSpec)

/-- 'glacierlaw13.CatalogPins', WHERE WHAT IT READS IS OF BULK AT MOST 1048576: true; the input reads as it did. -/
def catalogPinsUptoRow : OpenClaim := { program := "ytchnejfdompfpaa", sum := "4ba22969b9bbd26f3f09029051d15133f186df0102a5acfba08c794bda1046c5", func := "glacier/glacierlaw13.CatalogPins", spec := "catalogPins", unfollowed := true, recurses := true, apart := false, narrowed := true }
def CatalogPinsUptoSaid : Prop := catalogPinsUptoRow.holds Try.pinned (OpenSpec.upto catalogPinsSpec)

/-- 'glacierlaw13.CatalogLive', WHERE WHAT IT READS IS OF BULK AT MOST 1048576: true; the input reads as it did. -/
def catalogLiveUptoRow : OpenClaim := { program := "ytchnejfdompfpaa", sum := "4ba22969b9bbd26f3f09029051d15133f186df0102a5acfba08c794bda1046c5", func := "glacier/glacierlaw13.CatalogLive", spec := "catalogLive", unfollowed := true, recurses := true, apart := false, narrowed := true }
def CatalogLiveUptoSaid : Prop := catalogLiveUptoRow.holds Try.pinned (OpenSpec.upto catalogLiveSpec)

/-- 'glacierlaw13.CatalogErr', WHERE WHAT IT READS IS OF BULK AT MOST 1048576: true; the input reads as it did. -/
def catalogErrUptoRow : OpenClaim := { program := "ytchnejfdompfpaa", sum := "4ba22969b9bbd26f3f09029051d15133f186df0102a5acfba08c794bda1046c5", func := "glacier/glacierlaw13.CatalogErr", spec := "catalogErr", unfollowed := true, recurses := true, apart := false, narrowed := true }
def CatalogErrUptoSaid : Prop := catalogErrUptoRow.holds Try.pinned (OpenSpec.upto catalogErrSpec)

end Rows
end Go.Proofs.Ytchnejfdompfpaa
