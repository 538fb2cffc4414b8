/-
  No cell of these rows narrows 'for every input' (looked for: loops, veiled, ifaces, maps, wideKeys, modest, calm, conditions, laid).
  DERIVED. THE GIVEN ROWS OF THIS SEAT. 6 by the template 'for every input the law returns true; each argument reads behind the call as it read before'; 0 by the template 'total and deterministic' (their statements: YtimjipcplmnpbaaGreatTotals.lean).
  GIVEN WITH THE SEED: the statements are not yours to turn. If you find one false, say at which input.
  Laid BY PROGRAM, IN A SANDBOX (cutbox-rows.mjs): the forced cells as the released guide's own fill.sh prints them over the translation a35b62434f58a565… (all of the seat's roots in one cut). By AI agents, Wed Nov 11 2026. No macro, syntax, notation, axiom, sorry.
-/
import Derived.Test.YtimjipcplmnpbaaGreatChecked
import GoSem.Claim
import GoSem.ClaimJoined
import GoSem.ClaimMapViews
import Derived.JoinedTies
import Derived.KernelRfl
namespace Go.Proofs.YtimjipcplmnpbaaGreat
/- THE CELL 'sum', in the pinned program and in every row, IS THE sha256 OF THE DUMP (.gsa) THAT YtimjipcplmnpbaaGreatProg.lean LOADS. Nothing in Lean hashes anything: it is a label: what it is worth is what the hold of that sum in a sandbox is worth. -/
noncomputable def Tryz.pinned : Pinned := { name := "ytimjipcplmnpbaagreat", sum := "a35b62434f58a5650eb90055133af0902af708e59b858891fc82f5768906f350", checked := Tryz.checked }
namespace Rows
def none {H : Type} : Left H := { results := [], args := [] }

/-- 'glacierlaw14.SessionSeq': WHATEVER THE INPUT: true; the input reads as it did. -/
def sessionSeqSpec : ChangeSpec := { name := "sessionSeq", fn := fun _ => fun
  | [d] => { results := [.lit (.bool true)], args := [d] }
  | _ => none }
def sessionSeqRow : OpenClaim := { program := "ytimjipcplmnpbaagreat", sum := "a35b62434f58a5650eb90055133af0902af708e59b858891fc82f5768906f350", func := "glacier/glacierlaw14.SessionSeq", spec := "sessionSeq", unfollowed := true, recurses := true, apart := false }
def SessionSeqSaid : Prop := sessionSeqRow.holds Tryz.pinned (OpenSpec.ofChange sessionSeqSpec)

/-- ITS FALSE NEIGHBOUR: 'it returns false'. Refute it at one input. -/
def sessionSeqWrong : ChangeSpec := { name := "sessionSeq", fn := fun _ => fun
  | [d] => { results := [.lit (.bool false)], args := [d] }
  | _ => none }
def SessionSeqWrongFalsely : Prop := sessionSeqRow.holds Tryz.pinned (OpenSpec.ofChange sessionSeqWrong)

/-- 'glacierlaw14.SessionNames': WHATEVER THE INPUT: true; the input reads as it did. -/
def sessionNamesSpec : ChangeSpec := { name := "sessionNames", fn := fun _ => fun
  | [d1, d2] => { results := [.lit (.bool true)], args := [d1, d2] }
  | _ => none }
def sessionNamesRow : OpenClaim := { program := "ytimjipcplmnpbaagreat", sum := "a35b62434f58a5650eb90055133af0902af708e59b858891fc82f5768906f350", func := "glacier/glacierlaw14.SessionNames", spec := "sessionNames", unfollowed := true, recurses := true, apart := false }
def SessionNamesSaid : Prop := sessionNamesRow.holds Tryz.pinned (OpenSpec.ofChange sessionNamesSpec)

/-- ITS FALSE NEIGHBOUR: 'it returns false'. Refute it at one input. -/
def sessionNamesWrong : ChangeSpec := { name := "sessionNames", fn := fun _ => fun
  | [d1, d2] => { results := [.lit (.bool false)], args := [d1, d2] }
  | _ => none }
def SessionNamesWrongFalsely : Prop := sessionNamesRow.holds Tryz.pinned (OpenSpec.ofChange sessionNamesWrong)

/-- 'glacierlaw14.SessionOnce': WHATEVER THE INPUT: true; the input reads as it did. -/
def sessionOnceSpec : ChangeSpec := { name := "sessionOnce", fn := fun _ => fun
  | [d1, d2] => { results := [.lit (.bool true)], args := [d1, d2] }
  | _ => none }
def sessionOnceRow : OpenClaim := { program := "ytimjipcplmnpbaagreat", sum := "a35b62434f58a5650eb90055133af0902af708e59b858891fc82f5768906f350", func := "glacier/glacierlaw14.SessionOnce", spec := "sessionOnce", unfollowed := true, recurses := true, apart := false }
def SessionOnceSaid : Prop := sessionOnceRow.holds Tryz.pinned (OpenSpec.ofChange sessionOnceSpec)

/-- ITS FALSE NEIGHBOUR: 'it returns false'. Refute it at one input. -/
def sessionOnceWrong : ChangeSpec := { name := "sessionOnce", fn := fun _ => fun
  | [d1, d2] => { results := [.lit (.bool false)], args := [d1, d2] }
  | _ => none }
def SessionOnceWrongFalsely : Prop := sessionOnceRow.holds Tryz.pinned (OpenSpec.ofChange sessionOnceWrong)

/-- 'glacierlaw14.SessionSame': WHATEVER THE INPUT: true; the input reads as it did. -/
def sessionSameSpec : ChangeSpec := { name := "sessionSame", fn := fun _ => fun
  | [d] => { results := [.lit (.bool true)], args := [d] }
  | _ => none }
def sessionSameRow : OpenClaim := { program := "ytimjipcplmnpbaagreat", sum := "a35b62434f58a5650eb90055133af0902af708e59b858891fc82f5768906f350", func := "glacier/glacierlaw14.SessionSame", spec := "sessionSame", unfollowed := true, recurses := true, apart := false }
def SessionSameSaid : Prop := sessionSameRow.holds Tryz.pinned (OpenSpec.ofChange sessionSameSpec)

/-- ITS FALSE NEIGHBOUR: 'it returns false'. Refute it at one input. -/
def sessionSameWrong : ChangeSpec := { name := "sessionSame", fn := fun _ => fun
  | [d] => { results := [.lit (.bool false)], args := [d] }
  | _ => none }
def SessionSameWrongFalsely : Prop := sessionSameRow.holds Tryz.pinned (OpenSpec.ofChange sessionSameWrong)

/-- 'glacierlaw14.SessionReads': WHATEVER THE INPUT: true; the input reads as it did. -/
def sessionReadsSpec : ChangeSpec := { name := "sessionReads", fn := fun _ => fun
  | [d] => { results := [.lit (.bool true)], args := [d] }
  | _ => none }
def sessionReadsRow : OpenClaim := { program := "ytimjipcplmnpbaagreat", sum := "a35b62434f58a5650eb90055133af0902af708e59b858891fc82f5768906f350", func := "glacier/glacierlaw14.SessionReads", spec := "sessionReads", unfollowed := true, recurses := true, apart := false }
def SessionReadsSaid : Prop := sessionReadsRow.holds Tryz.pinned (OpenSpec.ofChange sessionReadsSpec)

/-- ITS FALSE NEIGHBOUR: 'it returns false'. Refute it at one input. -/
def sessionReadsWrong : ChangeSpec := { name := "sessionReads", fn := fun _ => fun
  | [d] => { results := [.lit (.bool false)], args := [d] }
  | _ => none }
def SessionReadsWrongFalsely : Prop := sessionReadsRow.holds Tryz.pinned (OpenSpec.ofChange sessionReadsWrong)

/-- 'glacierlaw14.SessionBack': WHATEVER THE INPUT: true; the input reads as it did. -/
def sessionBackSpec : ChangeSpec := { name := "sessionBack", fn := fun _ => fun
  | [d1, d2] => { results := [.lit (.bool true)], args := [d1, d2] }
  | _ => none }
def sessionBackRow : OpenClaim := { program := "ytimjipcplmnpbaagreat", sum := "a35b62434f58a5650eb90055133af0902af708e59b858891fc82f5768906f350", func := "glacier/glacierlaw14.SessionBack", spec := "sessionBack", unfollowed := true, recurses := true, apart := false }
def SessionBackSaid : Prop := sessionBackRow.holds Tryz.pinned (OpenSpec.ofChange sessionBackSpec)

/-- ITS FALSE NEIGHBOUR: 'it returns false'. Refute it at one input. -/
def sessionBackWrong : ChangeSpec := { name := "sessionBack", fn := fun _ => fun
  | [d1, d2] => { results := [.lit (.bool false)], args := [d1, d2] }
  | _ => none }
def SessionBackWrongFalsely : Prop := sessionBackRow.holds Tryz.pinned (OpenSpec.ofChange sessionBackWrong)

/- THE SECOND FORM. 'bulk': how many values and letters a reading holds, each counted each time it is reached (what is shared counts as often as it is met; a slice's spare places count too). A statement '..UptoSaid' is the law's where the arguments, and the package variables that the reading takes, are together of bulk at most 1048576: NARROWER than '..Said'. Prove '..Said' where nothing that the law and all that it calls make is longer than what came in: it says more and counts as full. Else prove '..UptoSaid'. A law counts once. -/
mutual
def uptoBulk {H : Type} : DataW H → Nat
  | .lit (.string bytes) => bytes.length + 1
  | .lit _ => 1
  | .nil => 1
  | .ptr d => uptoBulk d + 1
  | .slice elems spare => uptoBulkAll elems + uptoBulkAll spare + 1
  | .agg parts => uptoBulkAll parts + 1
  | .iface _ d => uptoBulk d + 1
  | .map entries => uptoBulkEntries entries + 1
  | .held _ => 1
def uptoBulkAll {H : Type} : List (DataW H) → Nat
  | [] => 0
  | d :: r => uptoBulk d + uptoBulkAll r
def uptoBulkEntries {H : Type} : List (Lit × DataW H) → Nat
  | [] => 0
  | x :: r => uptoBulkEntry x + uptoBulkEntries r
def uptoBulkEntry {H : Type} : Lit × DataW H → Nat
  | (.string bytes, d) => bytes.length + uptoBulk d + 1
  | (_, d) => uptoBulk d + 1
 end
def uptoSmall : (H : Type) → List (DataW H) → Bool := fun _ ds => decide (uptoBulkAll ds ≤ 1048576)
def OpenSpec.upto (s : _root_.Go.ChangeSpec) : _root_.Go.OpenSpec := { _root_.Go.OpenSpec.ofChange s with cond := some uptoSmall }

/-- 'glacierlaw14.SessionSeq', WHERE WHAT IT READS IS OF BULK AT MOST 1048576: true; the input reads as it did. -/
def sessionSeqUptoRow : OpenClaim := { program := "ytimjipcplmnpbaagreat", sum := "a35b62434f58a5650eb90055133af0902af708e59b858891fc82f5768906f350", func := "glacier/glacierlaw14.SessionSeq", spec := "sessionSeq", unfollowed := true, recurses := true, apart := false, narrowed := true }
def SessionSeqUptoSaid : Prop := sessionSeqUptoRow.holds Tryz.pinned (OpenSpec.upto sessionSeqSpec)

/-- 'glacierlaw14.SessionNames', WHERE WHAT IT READS IS OF BULK AT MOST 1048576: true; the input reads as it did. -/
def sessionNamesUptoRow : OpenClaim := { program := "ytimjipcplmnpbaagreat", sum := "a35b62434f58a5650eb90055133af0902af708e59b858891fc82f5768906f350", func := "glacier/glacierlaw14.SessionNames", spec := "sessionNames", unfollowed := true, recurses := true, apart := false, narrowed := true }
def SessionNamesUptoSaid : Prop := sessionNamesUptoRow.holds Tryz.pinned (OpenSpec.upto sessionNamesSpec)

/-- 'glacierlaw14.SessionOnce', WHERE WHAT IT READS IS OF BULK AT MOST 1048576: true; the input reads as it did. -/
def sessionOnceUptoRow : OpenClaim := { program := "ytimjipcplmnpbaagreat", sum := "a35b62434f58a5650eb90055133af0902af708e59b858891fc82f5768906f350", func := "glacier/glacierlaw14.SessionOnce", spec := "sessionOnce", unfollowed := true, recurses := true, apart := false, narrowed := true }
def SessionOnceUptoSaid : Prop := sessionOnceUptoRow.holds Tryz.pinned (OpenSpec.upto sessionOnceSpec)

/-- 'glacierlaw14.SessionSame', WHERE WHAT IT READS IS OF BULK AT MOST 1048576: true; the input reads as it did. -/
def sessionSameUptoRow : OpenClaim := { program := "ytimjipcplmnpbaagreat", sum := "a35b62434f58a5650eb90055133af0902af708e59b858891fc82f5768906f350", func := "glacier/glacierlaw14.SessionSame", spec := "sessionSame", unfollowed := true, recurses := true, apart := false, narrowed := true }
def SessionSameUptoSaid : Prop := sessionSameUptoRow.holds Tryz.pinned (OpenSpec.upto sessionSameSpec)

/-- 'glacierlaw14.SessionReads', WHERE WHAT IT READS IS OF BULK AT MOST 1048576: true; the input reads as it did. -/
def sessionReadsUptoRow : OpenClaim := { program := "ytimjipcplmnpbaagreat", sum := "a35b62434f58a5650eb90055133af0902af708e59b858891fc82f5768906f350", func := "glacier/glacierlaw14.SessionReads", spec := "sessionReads", unfollowed := true, recurses := true, apart := false, narrowed := true }
def SessionReadsUptoSaid : Prop := sessionReadsUptoRow.holds Tryz.pinned (OpenSpec.upto sessionReadsSpec)

/-- 'glacierlaw14.SessionBack', WHERE WHAT IT READS IS OF BULK AT MOST 1048576: true; the input reads as it did. -/
def sessionBackUptoRow : OpenClaim := { program := "ytimjipcplmnpbaagreat", sum := "a35b62434f58a5650eb90055133af0902af708e59b858891fc82f5768906f350", func := "glacier/glacierlaw14.SessionBack", spec := "sessionBack", unfollowed := true, recurses := true, apart := false, narrowed := true }
def SessionBackUptoSaid : Prop := sessionBackUptoRow.holds Tryz.pinned (OpenSpec.upto sessionBackSpec)

end Rows
end Go.Proofs.YtimjipcplmnpbaaGreat
