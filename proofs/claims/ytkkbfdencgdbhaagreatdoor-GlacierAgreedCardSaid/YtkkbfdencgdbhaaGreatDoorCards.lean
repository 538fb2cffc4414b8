/-
  DERIVED. GIVEN WITH THE SEED: THE CARDS: each row of YtkkbfdencgdbhaaGreatDoorRows.lean that lists a variable, with what it lists TIED to the program's text (the seventh form; the later family's looks); each row that meets fmt, with fmt's text TOLD by the authors' own Lean function (tested against real Go, not proved from fmt's source: count such statements apart). THE CARD IS WHAT COUNTS. Prove the row's statement (the work); the ties are given (YtkkbfdencgdbhaaGreatDoorTie.lean); close each card by the builder's one call (the guide's Derived/Test/ToyasCard.lean, 'card_holds'). Laid BY PROGRAM, IN A SANDBOX (cutbox-door.mjs). By AI agents, Wed Nov 11 2026. No macro, syntax, notation, axiom, sorry.
-/
import Derived.Test.YtkkbfdencgdbhaaGreatDoorRows
import GoSem.ClaimSeven
namespace Go.Proofs.YtkkbfdencgdbhaaGreatDoor
namespace Rows

/-- THE TIED CARD OF 'glaciertop.GlacierAgreed'. -/
def glacierAgreedCard : Claim7 := { stood := { row := glacierAgreedRow, standIns := [], harness := (true, "7812575aab52aa1ac17dcd061939462b0eb1c49bc1320124fa3e52dc1a4d27fb"), looks := false }, kinds := [], alts := [], laidByText := true, laidKinds := [.data, .data, .data, .data], laidTests := true, laidLooks := .later }
def GlacierAgreedCardSaid : Prop := Claim7.holds Tryz.pinned (.plain (OpenSpec.ofChange glacierAgreedSpec)) glacierAgreedCard

/-- THE TIED CARD OF 'glaciertop.GlacierSnapped'. -/
def glacierSnappedCard : Claim7 := { stood := { row := glacierSnappedRow, standIns := [], harness := (true, "7812575aab52aa1ac17dcd061939462b0eb1c49bc1320124fa3e52dc1a4d27fb"), looks := false }, kinds := [], alts := [], laidByText := true, laidKinds := [.data, .data, .data, .data], laidTests := true, laidLooks := .later }
def GlacierSnappedCardSaid : Prop := Claim7.holds Tryz.pinned (.plain (OpenSpec.ofChange glacierSnappedSpec)) glacierSnappedCard

/-- THE SECOND FORM's CARD OF 'glaciertop.GlacierAgreed'. -/
def glacierAgreedUptoCard : Claim7 := { stood := { row := glacierAgreedUptoRow, standIns := [], harness := (true, "7812575aab52aa1ac17dcd061939462b0eb1c49bc1320124fa3e52dc1a4d27fb"), looks := false }, kinds := [], alts := [], laidByText := true, laidKinds := [.data, .data, .data, .data], laidTests := true, laidLooks := .later }
def GlacierAgreedUptoCardSaid : Prop := Claim7.holds Tryz.pinned (.plain (OpenSpec.upto glacierAgreedSpec)) glacierAgreedUptoCard

/-- THE SECOND FORM's CARD OF 'glaciertop.GlacierSnapped'. -/
def glacierSnappedUptoCard : Claim7 := { stood := { row := glacierSnappedUptoRow, standIns := [], harness := (true, "7812575aab52aa1ac17dcd061939462b0eb1c49bc1320124fa3e52dc1a4d27fb"), looks := false }, kinds := [], alts := [], laidByText := true, laidKinds := [.data, .data, .data, .data], laidTests := true, laidLooks := .later }
def GlacierSnappedUptoCardSaid : Prop := Claim7.holds Tryz.pinned (.plain (OpenSpec.upto glacierSnappedSpec)) glacierSnappedUptoCard
end Rows
end Go.Proofs.YtkkbfdencgdbhaaGreatDoor
