/-
  DERIVED. GIVEN WITH THE SEED: THE CARDS: each row of YtapodcmjggmgmaaGreatDoorRows.lean that lists a variable, with what it lists TIED to the program's text (the seventh form; the later family's looks); each row that meets fmt, with fmt's text TOLD by the authors' own Lean function (tested against real Go, not proved from fmt's source: count such statements apart). THE CARD IS WHAT COUNTS. Prove the row's statement (the work); the ties are given (YtapodcmjggmgmaaGreatDoorTie.lean); close each card by the builder's one call (the guide's Derived/Test/ToyasCard.lean, 'card_holds'). Laid BY PROGRAM, IN A SANDBOX (cutbox-door.mjs). By AI agents, Wed Nov 11 2026. No macro, syntax, notation, axiom, sorry.
-/
import Derived.Test.YtapodcmjggmgmaaGreatDoorRows
import GoSem.ClaimSeven
namespace Go.Proofs.YtapodcmjggmgmaaGreatDoor
namespace Rows

/-- THE TIED CARD OF 'glaciertop.GlacierRefused'. -/
def glacierRefusedCard : Claim7 := { stood := { row := glacierRefusedRow, standIns := [], harness := (true, "216447b3340323a3bb030c20136ed02f1505e871f57a8fbcef77ed0b839f040f"), looks := false }, kinds := [], alts := [], laidByText := true, laidKinds := [.data, .data, .data, .data], laidTests := true, laidLooks := .later }
def GlacierRefusedCardSaid : Prop := Claim7.holds Tryz.pinned (.plain (OpenSpec.ofChange glacierRefusedSpec)) glacierRefusedCard

/-- THE TIED CARD OF 'glaciertop.GlacierStored'. -/
def glacierStoredCard : Claim7 := { stood := { row := glacierStoredRow, standIns := [], harness := (true, "216447b3340323a3bb030c20136ed02f1505e871f57a8fbcef77ed0b839f040f"), looks := false }, kinds := [], alts := [], laidByText := true, laidKinds := [.data, .data, .data, .data], laidTests := true, laidLooks := .later }
def GlacierStoredCardSaid : Prop := Claim7.holds Tryz.pinned (.plain (OpenSpec.ofChange glacierStoredSpec)) glacierStoredCard

/-- THE SECOND FORM's CARD OF 'glaciertop.GlacierRefused'. -/
def glacierRefusedUptoCard : Claim7 := { stood := { row := glacierRefusedUptoRow, standIns := [], harness := (true, "216447b3340323a3bb030c20136ed02f1505e871f57a8fbcef77ed0b839f040f"), looks := false }, kinds := [], alts := [], laidByText := true, laidKinds := [.data, .data, .data, .data], laidTests := true, laidLooks := .later }
def GlacierRefusedUptoCardSaid : Prop := Claim7.holds Tryz.pinned (.plain (OpenSpec.upto glacierRefusedSpec)) glacierRefusedUptoCard

/-- THE SECOND FORM's CARD OF 'glaciertop.GlacierStored'. -/
def glacierStoredUptoCard : Claim7 := { stood := { row := glacierStoredUptoRow, standIns := [], harness := (true, "216447b3340323a3bb030c20136ed02f1505e871f57a8fbcef77ed0b839f040f"), looks := false }, kinds := [], alts := [], laidByText := true, laidKinds := [.data, .data, .data, .data], laidTests := true, laidLooks := .later }
def GlacierStoredUptoCardSaid : Prop := Claim7.holds Tryz.pinned (.plain (OpenSpec.upto glacierStoredSpec)) glacierStoredUptoCard
end Rows
end Go.Proofs.YtapodcmjggmgmaaGreatDoor
