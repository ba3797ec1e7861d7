/-
  DERIVED. GIVEN WITH THE SEED: THE CARDS: each row of YthphehfgekjooaaGreatDoorRows.lean that lists a variable, with what it lists TIED to the program's text (the seventh form; the later family's looks); each row that meets fmt, with fmt's text TOLD by the authors' own Lean function (tested against real Go, not proved from fmt's source: count such statements apart). THE CARD IS WHAT COUNTS. Prove the row's statement (the work); the ties are given (YthphehfgekjooaaGreatDoorTie.lean); close each card by the builder's one call (the guide's Derived/Test/ToyasCard.lean, 'card_holds'). Laid BY PROGRAM, IN A SANDBOX (cutbox-door.mjs). By AI agents, Wed Nov 11 2026. No macro, syntax, notation, axiom, sorry.
-/
import Derived.Test.YthphehfgekjooaaGreatDoorRows
import GoSem.ClaimSeven
namespace Go.Proofs.YthphehfgekjooaaGreatDoor
namespace Rows

/-- THE TIED CARD OF 'wreckagelaw12.SampleAccepted'. -/
def sampleAcceptedCard : Claim7 := { stood := { row := sampleAcceptedRow, standIns := [], harness := (true, "af15c9eee4f2baf53b14303d9ee6e1d815a05d7d131f1ffda3ad55b869bfdca5"), looks := true }, kinds := [], alts := [], laidByText := true, laidKinds := [.data, .data, .data, .data, .sentinel, .sentinel, .listed, .data, .pinned], laidTests := true, laidLooks := .later }
def SampleAcceptedCardSaid : Prop := Claim7.holds Tryz.pinned (.plain (OpenSpec.ofChange sampleAcceptedSpec)) sampleAcceptedCard

/-- THE SECOND FORM's CARD OF 'wreckagelaw12.SampleAccepted'. -/
def sampleAcceptedUptoCard : Claim7 := { stood := { row := sampleAcceptedUptoRow, standIns := [], harness := (true, "af15c9eee4f2baf53b14303d9ee6e1d815a05d7d131f1ffda3ad55b869bfdca5"), looks := true }, kinds := [], alts := [], laidByText := true, laidKinds := [.data, .data, .data, .data, .sentinel, .sentinel, .listed, .data, .pinned], laidTests := true, laidLooks := .later }
def SampleAcceptedUptoCardSaid : Prop := Claim7.holds Tryz.pinned (.plain (OpenSpec.upto sampleAcceptedSpec)) sampleAcceptedUptoCard
end Rows
end Go.Proofs.YthphehfgekjooaaGreatDoor
