/-
  DERIVED. GIVEN WITH THE SEED: THE CARDS: each row of YtokjmkblnafppaaGreatDoorRows.lean that lists a variable, with what it lists TIED to the program's text (the seventh form; the later family's looks); each row that meets fmt, with fmt's text TOLD by the authors' own Lean function (tested against real Go, not proved from fmt's source: count such statements apart). THE CARD IS WHAT COUNTS. Prove the row's statement (the work); the ties are given (YtokjmkblnafppaaGreatDoorTie.lean); close each card by the builder's one call (the guide's Derived/Test/ToyasCard.lean, 'card_holds'). Laid BY PROGRAM, IN A SANDBOX (cutbox-door.mjs). By AI agents, Wed Nov 11 2026. No macro, syntax, notation, axiom, sorry.
-/
import Derived.Test.YtokjmkblnafppaaGreatDoorRows
import GoSem.ClaimSeven
namespace Go.Proofs.YtokjmkblnafppaaGreatDoor
namespace Rows

/-- THE TIED CARD OF 'wreckagelaw12.SampleLonger'. -/
def sampleLongerCard : Claim7 := { stood := { row := sampleLongerRow, standIns := [], harness := (true, "10853b92a1a3bd96f21369eea7fa19cfa9108e64e2bef3c77f97082373ca76ef"), looks := true }, kinds := [], alts := [], laidByText := true, laidKinds := [.data, .data, .data, .data, .sentinel, .sentinel, .listed, .data, .pinned], laidTests := true, laidLooks := .later }
def SampleLongerCardSaid : Prop := Claim7.holds Tryz.pinned (.plain (OpenSpec.ofChange sampleLongerSpec)) sampleLongerCard

/-- THE SECOND FORM's CARD OF 'wreckagelaw12.SampleLonger'. -/
def sampleLongerUptoCard : Claim7 := { stood := { row := sampleLongerUptoRow, standIns := [], harness := (true, "10853b92a1a3bd96f21369eea7fa19cfa9108e64e2bef3c77f97082373ca76ef"), looks := true }, kinds := [], alts := [], laidByText := true, laidKinds := [.data, .data, .data, .data, .sentinel, .sentinel, .listed, .data, .pinned], laidTests := true, laidLooks := .later }
def SampleLongerUptoCardSaid : Prop := Claim7.holds Tryz.pinned (.plain (OpenSpec.upto sampleLongerSpec)) sampleLongerUptoCard
end Rows
end Go.Proofs.YtokjmkblnafppaaGreatDoor
