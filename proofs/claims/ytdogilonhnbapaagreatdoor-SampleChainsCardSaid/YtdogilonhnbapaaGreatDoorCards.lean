/-
  DERIVED. GIVEN WITH THE SEED: THE CARDS: each row of YtdogilonhnbapaaGreatDoorRows.lean that lists a variable, with what it lists TIED to the program's text (the seventh form; the later family's looks); each row that meets fmt, with fmt's text TOLD by the authors' own Lean function (tested against real Go, not proved from fmt's source: count such statements apart). THE CARD IS WHAT COUNTS. Prove the row's statement (the work); the ties are given (YtdogilonhnbapaaGreatDoorTie.lean); close each card by the builder's one call (the guide's Derived/Test/ToyasCard.lean, 'card_holds'). Laid BY PROGRAM, IN A SANDBOX (cutbox-door.mjs). By AI agents, Wed Nov 11 2026. No macro, syntax, notation, axiom, sorry.
-/
import Derived.Test.YtdogilonhnbapaaGreatDoorRows
import GoSem.ClaimSeven
namespace Go.Proofs.YtdogilonhnbapaaGreatDoor
namespace Rows

/-- THE TIED CARD OF 'wreckagelaw12.SampleChains'. -/
def sampleChainsCard : Claim7 := { stood := { row := sampleChainsRow, standIns := [], harness := (true, "59b51cd69eb9f9052c77dabec81ac23341027a34e5ec9a8b8da47671c14a8a6d"), looks := true }, kinds := [], alts := [], laidByText := true, laidKinds := [.data, .data, .data, .data, .sentinel, .sentinel, .listed, .data, .pinned], laidTests := true, laidLooks := .later }
def SampleChainsCardSaid : Prop := Claim7.holds Tryz.pinned (.plain (OpenSpec.ofChange sampleChainsSpec)) sampleChainsCard

/-- THE SECOND FORM's CARD OF 'wreckagelaw12.SampleChains'. -/
def sampleChainsUptoCard : Claim7 := { stood := { row := sampleChainsUptoRow, standIns := [], harness := (true, "59b51cd69eb9f9052c77dabec81ac23341027a34e5ec9a8b8da47671c14a8a6d"), looks := true }, kinds := [], alts := [], laidByText := true, laidKinds := [.data, .data, .data, .data, .sentinel, .sentinel, .listed, .data, .pinned], laidTests := true, laidLooks := .later }
def SampleChainsUptoCardSaid : Prop := Claim7.holds Tryz.pinned (.plain (OpenSpec.upto sampleChainsSpec)) sampleChainsUptoCard
end Rows
end Go.Proofs.YtdogilonhnbapaaGreatDoor
