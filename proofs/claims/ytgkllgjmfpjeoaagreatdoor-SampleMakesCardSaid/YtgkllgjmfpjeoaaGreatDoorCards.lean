/-
  DERIVED. GIVEN WITH THE SEED: THE CARDS: each row of YtgkllgjmfpjeoaaGreatDoorRows.lean that lists a variable, with what it lists TIED to the program's text (the seventh form; the later family's looks); each row that meets fmt, with fmt's text TOLD by the authors' own Lean function (tested against real Go, not proved from fmt's source: count such statements apart). THE CARD IS WHAT COUNTS. Prove the row's statement (the work); the ties are given (YtgkllgjmfpjeoaaGreatDoorTie.lean); close each card by the builder's one call (the guide's Derived/Test/ToyasCard.lean, 'card_holds'). Laid BY PROGRAM, IN A SANDBOX (cutbox-door.mjs). By AI agents, Wed Nov 11 2026. No macro, syntax, notation, axiom, sorry.
-/
import Derived.Test.YtgkllgjmfpjeoaaGreatDoorRows
import GoSem.ClaimSeven
namespace Go.Proofs.YtgkllgjmfpjeoaaGreatDoor
namespace Rows

/-- THE TIED CARD OF 'wreckagelaw12.SampleMakes'. -/
def sampleMakesCard : Claim7 := { stood := { row := sampleMakesRow, standIns := [], harness := (true, "f8b27f90faed1cd721ec8e5829228c05e1e854a0697104638d19318faa377491"), looks := true }, kinds := [], alts := [], laidByText := true, laidKinds := [.data, .data, .data, .data, .sentinel, .sentinel, .listed, .data, .pinned], laidTests := true, laidLooks := .later }
def SampleMakesCardSaid : Prop := Claim7.holds Tryz.pinned (.plain (OpenSpec.ofChange sampleMakesSpec)) sampleMakesCard

/-- THE SECOND FORM's CARD OF 'wreckagelaw12.SampleMakes'. -/
def sampleMakesUptoCard : Claim7 := { stood := { row := sampleMakesUptoRow, standIns := [], harness := (true, "f8b27f90faed1cd721ec8e5829228c05e1e854a0697104638d19318faa377491"), looks := true }, kinds := [], alts := [], laidByText := true, laidKinds := [.data, .data, .data, .data, .sentinel, .sentinel, .listed, .data, .pinned], laidTests := true, laidLooks := .later }
def SampleMakesUptoCardSaid : Prop := Claim7.holds Tryz.pinned (.plain (OpenSpec.upto sampleMakesSpec)) sampleMakesUptoCard
end Rows
end Go.Proofs.YtgkllgjmfpjeoaaGreatDoor
