/-
  DERIVED. GIVEN WITH THE SEED: THE CARDS: each row of YtnhbhdopamdgpaaGreatDoorRows.lean that lists a variable, with what it lists TIED to the program's text (the seventh form; the later family's looks); each row that meets fmt, with fmt's text TOLD by the authors' own Lean function (tested against real Go, not proved from fmt's source: count such statements apart). THE CARD IS WHAT COUNTS. Prove the row's statement (the work); the ties are given (YtnhbhdopamdgpaaGreatDoorTie.lean); close each card by the builder's one call (the guide's Derived/Test/ToyasCard.lean, 'card_holds'). Laid BY PROGRAM, IN A SANDBOX (cutbox-door.mjs). By AI agents, Wed Nov 11 2026. No macro, syntax, notation, axiom, sorry.
-/
import Derived.Test.YtnhbhdopamdgpaaGreatDoorRows
import GoSem.ClaimSeven
namespace Go.Proofs.YtnhbhdopamdgpaaGreatDoor
namespace Rows

/-- THE TIED CARD OF 'wreckagelaw12.SampleChains'. -/
def sampleChainsCard : Claim7 := { stood := { row := sampleChainsRow, standIns := [], harness := (true, "26ade28de5f2febc5b42cbb2030cced691df44afd4457b526c8aab367ae0033f"), looks := true }, kinds := [], alts := [], laidByText := true, laidKinds := [.data, .data, .data, .data, .sentinel, .sentinel, .listed, .data, .pinned], laidTests := true, laidLooks := .later }
def SampleChainsCardSaid : Prop := Claim7.holds Tryz.pinned (.plain (OpenSpec.ofChange sampleChainsSpec)) sampleChainsCard

/-- THE TIED CARD OF 'wreckagelaw12.SampleLonger'. -/
def sampleLongerCard : Claim7 := { stood := { row := sampleLongerRow, standIns := [], harness := (true, "26ade28de5f2febc5b42cbb2030cced691df44afd4457b526c8aab367ae0033f"), looks := true }, kinds := [], alts := [], laidByText := true, laidKinds := [.data, .data, .data, .data, .sentinel, .sentinel, .listed, .data, .pinned], laidTests := true, laidLooks := .later }
def SampleLongerCardSaid : Prop := Claim7.holds Tryz.pinned (.plain (OpenSpec.ofChange sampleLongerSpec)) sampleLongerCard

/-- THE TIED CARD OF 'wreckagelaw12.SampleMakes'. -/
def sampleMakesCard : Claim7 := { stood := { row := sampleMakesRow, standIns := [], harness := (true, "26ade28de5f2febc5b42cbb2030cced691df44afd4457b526c8aab367ae0033f"), looks := true }, kinds := [], alts := [], laidByText := true, laidKinds := [.data, .data, .data, .data, .sentinel, .sentinel, .listed, .data, .pinned], laidTests := true, laidLooks := .later }
def SampleMakesCardSaid : Prop := Claim7.holds Tryz.pinned (.plain (OpenSpec.ofChange sampleMakesSpec)) sampleMakesCard

/-- THE TIED CARD OF 'wreckagelaw12.SampleNames'. -/
def sampleNamesCard : Claim7 := { stood := { row := sampleNamesRow, standIns := [], harness := (true, "26ade28de5f2febc5b42cbb2030cced691df44afd4457b526c8aab367ae0033f"), looks := true }, kinds := [], alts := [], laidByText := true, laidKinds := [.data, .data, .data, .data, .sentinel, .sentinel, .listed, .data, .pinned], laidTests := true, laidLooks := .later }
def SampleNamesCardSaid : Prop := Claim7.holds Tryz.pinned (.plain (OpenSpec.ofChange sampleNamesSpec)) sampleNamesCard

/-- THE TIED CARD OF 'wreckagelaw12.SampleShows'. -/
def sampleShowsCard : Claim7 := { stood := { row := sampleShowsRow, standIns := [], harness := (true, "26ade28de5f2febc5b42cbb2030cced691df44afd4457b526c8aab367ae0033f"), looks := true }, kinds := [], alts := [], laidByText := true, laidKinds := [.data, .data, .data, .data, .sentinel, .sentinel, .listed, .data, .pinned], laidTests := true, laidLooks := .later }
def SampleShowsCardSaid : Prop := Claim7.holds Tryz.pinned (.plain (OpenSpec.ofChange sampleShowsSpec)) sampleShowsCard

/-- THE TIED CARD OF 'wreckagelaw12.SampleAccepted'. -/
def sampleAcceptedCard : Claim7 := { stood := { row := sampleAcceptedRow, standIns := [], harness := (true, "26ade28de5f2febc5b42cbb2030cced691df44afd4457b526c8aab367ae0033f"), looks := true }, kinds := [], alts := [], laidByText := true, laidKinds := [.data, .data, .data, .data, .sentinel, .sentinel, .listed, .data, .pinned], laidTests := true, laidLooks := .later }
def SampleAcceptedCardSaid : Prop := Claim7.holds Tryz.pinned (.plain (OpenSpec.ofChange sampleAcceptedSpec)) sampleAcceptedCard

/-- THE SECOND FORM's CARD OF 'wreckagelaw12.SampleChains'. -/
def sampleChainsUptoCard : Claim7 := { stood := { row := sampleChainsUptoRow, standIns := [], harness := (true, "26ade28de5f2febc5b42cbb2030cced691df44afd4457b526c8aab367ae0033f"), looks := true }, kinds := [], alts := [], laidByText := true, laidKinds := [.data, .data, .data, .data, .sentinel, .sentinel, .listed, .data, .pinned], laidTests := true, laidLooks := .later }
def SampleChainsUptoCardSaid : Prop := Claim7.holds Tryz.pinned (.plain (OpenSpec.upto sampleChainsSpec)) sampleChainsUptoCard

/-- THE SECOND FORM's CARD OF 'wreckagelaw12.SampleLonger'. -/
def sampleLongerUptoCard : Claim7 := { stood := { row := sampleLongerUptoRow, standIns := [], harness := (true, "26ade28de5f2febc5b42cbb2030cced691df44afd4457b526c8aab367ae0033f"), looks := true }, kinds := [], alts := [], laidByText := true, laidKinds := [.data, .data, .data, .data, .sentinel, .sentinel, .listed, .data, .pinned], laidTests := true, laidLooks := .later }
def SampleLongerUptoCardSaid : Prop := Claim7.holds Tryz.pinned (.plain (OpenSpec.upto sampleLongerSpec)) sampleLongerUptoCard

/-- THE SECOND FORM's CARD OF 'wreckagelaw12.SampleMakes'. -/
def sampleMakesUptoCard : Claim7 := { stood := { row := sampleMakesUptoRow, standIns := [], harness := (true, "26ade28de5f2febc5b42cbb2030cced691df44afd4457b526c8aab367ae0033f"), looks := true }, kinds := [], alts := [], laidByText := true, laidKinds := [.data, .data, .data, .data, .sentinel, .sentinel, .listed, .data, .pinned], laidTests := true, laidLooks := .later }
def SampleMakesUptoCardSaid : Prop := Claim7.holds Tryz.pinned (.plain (OpenSpec.upto sampleMakesSpec)) sampleMakesUptoCard

/-- THE SECOND FORM's CARD OF 'wreckagelaw12.SampleNames'. -/
def sampleNamesUptoCard : Claim7 := { stood := { row := sampleNamesUptoRow, standIns := [], harness := (true, "26ade28de5f2febc5b42cbb2030cced691df44afd4457b526c8aab367ae0033f"), looks := true }, kinds := [], alts := [], laidByText := true, laidKinds := [.data, .data, .data, .data, .sentinel, .sentinel, .listed, .data, .pinned], laidTests := true, laidLooks := .later }
def SampleNamesUptoCardSaid : Prop := Claim7.holds Tryz.pinned (.plain (OpenSpec.upto sampleNamesSpec)) sampleNamesUptoCard

/-- THE SECOND FORM's CARD OF 'wreckagelaw12.SampleShows'. -/
def sampleShowsUptoCard : Claim7 := { stood := { row := sampleShowsUptoRow, standIns := [], harness := (true, "26ade28de5f2febc5b42cbb2030cced691df44afd4457b526c8aab367ae0033f"), looks := true }, kinds := [], alts := [], laidByText := true, laidKinds := [.data, .data, .data, .data, .sentinel, .sentinel, .listed, .data, .pinned], laidTests := true, laidLooks := .later }
def SampleShowsUptoCardSaid : Prop := Claim7.holds Tryz.pinned (.plain (OpenSpec.upto sampleShowsSpec)) sampleShowsUptoCard

/-- THE SECOND FORM's CARD OF 'wreckagelaw12.SampleAccepted'. -/
def sampleAcceptedUptoCard : Claim7 := { stood := { row := sampleAcceptedUptoRow, standIns := [], harness := (true, "26ade28de5f2febc5b42cbb2030cced691df44afd4457b526c8aab367ae0033f"), looks := true }, kinds := [], alts := [], laidByText := true, laidKinds := [.data, .data, .data, .data, .sentinel, .sentinel, .listed, .data, .pinned], laidTests := true, laidLooks := .later }
def SampleAcceptedUptoCardSaid : Prop := Claim7.holds Tryz.pinned (.plain (OpenSpec.upto sampleAcceptedSpec)) sampleAcceptedUptoCard
end Rows
end Go.Proofs.YtnhbhdopamdgpaaGreatDoor
