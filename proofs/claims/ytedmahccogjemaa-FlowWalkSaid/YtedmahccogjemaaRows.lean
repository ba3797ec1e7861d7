/-
  No cell of these rows narrows 'for every input' (looked for: loops, veiled, ifaces, maps, wideKeys, modest, calm, conditions, laid).
  DERIVED. THE GIVEN ROWS OF THIS SEAT. 7 by the template 'for every input the law returns true; each argument reads behind the call as it read before'; 0 by the template 'total and deterministic' (their statements: YtedmahccogjemaaTotals.lean).
  GIVEN WITH THE SEED: the statements are not yours to turn. If you find one false, say at which input.
  Laid BY PROGRAM, IN A SANDBOX (cutbox-rows.mjs): the forced cells as the released guide's own fill.sh prints them over the translation 82d2abab75599852… (all of the seat's roots in one cut). By AI agents, Wed Nov 11 2026. No macro, syntax, notation, axiom, sorry.
-/
import Derived.Test.YtedmahccogjemaaChecked
import GoSem.Claim
import GoSem.ClaimJoined
import GoSem.ClaimMapViews
import Derived.JoinedTies
import Derived.KernelRfl
namespace Go.Proofs.Ytedmahccogjemaa
/- THE CELL 'sum', in the pinned program and in every row, IS THE sha256 OF THE DUMP (.gsa) THAT YtedmahccogjemaaProg.lean LOADS. Nothing in Lean hashes anything: it is a label: what it is worth is what the hold of that sum in a sandbox is worth. -/
noncomputable def Try.pinned : Pinned := { name := "ytedmahccogjemaa", sum := "82d2abab75599852339c1252e44179fb989faa357fc09ef6947815432dda11e1", checked := Try.checked }
namespace Rows
def none {H : Type} : Left H := { results := [], args := [] }

/-- 'wreckagelaw07.FlowNexts': WHATEVER THE INPUT: true; the input reads as it did. -/
def flowNextsSpec : ChangeSpec := { name := "flowNexts", fn := fun _ => fun
  | [d1, d2] => { results := [.lit (.bool true)], args := [d1, d2] }
  | _ => none }
def flowNextsRow : OpenClaim := { program := "ytedmahccogjemaa", sum := "82d2abab75599852339c1252e44179fb989faa357fc09ef6947815432dda11e1", func := "wreckage/wreckagelaw07.FlowNexts", spec := "flowNexts", unfollowed := true, recurses := true, apart := false }
def FlowNextsSaid : Prop := flowNextsRow.holds Try.pinned (OpenSpec.ofChange flowNextsSpec)

/-- ITS FALSE NEIGHBOUR: 'it returns false'. Refute it at one input. -/
def flowNextsWrong : ChangeSpec := { name := "flowNexts", fn := fun _ => fun
  | [d1, d2] => { results := [.lit (.bool false)], args := [d1, d2] }
  | _ => none }
def FlowNextsWrongFalsely : Prop := flowNextsRow.holds Try.pinned (OpenSpec.ofChange flowNextsWrong)

/-- 'wreckagelaw07.FlowGreatest': WHATEVER THE INPUT: true; the input reads as it did. -/
def flowGreatestSpec : ChangeSpec := { name := "flowGreatest", fn := fun _ => fun
  | [d1, d2, d3, d4] => { results := [.lit (.bool true)], args := [d1, d2, d3, d4] }
  | _ => none }
def flowGreatestRow : OpenClaim := { program := "ytedmahccogjemaa", sum := "82d2abab75599852339c1252e44179fb989faa357fc09ef6947815432dda11e1", func := "wreckage/wreckagelaw07.FlowGreatest", spec := "flowGreatest", unfollowed := true, recurses := true, apart := false }
def FlowGreatestSaid : Prop := flowGreatestRow.holds Try.pinned (OpenSpec.ofChange flowGreatestSpec)

/-- ITS FALSE NEIGHBOUR: 'it returns false'. Refute it at one input. -/
def flowGreatestWrong : ChangeSpec := { name := "flowGreatest", fn := fun _ => fun
  | [d1, d2, d3, d4] => { results := [.lit (.bool false)], args := [d1, d2, d3, d4] }
  | _ => none }
def FlowGreatestWrongFalsely : Prop := flowGreatestRow.holds Try.pinned (OpenSpec.ofChange flowGreatestWrong)

/-- 'wreckagelaw07.FlowReached': WHATEVER THE INPUT: true; the input reads as it did. -/
def flowReachedSpec : ChangeSpec := { name := "flowReached", fn := fun _ => fun
  | [d] => { results := [.lit (.bool true)], args := [d] }
  | _ => none }
def flowReachedRow : OpenClaim := { program := "ytedmahccogjemaa", sum := "82d2abab75599852339c1252e44179fb989faa357fc09ef6947815432dda11e1", func := "wreckage/wreckagelaw07.FlowReached", spec := "flowReached", unfollowed := true, recurses := true, apart := false }
def FlowReachedSaid : Prop := flowReachedRow.holds Try.pinned (OpenSpec.ofChange flowReachedSpec)

/-- ITS FALSE NEIGHBOUR: 'it returns false'. Refute it at one input. -/
def flowReachedWrong : ChangeSpec := { name := "flowReached", fn := fun _ => fun
  | [d] => { results := [.lit (.bool false)], args := [d] }
  | _ => none }
def FlowReachedWrongFalsely : Prop := flowReachedRow.holds Try.pinned (OpenSpec.ofChange flowReachedWrong)

/-- 'wreckagelaw07.FlowMasks': WHATEVER THE INPUT: true; the input reads as it did. -/
def flowMasksSpec : ChangeSpec := { name := "flowMasks", fn := fun _ => fun
  | [d1, d2, d3, d4] => { results := [.lit (.bool true)], args := [d1, d2, d3, d4] }
  | _ => none }
def flowMasksRow : OpenClaim := { program := "ytedmahccogjemaa", sum := "82d2abab75599852339c1252e44179fb989faa357fc09ef6947815432dda11e1", func := "wreckage/wreckagelaw07.FlowMasks", spec := "flowMasks", unfollowed := true, recurses := true, apart := false }
def FlowMasksSaid : Prop := flowMasksRow.holds Try.pinned (OpenSpec.ofChange flowMasksSpec)

/-- ITS FALSE NEIGHBOUR: 'it returns false'. Refute it at one input. -/
def flowMasksWrong : ChangeSpec := { name := "flowMasks", fn := fun _ => fun
  | [d1, d2, d3, d4] => { results := [.lit (.bool false)], args := [d1, d2, d3, d4] }
  | _ => none }
def FlowMasksWrongFalsely : Prop := flowMasksRow.holds Try.pinned (OpenSpec.ofChange flowMasksWrong)

/-- 'wreckagelaw07.FlowDepths': WHATEVER THE INPUT: true; the input reads as it did. -/
def flowDepthsSpec : ChangeSpec := { name := "flowDepths", fn := fun _ => fun
  | [d1, d2, d3] => { results := [.lit (.bool true)], args := [d1, d2, d3] }
  | _ => none }
def flowDepthsRow : OpenClaim := { program := "ytedmahccogjemaa", sum := "82d2abab75599852339c1252e44179fb989faa357fc09ef6947815432dda11e1", func := "wreckage/wreckagelaw07.FlowDepths", spec := "flowDepths", unfollowed := true, recurses := true, apart := false }
def FlowDepthsSaid : Prop := flowDepthsRow.holds Try.pinned (OpenSpec.ofChange flowDepthsSpec)

/-- ITS FALSE NEIGHBOUR: 'it returns false'. Refute it at one input. -/
def flowDepthsWrong : ChangeSpec := { name := "flowDepths", fn := fun _ => fun
  | [d1, d2, d3] => { results := [.lit (.bool false)], args := [d1, d2, d3] }
  | _ => none }
def FlowDepthsWrongFalsely : Prop := flowDepthsRow.holds Try.pinned (OpenSpec.ofChange flowDepthsWrong)

/-- 'wreckagelaw07.FlowNames': WHATEVER THE INPUT: true; the input reads as it did. -/
def flowNamesSpec : ChangeSpec := { name := "flowNames", fn := fun _ => fun
  | [] => { results := [.lit (.bool true)], args := [] }
  | _ => none }
def flowNamesRow : OpenClaim := { program := "ytedmahccogjemaa", sum := "82d2abab75599852339c1252e44179fb989faa357fc09ef6947815432dda11e1", func := "wreckage/wreckagelaw07.FlowNames", spec := "flowNames", unfollowed := true, recurses := true, apart := false }
def FlowNamesSaid : Prop := flowNamesRow.holds Try.pinned (OpenSpec.ofChange flowNamesSpec)

/-- ITS FALSE NEIGHBOUR: 'it returns false'. Refute it at one input. -/
def flowNamesWrong : ChangeSpec := { name := "flowNames", fn := fun _ => fun
  | [] => { results := [.lit (.bool false)], args := [] }
  | _ => none }
def FlowNamesWrongFalsely : Prop := flowNamesRow.holds Try.pinned (OpenSpec.ofChange flowNamesWrong)

/-- 'wreckagelaw07.FlowWalk': WHATEVER THE INPUT: true; the input reads as it did. -/
def flowWalkSpec : ChangeSpec := { name := "flowWalk", fn := fun _ => fun
  | [d1, d2, d3, d4, d5] => { results := [.lit (.bool true)], args := [d1, d2, d3, d4, d5] }
  | _ => none }
def flowWalkRow : OpenClaim := { program := "ytedmahccogjemaa", sum := "82d2abab75599852339c1252e44179fb989faa357fc09ef6947815432dda11e1", func := "wreckage/wreckagelaw07.FlowWalk", spec := "flowWalk", unfollowed := true, recurses := true, apart := false }
def FlowWalkSaid : Prop := flowWalkRow.holds Try.pinned (OpenSpec.ofChange flowWalkSpec)

/-- ITS FALSE NEIGHBOUR: 'it returns false'. Refute it at one input. -/
def flowWalkWrong : ChangeSpec := { name := "flowWalk", fn := fun _ => fun
  | [d1, d2, d3, d4, d5] => { results := [.lit (.bool false)], args := [d1, d2, d3, d4, d5] }
  | _ => none }
def FlowWalkWrongFalsely : Prop := flowWalkRow.holds Try.pinned (OpenSpec.ofChange flowWalkWrong)

/- THE SECOND FORM. 'bulk': how many values and letters a reading holds, each counted each time it is reached (what is shared counts as often as it is met; a slice's spare places count too). A statement '..UptoSaid' is the law's where the arguments, and the package variables that the reading takes, are together of bulk at most 1048576: NARROWER than '..Said'. Prove '..Said' where nothing that the law and all that it calls make is longer than what came in: it says more and counts as full. Else prove '..UptoSaid'. A law counts once. -/
mutual
def uptoBulk {H : Type} : DataW H → Nat
  | .lit (.string bytes) => bytes.length + 1
  | .lit _ => 1
  | .nil => 1
  | .ptr d => uptoBulk d + 1
  | .slice elems spare => uptoBulkAll elems + uptoBulkAll spare + 1
  | .agg parts => uptoBulkAll parts + 1
  | .iface _ d => uptoBulk d + 1
  | .map entries => uptoBulkEntries entries + 1
  | .held _ => 1
def uptoBulkAll {H : Type} : List (DataW H) → Nat
  | [] => 0
  | d :: r => uptoBulk d + uptoBulkAll r
def uptoBulkEntries {H : Type} : List (Lit × DataW H) → Nat
  | [] => 0
  | x :: r => uptoBulkEntry x + uptoBulkEntries r
def uptoBulkEntry {H : Type} : Lit × DataW H → Nat
  | (.string bytes, d) => bytes.length + uptoBulk d + 1
  | (_, d) => uptoBulk d + 1
 end
def uptoSmall : (H : Type) → List (DataW H) → Bool := fun _ ds => decide (uptoBulkAll ds ≤ 1048576)
def OpenSpec.upto (s : _root_.Go.ChangeSpec) : _root_.Go.OpenSpec := { _root_.Go.OpenSpec.ofChange s with cond := some uptoSmall }

/-- 'wreckagelaw07.FlowNexts', WHERE WHAT IT READS IS OF BULK AT MOST 1048576: true; the input reads as it did. -/
def flowNextsUptoRow : OpenClaim := { program := "ytedmahccogjemaa", sum := "82d2abab75599852339c1252e44179fb989faa357fc09ef6947815432dda11e1", func := "wreckage/wreckagelaw07.FlowNexts", spec := "flowNexts", unfollowed := true, recurses := true, apart := false, narrowed := true }
def FlowNextsUptoSaid : Prop := flowNextsUptoRow.holds Try.pinned (OpenSpec.upto flowNextsSpec)

/-- 'wreckagelaw07.FlowGreatest', WHERE WHAT IT READS IS OF BULK AT MOST 1048576: true; the input reads as it did. -/
def flowGreatestUptoRow : OpenClaim := { program := "ytedmahccogjemaa", sum := "82d2abab75599852339c1252e44179fb989faa357fc09ef6947815432dda11e1", func := "wreckage/wreckagelaw07.FlowGreatest", spec := "flowGreatest", unfollowed := true, recurses := true, apart := false, narrowed := true }
def FlowGreatestUptoSaid : Prop := flowGreatestUptoRow.holds Try.pinned (OpenSpec.upto flowGreatestSpec)

/-- 'wreckagelaw07.FlowReached', WHERE WHAT IT READS IS OF BULK AT MOST 1048576: true; the input reads as it did. -/
def flowReachedUptoRow : OpenClaim := { program := "ytedmahccogjemaa", sum := "82d2abab75599852339c1252e44179fb989faa357fc09ef6947815432dda11e1", func := "wreckage/wreckagelaw07.FlowReached", spec := "flowReached", unfollowed := true, recurses := true, apart := false, narrowed := true }
def FlowReachedUptoSaid : Prop := flowReachedUptoRow.holds Try.pinned (OpenSpec.upto flowReachedSpec)

/-- 'wreckagelaw07.FlowMasks', WHERE WHAT IT READS IS OF BULK AT MOST 1048576: true; the input reads as it did. -/
def flowMasksUptoRow : OpenClaim := { program := "ytedmahccogjemaa", sum := "82d2abab75599852339c1252e44179fb989faa357fc09ef6947815432dda11e1", func := "wreckage/wreckagelaw07.FlowMasks", spec := "flowMasks", unfollowed := true, recurses := true, apart := false, narrowed := true }
def FlowMasksUptoSaid : Prop := flowMasksUptoRow.holds Try.pinned (OpenSpec.upto flowMasksSpec)

/-- 'wreckagelaw07.FlowDepths', WHERE WHAT IT READS IS OF BULK AT MOST 1048576: true; the input reads as it did. -/
def flowDepthsUptoRow : OpenClaim := { program := "ytedmahccogjemaa", sum := "82d2abab75599852339c1252e44179fb989faa357fc09ef6947815432dda11e1", func := "wreckage/wreckagelaw07.FlowDepths", spec := "flowDepths", unfollowed := true, recurses := true, apart := false, narrowed := true }
def FlowDepthsUptoSaid : Prop := flowDepthsUptoRow.holds Try.pinned (OpenSpec.upto flowDepthsSpec)

/-- 'wreckagelaw07.FlowNames', WHERE WHAT IT READS IS OF BULK AT MOST 1048576: true; the input reads as it did. -/
def flowNamesUptoRow : OpenClaim := { program := "ytedmahccogjemaa", sum := "82d2abab75599852339c1252e44179fb989faa357fc09ef6947815432dda11e1", func := "wreckage/wreckagelaw07.FlowNames", spec := "flowNames", unfollowed := true, recurses := true, apart := false, narrowed := true }
def FlowNamesUptoSaid : Prop := flowNamesUptoRow.holds Try.pinned (OpenSpec.upto flowNamesSpec)

/-- 'wreckagelaw07.FlowWalk', WHERE WHAT IT READS IS OF BULK AT MOST 1048576: true; the input reads as it did. -/
def flowWalkUptoRow : OpenClaim := { program := "ytedmahccogjemaa", sum := "82d2abab75599852339c1252e44179fb989faa357fc09ef6947815432dda11e1", func := "wreckage/wreckagelaw07.FlowWalk", spec := "flowWalk", unfollowed := true, recurses := true, apart := false, narrowed := true }
def FlowWalkUptoSaid : Prop := flowWalkUptoRow.holds Try.pinned (OpenSpec.upto flowWalkSpec)

end Rows
end Go.Proofs.Ytedmahccogjemaa
