/-
  No cell of these rows narrows 'for every input' (looked for: loops, veiled, ifaces, maps, wideKeys, modest, calm, conditions, laid).
  DERIVED. THE GIVEN ROWS OF THIS SEAT. 6 by the template 'for every input the law returns true; each argument reads behind the call as it read before'; 0 by the template 'total and deterministic' (their statements: YtkdjilgpknecfaaTotals.lean).
  GIVEN WITH THE SEED: the statements are not yours to turn. If you find one false, say at which input.
  Laid BY PROGRAM, IN A SANDBOX (cutbox-rows.mjs): the forced cells as the released guide's own fill.sh prints them over the translation be5f077a82699cfa… (all of the seat's roots in one cut). By AI agents, Wed Nov 11 2026. No macro, syntax, notation, axiom, sorry.
-/
import Derived.Test.YtkdjilgpknecfaaChecked
import GoSem.Claim
import GoSem.ClaimJoined
import GoSem.ClaimMapViews
import Derived.JoinedTies
import Derived.KernelRfl
namespace Go.Proofs.Ytkdjilgpknecfaa
/- THE CELL 'sum', in the pinned program and in every row, IS THE sha256 OF THE DUMP (.gsa) THAT YtkdjilgpknecfaaProg.lean LOADS. Nothing in Lean hashes anything: it is a label: what it is worth is what the hold of that sum in a sandbox is worth. -/
noncomputable def Try.pinned : Pinned := { name := "ytkdjilgpknecfaa", sum := "be5f077a82699cfa6d40e295cb36b18109a346e6dfb39101f3f4cbbdfb5c4598", checked := Try.checked }
namespace Rows
def none {H : Type} : Left H := { results := [], args := [] }

/-- 'wreckagelaw19.RoutineMakes': WHATEVER THE INPUT: true; the input reads as it did. -/
def routineMakesSpec : ChangeSpec := { name := "routineMakes", fn := fun _ => fun
  | [d1, d2, d3, d4] => { results := [.lit (.bool true)], args := [d1, d2, d3, d4] }
  | _ => none }
def routineMakesRow : OpenClaim := { program := "ytkdjilgpknecfaa", sum := "be5f077a82699cfa6d40e295cb36b18109a346e6dfb39101f3f4cbbdfb5c4598", func := "wreckage/wreckagelaw19.RoutineMakes", spec := "routineMakes", apart := false }
def RoutineMakesSaid : Prop := routineMakesRow.holds Try.pinned (OpenSpec.ofChange routineMakesSpec)

/-- ITS FALSE NEIGHBOUR: 'it returns false'. Refute it at one input. -/
def routineMakesWrong : ChangeSpec := { name := "routineMakes", fn := fun _ => fun
  | [d1, d2, d3, d4] => { results := [.lit (.bool false)], args := [d1, d2, d3, d4] }
  | _ => none }
def RoutineMakesWrongFalsely : Prop := routineMakesRow.holds Try.pinned (OpenSpec.ofChange routineMakesWrong)

/-- 'wreckagelaw19.RoutineFirst': WHATEVER THE INPUT: true; the input reads as it did. -/
def routineFirstSpec : ChangeSpec := { name := "routineFirst", fn := fun _ => fun
  | [d1, d2] => { results := [.lit (.bool true)], args := [d1, d2] }
  | _ => none }
def routineFirstRow : OpenClaim := { program := "ytkdjilgpknecfaa", sum := "be5f077a82699cfa6d40e295cb36b18109a346e6dfb39101f3f4cbbdfb5c4598", func := "wreckage/wreckagelaw19.RoutineFirst", spec := "routineFirst", unfollowed := true, recurses := true, apart := false }
def RoutineFirstSaid : Prop := routineFirstRow.holds Try.pinned (OpenSpec.ofChange routineFirstSpec)

/-- ITS FALSE NEIGHBOUR: 'it returns false'. Refute it at one input. -/
def routineFirstWrong : ChangeSpec := { name := "routineFirst", fn := fun _ => fun
  | [d1, d2] => { results := [.lit (.bool false)], args := [d1, d2] }
  | _ => none }
def RoutineFirstWrongFalsely : Prop := routineFirstRow.holds Try.pinned (OpenSpec.ofChange routineFirstWrong)

/-- 'wreckagelaw19.RoutineMoves': WHATEVER THE INPUT: true; the input reads as it did. -/
def routineMovesSpec : ChangeSpec := { name := "routineMoves", fn := fun _ => fun
  | [d1, d2, d3] => { results := [.lit (.bool true)], args := [d1, d2, d3] }
  | _ => none }
def routineMovesRow : OpenClaim := { program := "ytkdjilgpknecfaa", sum := "be5f077a82699cfa6d40e295cb36b18109a346e6dfb39101f3f4cbbdfb5c4598", func := "wreckage/wreckagelaw19.RoutineMoves", spec := "routineMoves", unfollowed := true, recurses := true, apart := false }
def RoutineMovesSaid : Prop := routineMovesRow.holds Try.pinned (OpenSpec.ofChange routineMovesSpec)

/-- ITS FALSE NEIGHBOUR: 'it returns false'. Refute it at one input. -/
def routineMovesWrong : ChangeSpec := { name := "routineMoves", fn := fun _ => fun
  | [d1, d2, d3] => { results := [.lit (.bool false)], args := [d1, d2, d3] }
  | _ => none }
def RoutineMovesWrongFalsely : Prop := routineMovesRow.holds Try.pinned (OpenSpec.ofChange routineMovesWrong)

/-- 'wreckagelaw19.RoutineBack': WHATEVER THE INPUT: true; the input reads as it did. -/
def routineBackSpec : ChangeSpec := { name := "routineBack", fn := fun _ => fun
  | [d1, d2, d3] => { results := [.lit (.bool true)], args := [d1, d2, d3] }
  | _ => none }
def routineBackRow : OpenClaim := { program := "ytkdjilgpknecfaa", sum := "be5f077a82699cfa6d40e295cb36b18109a346e6dfb39101f3f4cbbdfb5c4598", func := "wreckage/wreckagelaw19.RoutineBack", spec := "routineBack", unfollowed := true, recurses := true, apart := false }
def RoutineBackSaid : Prop := routineBackRow.holds Try.pinned (OpenSpec.ofChange routineBackSpec)

/-- ITS FALSE NEIGHBOUR: 'it returns false'. Refute it at one input. -/
def routineBackWrong : ChangeSpec := { name := "routineBack", fn := fun _ => fun
  | [d1, d2, d3] => { results := [.lit (.bool false)], args := [d1, d2, d3] }
  | _ => none }
def RoutineBackWrongFalsely : Prop := routineBackRow.holds Try.pinned (OpenSpec.ofChange routineBackWrong)

/-- 'wreckagelaw19.RoutineEnds': WHATEVER THE INPUT: true; the input reads as it did. -/
def routineEndsSpec : ChangeSpec := { name := "routineEnds", fn := fun _ => fun
  | [d1, d2, d3, d4] => { results := [.lit (.bool true)], args := [d1, d2, d3, d4] }
  | _ => none }
def routineEndsRow : OpenClaim := { program := "ytkdjilgpknecfaa", sum := "be5f077a82699cfa6d40e295cb36b18109a346e6dfb39101f3f4cbbdfb5c4598", func := "wreckage/wreckagelaw19.RoutineEnds", spec := "routineEnds", unfollowed := true, recurses := true, apart := false }
def RoutineEndsSaid : Prop := routineEndsRow.holds Try.pinned (OpenSpec.ofChange routineEndsSpec)

/-- ITS FALSE NEIGHBOUR: 'it returns false'. Refute it at one input. -/
def routineEndsWrong : ChangeSpec := { name := "routineEnds", fn := fun _ => fun
  | [d1, d2, d3, d4] => { results := [.lit (.bool false)], args := [d1, d2, d3, d4] }
  | _ => none }
def RoutineEndsWrongFalsely : Prop := routineEndsRow.holds Try.pinned (OpenSpec.ofChange routineEndsWrong)

/-- 'wreckagelaw19.RoutineNames': WHATEVER THE INPUT: true; the input reads as it did. -/
def routineNamesSpec : ChangeSpec := { name := "routineNames", fn := fun _ => fun
  | [] => { results := [.lit (.bool true)], args := [] }
  | _ => none }
def routineNamesRow : OpenClaim := { program := "ytkdjilgpknecfaa", sum := "be5f077a82699cfa6d40e295cb36b18109a346e6dfb39101f3f4cbbdfb5c4598", func := "wreckage/wreckagelaw19.RoutineNames", spec := "routineNames", unfollowed := true, recurses := true, apart := false }
def RoutineNamesSaid : Prop := routineNamesRow.holds Try.pinned (OpenSpec.ofChange routineNamesSpec)

/-- ITS FALSE NEIGHBOUR: 'it returns false'. Refute it at one input. -/
def routineNamesWrong : ChangeSpec := { name := "routineNames", fn := fun _ => fun
  | [] => { results := [.lit (.bool false)], args := [] }
  | _ => none }
def RoutineNamesWrongFalsely : Prop := routineNamesRow.holds Try.pinned (OpenSpec.ofChange routineNamesWrong)

/- THE SECOND FORM. 'bulk': how many values and letters a reading holds, each counted each time it is reached (what is shared counts as often as it is met; a slice's spare places count too). A statement '..UptoSaid' is the law's where the arguments, and the package variables that the reading takes, are together of bulk at most 1048576: NARROWER than '..Said'. Prove '..Said' where nothing that the law and all that it calls make is longer than what came in: it says more and counts as full. Else prove '..UptoSaid'. A law counts once. -/
mutual
def uptoBulk {H : Type} : DataW H → Nat
  | .lit (.string bytes) => bytes.length + 1
  | .lit _ => 1
  | .nil => 1
  | .ptr d => uptoBulk d + 1
  | .slice elems spare => uptoBulkAll elems + uptoBulkAll spare + 1
  | .agg parts => uptoBulkAll parts + 1
  | .iface _ d => uptoBulk d + 1
  | .map entries => uptoBulkEntries entries + 1
  | .held _ => 1
def uptoBulkAll {H : Type} : List (DataW H) → Nat
  | [] => 0
  | d :: r => uptoBulk d + uptoBulkAll r
def uptoBulkEntries {H : Type} : List (Lit × DataW H) → Nat
  | [] => 0
  | x :: r => uptoBulkEntry x + uptoBulkEntries r
def uptoBulkEntry {H : Type} : Lit × DataW H → Nat
  | (.string bytes, d) => bytes.length + uptoBulk d + 1
  | (_, d) => uptoBulk d + 1
 end
def uptoSmall : (H : Type) → List (DataW H) → Bool := fun _ ds => decide (uptoBulkAll ds ≤ 1048576)
def OpenSpec.upto (s : _root_.Go.ChangeSpec) : _root_.Go.OpenSpec := { _root_.Go.OpenSpec.ofChange s with cond := some uptoSmall }

/-- 'wreckagelaw19.RoutineMakes', WHERE WHAT IT READS IS OF BULK AT MOST 1048576: true; the input reads as it did. -/
def routineMakesUptoRow : OpenClaim := { program := "ytkdjilgpknecfaa", sum := "be5f077a82699cfa6d40e295cb36b18109a346e6dfb39101f3f4cbbdfb5c4598", func := "wreckage/wreckagelaw19.RoutineMakes", spec := "routineMakes", apart := false, narrowed := true }
def RoutineMakesUptoSaid : Prop := routineMakesUptoRow.holds Try.pinned (OpenSpec.upto routineMakesSpec)

/-- 'wreckagelaw19.RoutineFirst', WHERE WHAT IT READS IS OF BULK AT MOST 1048576: true; the input reads as it did. -/
def routineFirstUptoRow : OpenClaim := { program := "ytkdjilgpknecfaa", sum := "be5f077a82699cfa6d40e295cb36b18109a346e6dfb39101f3f4cbbdfb5c4598", func := "wreckage/wreckagelaw19.RoutineFirst", spec := "routineFirst", unfollowed := true, recurses := true, apart := false, narrowed := true }
def RoutineFirstUptoSaid : Prop := routineFirstUptoRow.holds Try.pinned (OpenSpec.upto routineFirstSpec)

/-- 'wreckagelaw19.RoutineMoves', WHERE WHAT IT READS IS OF BULK AT MOST 1048576: true; the input reads as it did. -/
def routineMovesUptoRow : OpenClaim := { program := "ytkdjilgpknecfaa", sum := "be5f077a82699cfa6d40e295cb36b18109a346e6dfb39101f3f4cbbdfb5c4598", func := "wreckage/wreckagelaw19.RoutineMoves", spec := "routineMoves", unfollowed := true, recurses := true, apart := false, narrowed := true }
def RoutineMovesUptoSaid : Prop := routineMovesUptoRow.holds Try.pinned (OpenSpec.upto routineMovesSpec)

/-- 'wreckagelaw19.RoutineBack', WHERE WHAT IT READS IS OF BULK AT MOST 1048576: true; the input reads as it did. -/
def routineBackUptoRow : OpenClaim := { program := "ytkdjilgpknecfaa", sum := "be5f077a82699cfa6d40e295cb36b18109a346e6dfb39101f3f4cbbdfb5c4598", func := "wreckage/wreckagelaw19.RoutineBack", spec := "routineBack", unfollowed := true, recurses := true, apart := false, narrowed := true }
def RoutineBackUptoSaid : Prop := routineBackUptoRow.holds Try.pinned (OpenSpec.upto routineBackSpec)

/-- 'wreckagelaw19.RoutineEnds', WHERE WHAT IT READS IS OF BULK AT MOST 1048576: true; the input reads as it did. -/
def routineEndsUptoRow : OpenClaim := { program := "ytkdjilgpknecfaa", sum := "be5f077a82699cfa6d40e295cb36b18109a346e6dfb39101f3f4cbbdfb5c4598", func := "wreckage/wreckagelaw19.RoutineEnds", spec := "routineEnds", unfollowed := true, recurses := true, apart := false, narrowed := true }
def RoutineEndsUptoSaid : Prop := routineEndsUptoRow.holds Try.pinned (OpenSpec.upto routineEndsSpec)

/-- 'wreckagelaw19.RoutineNames', WHERE WHAT IT READS IS OF BULK AT MOST 1048576: true; the input reads as it did. -/
def routineNamesUptoRow : OpenClaim := { program := "ytkdjilgpknecfaa", sum := "be5f077a82699cfa6d40e295cb36b18109a346e6dfb39101f3f4cbbdfb5c4598", func := "wreckage/wreckagelaw19.RoutineNames", spec := "routineNames", unfollowed := true, recurses := true, apart := false, narrowed := true }
def RoutineNamesUptoSaid : Prop := routineNamesUptoRow.holds Try.pinned (OpenSpec.upto routineNamesSpec)

end Rows
end Go.Proofs.Ytkdjilgpknecfaa
