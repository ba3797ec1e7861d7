/-
  No cell of these rows narrows 'for every input' (looked for: loops, veiled, ifaces, maps, wideKeys, modest, calm, conditions, laid).
  DERIVED. THE GIVEN ROWS OF THIS SEAT. 6 by the template 'for every input the law returns true; each argument reads behind the call as it read before'; 0 by the template 'total and deterministic' (their statements: YtlfhlggkbcncoaaTotals.lean).
  GIVEN WITH THE SEED: the statements are not yours to turn. If you find one false, say at which input.
  Laid BY PROGRAM, IN A SANDBOX (cutbox-rows.mjs): the forced cells as the released guide's own fill.sh prints them over the translation 4eccb93d9db13a23… (all of the seat's roots in one cut). By AI agents, Wed Nov 11 2026. No macro, syntax, notation, axiom, sorry.
-/
import Derived.Test.YtlfhlggkbcncoaaChecked
import GoSem.Claim
import GoSem.ClaimJoined
import GoSem.ClaimMapViews
import Derived.JoinedTies
import Derived.KernelRfl
namespace Go.Proofs.Ytlfhlggkbcncoaa
/- THE CELL 'sum', in the pinned program and in every row, IS THE sha256 OF THE DUMP (.gsa) THAT YtlfhlggkbcncoaaProg.lean LOADS. Nothing in Lean hashes anything: it is a label: what it is worth is what the hold of that sum in a sandbox is worth. -/
noncomputable def Try.pinned : Pinned := { name := "ytlfhlggkbcncoaa", sum := "4eccb93d9db13a2324292f2a10c7c83b92efa071e184fd477ea2b0db41a23746", checked := Try.checked }
namespace Rows
def none {H : Type} : Left H := { results := [], args := [] }

/-- 'wreckagelaw09.ImageTells': WHATEVER THE INPUT: true; the input reads as it did. -/
def imageTellsSpec : ChangeSpec := { name := "imageTells", fn := fun _ => fun
  | [d1, d2, d3, d4] => { results := [.lit (.bool true)], args := [d1, d2, d3, d4] }
  | _ => none }
def imageTellsRow : OpenClaim := { program := "ytlfhlggkbcncoaa", sum := "4eccb93d9db13a2324292f2a10c7c83b92efa071e184fd477ea2b0db41a23746", func := "wreckage/wreckagelaw09.ImageTells", spec := "imageTells", unfollowed := true, recurses := true, apart := false }
def ImageTellsSaid : Prop := imageTellsRow.holds Try.pinned (OpenSpec.ofChange imageTellsSpec)

/-- ITS FALSE NEIGHBOUR: 'it returns false'. Refute it at one input. -/
def imageTellsWrong : ChangeSpec := { name := "imageTells", fn := fun _ => fun
  | [d1, d2, d3, d4] => { results := [.lit (.bool false)], args := [d1, d2, d3, d4] }
  | _ => none }
def ImageTellsWrongFalsely : Prop := imageTellsRow.holds Try.pinned (OpenSpec.ofChange imageTellsWrong)

/-- 'wreckagelaw09.ImageFinds': WHATEVER THE INPUT: true; the input reads as it did. -/
def imageFindsSpec : ChangeSpec := { name := "imageFinds", fn := fun _ => fun
  | [d1, d2, d3, d4, d5, d6] => { results := [.lit (.bool true)], args := [d1, d2, d3, d4, d5, d6] }
  | _ => none }
def imageFindsRow : OpenClaim := { program := "ytlfhlggkbcncoaa", sum := "4eccb93d9db13a2324292f2a10c7c83b92efa071e184fd477ea2b0db41a23746", func := "wreckage/wreckagelaw09.ImageFinds", spec := "imageFinds", unfollowed := true, recurses := true, apart := false }
def ImageFindsSaid : Prop := imageFindsRow.holds Try.pinned (OpenSpec.ofChange imageFindsSpec)

/-- ITS FALSE NEIGHBOUR: 'it returns false'. Refute it at one input. -/
def imageFindsWrong : ChangeSpec := { name := "imageFinds", fn := fun _ => fun
  | [d1, d2, d3, d4, d5, d6] => { results := [.lit (.bool false)], args := [d1, d2, d3, d4, d5, d6] }
  | _ => none }
def ImageFindsWrongFalsely : Prop := imageFindsRow.holds Try.pinned (OpenSpec.ofChange imageFindsWrong)

/-- 'wreckagelaw09.ImageMore': WHATEVER THE INPUT: true; the input reads as it did. -/
def imageMoreSpec : ChangeSpec := { name := "imageMore", fn := fun _ => fun
  | [d1, d2] => { results := [.lit (.bool true)], args := [d1, d2] }
  | _ => none }
def imageMoreRow : OpenClaim := { program := "ytlfhlggkbcncoaa", sum := "4eccb93d9db13a2324292f2a10c7c83b92efa071e184fd477ea2b0db41a23746", func := "wreckage/wreckagelaw09.ImageMore", spec := "imageMore", unfollowed := true, recurses := true, apart := false }
def ImageMoreSaid : Prop := imageMoreRow.holds Try.pinned (OpenSpec.ofChange imageMoreSpec)

/-- ITS FALSE NEIGHBOUR: 'it returns false'. Refute it at one input. -/
def imageMoreWrong : ChangeSpec := { name := "imageMore", fn := fun _ => fun
  | [d1, d2] => { results := [.lit (.bool false)], args := [d1, d2] }
  | _ => none }
def ImageMoreWrongFalsely : Prop := imageMoreRow.holds Try.pinned (OpenSpec.ofChange imageMoreWrong)

/-- 'wreckagelaw09.ImageOne': WHATEVER THE INPUT: true; the input reads as it did. -/
def imageOneSpec : ChangeSpec := { name := "imageOne", fn := fun _ => fun
  | [d1, d2] => { results := [.lit (.bool true)], args := [d1, d2] }
  | _ => none }
def imageOneRow : OpenClaim := { program := "ytlfhlggkbcncoaa", sum := "4eccb93d9db13a2324292f2a10c7c83b92efa071e184fd477ea2b0db41a23746", func := "wreckage/wreckagelaw09.ImageOne", spec := "imageOne", unfollowed := true, recurses := true, apart := false }
def ImageOneSaid : Prop := imageOneRow.holds Try.pinned (OpenSpec.ofChange imageOneSpec)

/-- ITS FALSE NEIGHBOUR: 'it returns false'. Refute it at one input. -/
def imageOneWrong : ChangeSpec := { name := "imageOne", fn := fun _ => fun
  | [d1, d2] => { results := [.lit (.bool false)], args := [d1, d2] }
  | _ => none }
def ImageOneWrongFalsely : Prop := imageOneRow.holds Try.pinned (OpenSpec.ofChange imageOneWrong)

/-- 'wreckagelaw09.ImageFirst': WHATEVER THE INPUT: true; the input reads as it did. -/
def imageFirstSpec : ChangeSpec := { name := "imageFirst", fn := fun _ => fun
  | [d1, d2, d3, d4] => { results := [.lit (.bool true)], args := [d1, d2, d3, d4] }
  | _ => none }
def imageFirstRow : OpenClaim := { program := "ytlfhlggkbcncoaa", sum := "4eccb93d9db13a2324292f2a10c7c83b92efa071e184fd477ea2b0db41a23746", func := "wreckage/wreckagelaw09.ImageFirst", spec := "imageFirst", unfollowed := true, recurses := true, apart := false }
def ImageFirstSaid : Prop := imageFirstRow.holds Try.pinned (OpenSpec.ofChange imageFirstSpec)

/-- ITS FALSE NEIGHBOUR: 'it returns false'. Refute it at one input. -/
def imageFirstWrong : ChangeSpec := { name := "imageFirst", fn := fun _ => fun
  | [d1, d2, d3, d4] => { results := [.lit (.bool false)], args := [d1, d2, d3, d4] }
  | _ => none }
def ImageFirstWrongFalsely : Prop := imageFirstRow.holds Try.pinned (OpenSpec.ofChange imageFirstWrong)

/-- 'wreckagelaw09.ImageNames': WHATEVER THE INPUT: true; the input reads as it did. -/
def imageNamesSpec : ChangeSpec := { name := "imageNames", fn := fun _ => fun
  | [] => { results := [.lit (.bool true)], args := [] }
  | _ => none }
def imageNamesRow : OpenClaim := { program := "ytlfhlggkbcncoaa", sum := "4eccb93d9db13a2324292f2a10c7c83b92efa071e184fd477ea2b0db41a23746", func := "wreckage/wreckagelaw09.ImageNames", spec := "imageNames", unfollowed := true, recurses := true, apart := false }
def ImageNamesSaid : Prop := imageNamesRow.holds Try.pinned (OpenSpec.ofChange imageNamesSpec)

/-- ITS FALSE NEIGHBOUR: 'it returns false'. Refute it at one input. -/
def imageNamesWrong : ChangeSpec := { name := "imageNames", fn := fun _ => fun
  | [] => { results := [.lit (.bool false)], args := [] }
  | _ => none }
def ImageNamesWrongFalsely : Prop := imageNamesRow.holds Try.pinned (OpenSpec.ofChange imageNamesWrong)

/- THE SECOND FORM. 'bulk': how many values and letters a reading holds, each counted each time it is reached (what is shared counts as often as it is met; a slice's spare places count too). A statement '..UptoSaid' is the law's where the arguments, and the package variables that the reading takes, are together of bulk at most 1048576: NARROWER than '..Said'. Prove '..Said' where nothing that the law and all that it calls make is longer than what came in: it says more and counts as full. Else prove '..UptoSaid'. A law counts once. -/
mutual
def uptoBulk {H : Type} : DataW H → Nat
  | .lit (.string bytes) => bytes.length + 1
  | .lit _ => 1
  | .nil => 1
  | .ptr d => uptoBulk d + 1
  | .slice elems spare => uptoBulkAll elems + uptoBulkAll spare + 1
  | .agg parts => uptoBulkAll parts + 1
  | .iface _ d => uptoBulk d + 1
  | .map entries => uptoBulkEntries entries + 1
  | .held _ => 1
def uptoBulkAll {H : Type} : List (DataW H) → Nat
  | [] => 0
  | d :: r => uptoBulk d + uptoBulkAll r
def uptoBulkEntries {H : Type} : List (Lit × DataW H) → Nat
  | [] => 0
  | x :: r => uptoBulkEntry x + uptoBulkEntries r
def uptoBulkEntry {H : Type} : Lit × DataW H → Nat
  | (.string bytes, d) => bytes.length + uptoBulk d + 1
  | (_, d) => uptoBulk d + 1
 end
def uptoSmall : (H : Type) → List (DataW H) → Bool := fun _ ds => decide (uptoBulkAll ds ≤ 1048576)
def OpenSpec.upto (s : _root_.Go.ChangeSpec) : _root_.Go.OpenSpec := { _root_.Go.OpenSpec.ofChange s with cond := some uptoSmall }

/-- 'wreckagelaw09.ImageTells', WHERE WHAT IT READS IS OF BULK AT MOST 1048576: true; the input reads as it did. -/
def imageTellsUptoRow : OpenClaim := { program := "ytlfhlggkbcncoaa", sum := "4eccb93d9db13a2324292f2a10c7c83b92efa071e184fd477ea2b0db41a23746", func := "wreckage/wreckagelaw09.ImageTells", spec := "imageTells", unfollowed := true, recurses := true, apart := false, narrowed := true }
def ImageTellsUptoSaid : Prop := imageTellsUptoRow.holds Try.pinned (OpenSpec.upto imageTellsSpec)

/-- 'wreckagelaw09.ImageFinds', WHERE WHAT IT READS IS OF BULK AT MOST 1048576: true; the input reads as it did. -/
def imageFindsUptoRow : OpenClaim := { program := "ytlfhlggkbcncoaa", sum := "4eccb93d9db13a2324292f2a10c7c83b92efa071e184fd477ea2b0db41a23746", func := "wreckage/wreckagelaw09.ImageFinds", spec := "imageFinds", unfollowed := true, recurses := true, apart := false, narrowed := true }
def ImageFindsUptoSaid : Prop := imageFindsUptoRow.holds Try.pinned (OpenSpec.upto imageFindsSpec)

/-- 'wreckagelaw09.ImageMore', WHERE WHAT IT READS IS OF BULK AT MOST 1048576: true; the input reads as it did. -/
def imageMoreUptoRow : OpenClaim := { program := "ytlfhlggkbcncoaa", sum := "4eccb93d9db13a2324292f2a10c7c83b92efa071e184fd477ea2b0db41a23746", func := "wreckage/wreckagelaw09.ImageMore", spec := "imageMore", unfollowed := true, recurses := true, apart := false, narrowed := true }
def ImageMoreUptoSaid : Prop := imageMoreUptoRow.holds Try.pinned (OpenSpec.upto imageMoreSpec)

/-- 'wreckagelaw09.ImageOne', WHERE WHAT IT READS IS OF BULK AT MOST 1048576: true; the input reads as it did. -/
def imageOneUptoRow : OpenClaim := { program := "ytlfhlggkbcncoaa", sum := "4eccb93d9db13a2324292f2a10c7c83b92efa071e184fd477ea2b0db41a23746", func := "wreckage/wreckagelaw09.ImageOne", spec := "imageOne", unfollowed := true, recurses := true, apart := false, narrowed := true }
def ImageOneUptoSaid : Prop := imageOneUptoRow.holds Try.pinned (OpenSpec.upto imageOneSpec)

/-- 'wreckagelaw09.ImageFirst', WHERE WHAT IT READS IS OF BULK AT MOST 1048576: true; the input reads as it did. -/
def imageFirstUptoRow : OpenClaim := { program := "ytlfhlggkbcncoaa", sum := "4eccb93d9db13a2324292f2a10c7c83b92efa071e184fd477ea2b0db41a23746", func := "wreckage/wreckagelaw09.ImageFirst", spec := "imageFirst", unfollowed := true, recurses := true, apart := false, narrowed := true }
def ImageFirstUptoSaid : Prop := imageFirstUptoRow.holds Try.pinned (OpenSpec.upto imageFirstSpec)

/-- 'wreckagelaw09.ImageNames', WHERE WHAT IT READS IS OF BULK AT MOST 1048576: true; the input reads as it did. -/
def imageNamesUptoRow : OpenClaim := { program := "ytlfhlggkbcncoaa", sum := "4eccb93d9db13a2324292f2a10c7c83b92efa071e184fd477ea2b0db41a23746", func := "wreckage/wreckagelaw09.ImageNames", spec := "imageNames", unfollowed := true, recurses := true, apart := false, narrowed := true }
def ImageNamesUptoSaid : Prop := imageNamesUptoRow.holds Try.pinned (OpenSpec.upto imageNamesSpec)

end Rows
end Go.Proofs.Ytlfhlggkbcncoaa
