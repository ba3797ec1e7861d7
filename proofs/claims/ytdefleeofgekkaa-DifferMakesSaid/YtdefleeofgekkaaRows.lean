/-
  NARROWER THAN 'FOR EVERY INPUT', by the rows' own cells (each row's printed sentence says how): DifferFinds: loops · DifferBoth: loops · DifferGives: loops · DifferRest: loops · DifferMakes: loops.
  DERIVED. THE GIVEN ROWS OF THIS SEAT. 6 by the template 'for every input the law returns true; each argument reads behind the call as it read before'; 0 by the template 'total and deterministic' (their statements: YtdefleeofgekkaaTotals.lean).
  GIVEN WITH THE SEED: the statements are not yours to turn. If you find one false, say at which input.
  Laid BY PROGRAM, IN A SANDBOX (cutbox-rows.mjs): the forced cells as the released guide's own fill.sh prints them over the translation ca1afb9eabf0e583… (all of the seat's roots in one cut). By AI agents, Wed Nov 11 2026. No macro, syntax, notation, axiom, sorry.
-/
import Derived.Test.YtdefleeofgekkaaChecked
import GoSem.Claim
import GoSem.ClaimJoined
import GoSem.ClaimMapViews
import Derived.JoinedTies
import Derived.KernelRfl
namespace Go.Proofs.Ytdefleeofgekkaa
/- THE CELL 'sum', in the pinned program and in every row, IS THE sha256 OF THE DUMP (.gsa) THAT YtdefleeofgekkaaProg.lean LOADS. Nothing in Lean hashes anything: it is a label: what it is worth is what the hold of that sum in a sandbox is worth. -/
noncomputable def Try.pinned : Pinned := { name := "ytdefleeofgekkaa", sum := "ca1afb9eabf0e583510f04cd4b29e4d9abaeacf7e20c804b9bc0809fd8726aa5", checked := Try.checked }
namespace Rows
def none {H : Type} : Left H := { results := [], args := [] }

/-- 'wreckagelaw43.DifferFinds': WHATEVER THE INPUT: true; the input reads as it did. -/
def differFindsSpec : ChangeSpec := { name := "differFinds", fn := fun _ => fun
  | [d1, d2] => { results := [.lit (.bool true)], args := [d1, d2] }
  | _ => none }
def differFindsRow : OpenClaim := { program := "ytdefleeofgekkaa", sum := "ca1afb9eabf0e583510f04cd4b29e4d9abaeacf7e20c804b9bc0809fd8726aa5", func := "wreckage/wreckagelaw43.DifferFinds", spec := "differFinds", unfollowed := true, recurses := true, loops := true, apart := false }
def DifferFindsSaid : Prop := differFindsRow.holds Try.pinned (OpenSpec.ofChange differFindsSpec)

/-- ITS FALSE NEIGHBOUR: 'it returns false'. Refute it at one input. -/
def differFindsWrong : ChangeSpec := { name := "differFinds", fn := fun _ => fun
  | [d1, d2] => { results := [.lit (.bool false)], args := [d1, d2] }
  | _ => none }
def DifferFindsWrongFalsely : Prop := differFindsRow.holds Try.pinned (OpenSpec.ofChange differFindsWrong)

/-- 'wreckagelaw43.DifferBoth': WHATEVER THE INPUT: true; the input reads as it did. -/
def differBothSpec : ChangeSpec := { name := "differBoth", fn := fun _ => fun
  | [d1, d2, d3, d4] => { results := [.lit (.bool true)], args := [d1, d2, d3, d4] }
  | _ => none }
def differBothRow : OpenClaim := { program := "ytdefleeofgekkaa", sum := "ca1afb9eabf0e583510f04cd4b29e4d9abaeacf7e20c804b9bc0809fd8726aa5", func := "wreckage/wreckagelaw43.DifferBoth", spec := "differBoth", unfollowed := true, recurses := true, loops := true, apart := false }
def DifferBothSaid : Prop := differBothRow.holds Try.pinned (OpenSpec.ofChange differBothSpec)

/-- ITS FALSE NEIGHBOUR: 'it returns false'. Refute it at one input. -/
def differBothWrong : ChangeSpec := { name := "differBoth", fn := fun _ => fun
  | [d1, d2, d3, d4] => { results := [.lit (.bool false)], args := [d1, d2, d3, d4] }
  | _ => none }
def DifferBothWrongFalsely : Prop := differBothRow.holds Try.pinned (OpenSpec.ofChange differBothWrong)

/-- 'wreckagelaw43.DifferGives': WHATEVER THE INPUT: true; the input reads as it did. -/
def differGivesSpec : ChangeSpec := { name := "differGives", fn := fun _ => fun
  | [d1, d2] => { results := [.lit (.bool true)], args := [d1, d2] }
  | _ => none }
def differGivesRow : OpenClaim := { program := "ytdefleeofgekkaa", sum := "ca1afb9eabf0e583510f04cd4b29e4d9abaeacf7e20c804b9bc0809fd8726aa5", func := "wreckage/wreckagelaw43.DifferGives", spec := "differGives", unfollowed := true, recurses := true, loops := true, apart := false }
def DifferGivesSaid : Prop := differGivesRow.holds Try.pinned (OpenSpec.ofChange differGivesSpec)

/-- ITS FALSE NEIGHBOUR: 'it returns false'. Refute it at one input. -/
def differGivesWrong : ChangeSpec := { name := "differGives", fn := fun _ => fun
  | [d1, d2] => { results := [.lit (.bool false)], args := [d1, d2] }
  | _ => none }
def DifferGivesWrongFalsely : Prop := differGivesRow.holds Try.pinned (OpenSpec.ofChange differGivesWrong)

/-- 'wreckagelaw43.DifferRest': WHATEVER THE INPUT: true; the input reads as it did. -/
def differRestSpec : ChangeSpec := { name := "differRest", fn := fun _ => fun
  | [d1, d2] => { results := [.lit (.bool true)], args := [d1, d2] }
  | _ => none }
def differRestRow : OpenClaim := { program := "ytdefleeofgekkaa", sum := "ca1afb9eabf0e583510f04cd4b29e4d9abaeacf7e20c804b9bc0809fd8726aa5", func := "wreckage/wreckagelaw43.DifferRest", spec := "differRest", unfollowed := true, recurses := true, loops := true, apart := false }
def DifferRestSaid : Prop := differRestRow.holds Try.pinned (OpenSpec.ofChange differRestSpec)

/-- ITS FALSE NEIGHBOUR: 'it returns false'. Refute it at one input. -/
def differRestWrong : ChangeSpec := { name := "differRest", fn := fun _ => fun
  | [d1, d2] => { results := [.lit (.bool false)], args := [d1, d2] }
  | _ => none }
def DifferRestWrongFalsely : Prop := differRestRow.holds Try.pinned (OpenSpec.ofChange differRestWrong)

/-- 'wreckagelaw43.DifferMakes': WHATEVER THE INPUT: true; the input reads as it did. -/
def differMakesSpec : ChangeSpec := { name := "differMakes", fn := fun _ => fun
  | [d1, d2, d3] => { results := [.lit (.bool true)], args := [d1, d2, d3] }
  | _ => none }
def differMakesRow : OpenClaim := { program := "ytdefleeofgekkaa", sum := "ca1afb9eabf0e583510f04cd4b29e4d9abaeacf7e20c804b9bc0809fd8726aa5", func := "wreckage/wreckagelaw43.DifferMakes", spec := "differMakes", unfollowed := true, recurses := true, loops := true, apart := false }
def DifferMakesSaid : Prop := differMakesRow.holds Try.pinned (OpenSpec.ofChange differMakesSpec)

/-- ITS FALSE NEIGHBOUR: 'it returns false'. Refute it at one input. -/
def differMakesWrong : ChangeSpec := { name := "differMakes", fn := fun _ => fun
  | [d1, d2, d3] => { results := [.lit (.bool false)], args := [d1, d2, d3] }
  | _ => none }
def DifferMakesWrongFalsely : Prop := differMakesRow.holds Try.pinned (OpenSpec.ofChange differMakesWrong)

/-- 'wreckagelaw43.DifferNames': WHATEVER THE INPUT: true; the input reads as it did. -/
def differNamesSpec : ChangeSpec := { name := "differNames", fn := fun _ => fun
  | [] => { results := [.lit (.bool true)], args := [] }
  | _ => none }
def differNamesRow : OpenClaim := { program := "ytdefleeofgekkaa", sum := "ca1afb9eabf0e583510f04cd4b29e4d9abaeacf7e20c804b9bc0809fd8726aa5", func := "wreckage/wreckagelaw43.DifferNames", spec := "differNames", unfollowed := true, recurses := true, apart := false }
def DifferNamesSaid : Prop := differNamesRow.holds Try.pinned (OpenSpec.ofChange differNamesSpec)

/-- ITS FALSE NEIGHBOUR: 'it returns false'. Refute it at one input. -/
def differNamesWrong : ChangeSpec := { name := "differNames", fn := fun _ => fun
  | [] => { results := [.lit (.bool false)], args := [] }
  | _ => none }
def DifferNamesWrongFalsely : Prop := differNamesRow.holds Try.pinned (OpenSpec.ofChange differNamesWrong)

/- THE SECOND FORM. 'bulk': how many values and letters a reading holds, each counted each time it is reached (what is shared counts as often as it is met; a slice's spare places count too). A statement '..UptoSaid' is the law's where the arguments, and the package variables that the reading takes, are together of bulk at most 1048576: NARROWER than '..Said'. Prove '..Said' where nothing that the law and all that it calls make is longer than what came in: it says more and counts as full. Else prove '..UptoSaid'. A law counts once. -/
mutual
def uptoBulk {H : Type} : DataW H → Nat
  | .lit (.string bytes) => bytes.length + 1
  | .lit _ => 1
  | .nil => 1
  | .ptr d => uptoBulk d + 1
  | .slice elems spare => uptoBulkAll elems + uptoBulkAll spare + 1
  | .agg parts => uptoBulkAll parts + 1
  | .iface _ d => uptoBulk d + 1
  | .map entries => uptoBulkEntries entries + 1
  | .held _ => 1
def uptoBulkAll {H : Type} : List (DataW H) → Nat
  | [] => 0
  | d :: r => uptoBulk d + uptoBulkAll r
def uptoBulkEntries {H : Type} : List (Lit × DataW H) → Nat
  | [] => 0
  | x :: r => uptoBulkEntry x + uptoBulkEntries r
def uptoBulkEntry {H : Type} : Lit × DataW H → Nat
  | (.string bytes, d) => bytes.length + uptoBulk d + 1
  | (_, d) => uptoBulk d + 1
 end
def uptoSmall : (H : Type) → List (DataW H) → Bool := fun _ ds => decide (uptoBulkAll ds ≤ 1048576)
def OpenSpec.upto (s : _root_.Go.ChangeSpec) : _root_.Go.OpenSpec := { _root_.Go.OpenSpec.ofChange s with cond := some uptoSmall }

/-- 'wreckagelaw43.DifferFinds', WHERE WHAT IT READS IS OF BULK AT MOST 1048576: true; the input reads as it did. -/
def differFindsUptoRow : OpenClaim := { program := "ytdefleeofgekkaa", sum := "ca1afb9eabf0e583510f04cd4b29e4d9abaeacf7e20c804b9bc0809fd8726aa5", func := "wreckage/wreckagelaw43.DifferFinds", spec := "differFinds", unfollowed := true, recurses := true, loops := true, apart := false, narrowed := true }
def DifferFindsUptoSaid : Prop := differFindsUptoRow.holds Try.pinned (OpenSpec.upto differFindsSpec)

/-- 'wreckagelaw43.DifferBoth', WHERE WHAT IT READS IS OF BULK AT MOST 1048576: true; the input reads as it did. -/
def differBothUptoRow : OpenClaim := { program := "ytdefleeofgekkaa", sum := "ca1afb9eabf0e583510f04cd4b29e4d9abaeacf7e20c804b9bc0809fd8726aa5", func := "wreckage/wreckagelaw43.DifferBoth", spec := "differBoth", unfollowed := true, recurses := true, loops := true, apart := false, narrowed := true }
def DifferBothUptoSaid : Prop := differBothUptoRow.holds Try.pinned (OpenSpec.upto differBothSpec)

/-- 'wreckagelaw43.DifferGives', WHERE WHAT IT READS IS OF BULK AT MOST 1048576: true; the input reads as it did. -/
def differGivesUptoRow : OpenClaim := { program := "ytdefleeofgekkaa", sum := "ca1afb9eabf0e583510f04cd4b29e4d9abaeacf7e20c804b9bc0809fd8726aa5", func := "wreckage/wreckagelaw43.DifferGives", spec := "differGives", unfollowed := true, recurses := true, loops := true, apart := false, narrowed := true }
def DifferGivesUptoSaid : Prop := differGivesUptoRow.holds Try.pinned (OpenSpec.upto differGivesSpec)

/-- 'wreckagelaw43.DifferRest', WHERE WHAT IT READS IS OF BULK AT MOST 1048576: true; the input reads as it did. -/
def differRestUptoRow : OpenClaim := { program := "ytdefleeofgekkaa", sum := "ca1afb9eabf0e583510f04cd4b29e4d9abaeacf7e20c804b9bc0809fd8726aa5", func := "wreckage/wreckagelaw43.DifferRest", spec := "differRest", unfollowed := true, recurses := true, loops := true, apart := false, narrowed := true }
def DifferRestUptoSaid : Prop := differRestUptoRow.holds Try.pinned (OpenSpec.upto differRestSpec)

/-- 'wreckagelaw43.DifferMakes', WHERE WHAT IT READS IS OF BULK AT MOST 1048576: true; the input reads as it did. -/
def differMakesUptoRow : OpenClaim := { program := "ytdefleeofgekkaa", sum := "ca1afb9eabf0e583510f04cd4b29e4d9abaeacf7e20c804b9bc0809fd8726aa5", func := "wreckage/wreckagelaw43.DifferMakes", spec := "differMakes", unfollowed := true, recurses := true, loops := true, apart := false, narrowed := true }
def DifferMakesUptoSaid : Prop := differMakesUptoRow.holds Try.pinned (OpenSpec.upto differMakesSpec)

/-- 'wreckagelaw43.DifferNames', WHERE WHAT IT READS IS OF BULK AT MOST 1048576: true; the input reads as it did. -/
def differNamesUptoRow : OpenClaim := { program := "ytdefleeofgekkaa", sum := "ca1afb9eabf0e583510f04cd4b29e4d9abaeacf7e20c804b9bc0809fd8726aa5", func := "wreckage/wreckagelaw43.DifferNames", spec := "differNames", unfollowed := true, recurses := true, apart := false, narrowed := true }
def DifferNamesUptoSaid : Prop := differNamesUptoRow.holds Try.pinned (OpenSpec.upto differNamesSpec)

end Rows
end Go.Proofs.Ytdefleeofgekkaa
