/- Parts of the proof. -/
import Derived.Test.YtnfdnnplfbfgaaaGreatRows
import Derived.ProofKit
set_option linter.unusedVariables false
set_option linter.unusedSimpArgs false
set_option linter.defProp false
namespace Go.Proofs.YtnfdnnplfbfgaaaGreat
open Go Go.RowKit
set_option maxRecDepth 100000
def abr:joinedFacts Tryz.checked.prog 3 Tryz.f3 Rows.basicLocalsSpec Rows.basicLocalsRow=true:=by kernel_rfl
end Go.Proofs.YtnfdnnplfbfgaaaGreat
