/- Answers of stage 2. -/
import Derived.Test.YtjejefeomeddhaaGreatDtl21dx2
set_option linter.unusedSimpArgs false
variable [Go.Eng.Rho]
set_option linter.unusedSectionVars false
namespace Go.Proofs.YtjejefeomeddhaaGreat
set_option linter.unusedVariables false
open Go Go.Eng Go.Sym
set_option maxRecDepth 100000
noncomputable section
theorem da14:AnsOK Tryz.prog di14.f di14.xs di14.a:=ran dl2_ok (by kernel_rfl) (by kernel_rfl) (by kernel_rfl) (by kernel_rfl)
theorem da76:AnsOK Tryz.prog di76.f di76.xs di76.a:=ran dl2_ok (by kernel_rfl) (by kernel_rfl) (by kernel_rfl) (by kernel_rfl)
end
end Go.Proofs.YtjejefeomeddhaaGreat
