/- Answers of stage 2. -/
import Derived.Test.YtjejefeomeddhaaGreatDtl21dx2
set_option linter.unusedSimpArgs false
variable [Go.Eng.Rho]
set_option linter.unusedSectionVars false
namespace Go.Proofs.YtjejefeomeddhaaGreat
set_option linter.unusedVariables false
open Go Go.Eng Go.Sym
set_option maxRecDepth 100000
noncomputable section
theorem da85:AnsOK Tryz.prog di85.f di85.xs di85.a:=ran dl2_ok (by kernel_rfl) (by kernel_rfl) (by kernel_rfl) (by kernel_rfl)
theorem da67:AnsOK Tryz.prog di67.f di67.xs di67.a:=ran dl2_ok (by kernel_rfl) (by kernel_rfl) (by kernel_rfl) (by kernel_rfl)
end
end Go.Proofs.YtjejefeomeddhaaGreat
