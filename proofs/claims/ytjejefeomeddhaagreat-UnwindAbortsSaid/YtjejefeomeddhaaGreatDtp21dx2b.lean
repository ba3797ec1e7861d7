/- Answers of stage 2. -/
import Derived.Test.YtjejefeomeddhaaGreatDtl21dx2
set_option linter.unusedSimpArgs false
variable [Go.Eng.Rho]
set_option linter.unusedSectionVars false
namespace Go.Proofs.YtjejefeomeddhaaGreat
set_option linter.unusedVariables false
open Go Go.Eng Go.Sym
set_option maxRecDepth 100000
noncomputable section
theorem da62:AnsOK Tryz.prog di62.f di62.xs di62.a:=ran dl2_ok (by kernel_rfl) (by kernel_rfl) (by kernel_rfl) (by kernel_rfl)
theorem da10:AnsOK Tryz.prog di10.f di10.xs di10.a:=ran dl2_ok (by kernel_rfl) (by kernel_rfl) (by kernel_rfl) (by kernel_rfl)
theorem da87:AnsOK Tryz.prog di87.f di87.xs di87.a:=ran dl2_ok (by kernel_rfl) (by kernel_rfl) (by kernel_rfl) (by kernel_rfl)
theorem da124:AnsOK Tryz.prog di124.f di124.xs di124.a:=ran dl2_ok (by kernel_rfl) (by kernel_rfl) (by kernel_rfl) (by kernel_rfl)
end
end Go.Proofs.YtjejefeomeddhaaGreat
