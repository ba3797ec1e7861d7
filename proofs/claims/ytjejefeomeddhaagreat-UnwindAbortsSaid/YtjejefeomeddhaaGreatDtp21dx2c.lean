/- Answers of stage 2. -/
import Derived.Test.YtjejefeomeddhaaGreatDtl21dx2
set_option linter.unusedSimpArgs false
variable [Go.Eng.Rho]
set_option linter.unusedSectionVars false
namespace Go.Proofs.YtjejefeomeddhaaGreat
set_option linter.unusedVariables false
open Go Go.Eng Go.Sym
set_option maxRecDepth 100000
noncomputable section
theorem da71:AnsOK Tryz.prog di71.f di71.xs di71.a:=ran dl2_ok (by kernel_rfl) (by kernel_rfl) (by kernel_rfl) (by kernel_rfl)
theorem da18:AnsOK Tryz.prog di18.f di18.xs di18.a:=ran dl2_ok (by kernel_rfl) (by kernel_rfl) (by kernel_rfl) (by kernel_rfl)
theorem da34:AnsOK Tryz.prog di34.f di34.xs di34.a:=ran dl2_ok (by kernel_rfl) (by kernel_rfl) (by kernel_rfl) (by kernel_rfl)
theorem da108:AnsOK Tryz.prog di108.f di108.xs di108.a:=ran dl2_ok (by kernel_rfl) (by kernel_rfl) (by kernel_rfl) (by kernel_rfl)
end
end Go.Proofs.YtjejefeomeddhaaGreat
