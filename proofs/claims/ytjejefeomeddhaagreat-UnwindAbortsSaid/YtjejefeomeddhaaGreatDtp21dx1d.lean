/- Answers of stage 1. -/
import Derived.Test.YtjejefeomeddhaaGreatDtl21dx1
set_option linter.unusedSimpArgs false
variable [Go.Eng.Rho]
set_option linter.unusedSectionVars false
namespace Go.Proofs.YtjejefeomeddhaaGreat
set_option linter.unusedVariables false
open Go Go.Eng Go.Sym
set_option maxRecDepth 100000
noncomputable section
theorem da3:AnsOK Tryz.prog di3.f di3.xs di3.a:=ran dl1_ok (by kernel_rfl) (by kernel_rfl) (by kernel_rfl) (by kernel_rfl)
theorem da77:AnsOK Tryz.prog di77.f di77.xs di77.a:=ran dl1_ok (by kernel_rfl) (by kernel_rfl) (by kernel_rfl) (by kernel_rfl)
theorem da19:AnsOK Tryz.prog di19.f di19.xs di19.a:=ran dl1_ok (by kernel_rfl) (by kernel_rfl) (by kernel_rfl) (by kernel_rfl)
theorem da112:AnsOK Tryz.prog di112.f di112.xs di112.a:=ran dl1_ok (by kernel_rfl) (by kernel_rfl) (by kernel_rfl) (by kernel_rfl)
end
end Go.Proofs.YtjejefeomeddhaaGreat
