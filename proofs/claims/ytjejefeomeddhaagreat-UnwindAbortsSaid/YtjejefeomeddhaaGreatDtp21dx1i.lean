/- Answers of stage 1. -/
import Derived.Test.YtjejefeomeddhaaGreatDtl21dx1
set_option linter.unusedSimpArgs false
variable [Go.Eng.Rho]
set_option linter.unusedSectionVars false
namespace Go.Proofs.YtjejefeomeddhaaGreat
set_option linter.unusedVariables false
open Go Go.Eng Go.Sym
set_option maxRecDepth 100000
noncomputable section
theorem da0:AnsOK Tryz.prog di0.f di0.xs di0.a:=ran dl1_ok (by kernel_rfl) (by kernel_rfl) (by kernel_rfl) (by kernel_rfl)
theorem da144:AnsOK Tryz.prog di144.f di144.xs di144.a:=ran dl1_ok (by kernel_rfl) (by kernel_rfl) (by kernel_rfl) (by kernel_rfl)
theorem da23:AnsOK Tryz.prog di23.f di23.xs di23.a:=ran dl1_ok (by kernel_rfl) (by kernel_rfl) (by kernel_rfl) (by kernel_rfl)
theorem da47:AnsOK Tryz.prog di47.f di47.xs di47.a:=ran dl1_ok (by kernel_rfl) (by kernel_rfl) (by kernel_rfl) (by kernel_rfl)
theorem da137:AnsOK Tryz.prog di137.f di137.xs di137.a:=ran dl1_ok (by kernel_rfl) (by kernel_rfl) (by kernel_rfl) (by kernel_rfl)
end
end Go.Proofs.YtjejefeomeddhaaGreat
