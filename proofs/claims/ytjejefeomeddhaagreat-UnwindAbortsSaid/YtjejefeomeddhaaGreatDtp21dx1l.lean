/- Answers of stage 1. -/
import Derived.Test.YtjejefeomeddhaaGreatDtl21dx1
set_option linter.unusedSimpArgs false
variable [Go.Eng.Rho]
set_option linter.unusedSectionVars false
namespace Go.Proofs.YtjejefeomeddhaaGreat
set_option linter.unusedVariables false
open Go Go.Eng Go.Sym
set_option maxRecDepth 100000
noncomputable section
theorem da63:AnsOK Tryz.prog di63.f di63.xs di63.a:=ran dl1_ok (by kernel_rfl) (by kernel_rfl) (by kernel_rfl) (by kernel_rfl)
theorem da2:AnsOK Tryz.prog di2.f di2.xs di2.a:=ran dl1_ok (by kernel_rfl) (by kernel_rfl) (by kernel_rfl) (by kernel_rfl)
theorem da92:AnsOK Tryz.prog di92.f di92.xs di92.a:=ran dl1_ok (by kernel_rfl) (by kernel_rfl) (by kernel_rfl) (by kernel_rfl)
theorem da88:AnsOK Tryz.prog di88.f di88.xs di88.a:=ran dl1_ok (by kernel_rfl) (by kernel_rfl) (by kernel_rfl) (by kernel_rfl)
end
end Go.Proofs.YtjejefeomeddhaaGreat
