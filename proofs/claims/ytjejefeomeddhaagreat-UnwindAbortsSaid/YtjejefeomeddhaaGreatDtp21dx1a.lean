/- Answers of stage 1. -/
import Derived.Test.YtjejefeomeddhaaGreatDtl21dx1
set_option linter.unusedSimpArgs false
variable [Go.Eng.Rho]
set_option linter.unusedSectionVars false
namespace Go.Proofs.YtjejefeomeddhaaGreat
set_option linter.unusedVariables false
open Go Go.Eng Go.Sym
set_option maxRecDepth 100000
noncomputable section
theorem da16:AnsOK Tryz.prog di16.f di16.xs di16.a:=ran dl1_ok (by kernel_rfl) (by kernel_rfl) (by kernel_rfl) (by kernel_rfl)
theorem da39:AnsOK Tryz.prog di39.f di39.xs di39.a:=ran dl1_ok (by kernel_rfl) (by kernel_rfl) (by kernel_rfl) (by kernel_rfl)
theorem da129:AnsOK Tryz.prog di129.f di129.xs di129.a:=ran dl1_ok (by kernel_rfl) (by kernel_rfl) (by kernel_rfl) (by kernel_rfl)
end
end Go.Proofs.YtjejefeomeddhaaGreat
