/- Answers of stage 5. -/
import Derived.Test.YtjejefeomeddhaaGreatDtl21dx5
set_option linter.unusedSimpArgs false
variable [Go.Eng.Rho]
set_option linter.unusedSectionVars false
namespace Go.Proofs.YtjejefeomeddhaaGreat
set_option linter.unusedVariables false
open Go Go.Eng Go.Sym
set_option maxRecDepth 100000
noncomputable section
theorem da133:AnsOK Tryz.prog di133.f di133.xs di133.a:=ran dl5_ok (by kernel_rfl) (by kernel_rfl) (by kernel_rfl) (by kernel_rfl)
theorem da91:AnsOK Tryz.prog di91.f di91.xs di91.a:=ran dl5_ok (by kernel_rfl) (by kernel_rfl) (by kernel_rfl) (by kernel_rfl)
theorem da27:AnsOK Tryz.prog di27.f di27.xs di27.a:=ran dl5_ok (by kernel_rfl) (by kernel_rfl) (by kernel_rfl) (by kernel_rfl)
theorem da101:AnsOK Tryz.prog di101.f di101.xs di101.a:=ran dl5_ok (by kernel_rfl) (by kernel_rfl) (by kernel_rfl) (by kernel_rfl)
end
end Go.Proofs.YtjejefeomeddhaaGreat
