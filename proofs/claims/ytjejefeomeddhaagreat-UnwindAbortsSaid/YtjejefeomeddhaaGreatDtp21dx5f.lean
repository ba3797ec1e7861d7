/- Answers of stage 5. -/
import Derived.Test.YtjejefeomeddhaaGreatDtl21dx5
set_option linter.unusedSimpArgs false
variable [Go.Eng.Rho]
set_option linter.unusedSectionVars false
namespace Go.Proofs.YtjejefeomeddhaaGreat
set_option linter.unusedVariables false
open Go Go.Eng Go.Sym
set_option maxRecDepth 100000
noncomputable section
theorem da42:AnsOK Tryz.prog di42.f di42.xs di42.a:=ran dl5_ok (by kernel_rfl) (by kernel_rfl) (by kernel_rfl) (by kernel_rfl)
theorem da58:AnsOK Tryz.prog di58.f di58.xs di58.a:=ran dl5_ok (by kernel_rfl) (by kernel_rfl) (by kernel_rfl) (by kernel_rfl)
theorem da50:AnsOK Tryz.prog di50.f di50.xs di50.a:=ran dl5_ok (by kernel_rfl) (by kernel_rfl) (by kernel_rfl) (by kernel_rfl)
end
end Go.Proofs.YtjejefeomeddhaaGreat
