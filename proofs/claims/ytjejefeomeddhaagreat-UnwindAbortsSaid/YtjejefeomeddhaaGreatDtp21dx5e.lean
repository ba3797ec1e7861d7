/- Answers of stage 5. -/
import Derived.Test.YtjejefeomeddhaaGreatDtl21dx5
set_option linter.unusedSimpArgs false
variable [Go.Eng.Rho]
set_option linter.unusedSectionVars false
namespace Go.Proofs.YtjejefeomeddhaaGreat
set_option linter.unusedVariables false
open Go Go.Eng Go.Sym
set_option maxRecDepth 100000
noncomputable section
theorem da148:AnsOK Tryz.prog di148.f di148.xs di148.a:=ran dl5_ok (by kernel_rfl) (by kernel_rfl) (by kernel_rfl) (by kernel_rfl)
theorem da22:AnsOK Tryz.prog di22.f di22.xs di22.a:=ran dl5_ok (by kernel_rfl) (by kernel_rfl) (by kernel_rfl) (by kernel_rfl)
theorem da96:AnsOK Tryz.prog di96.f di96.xs di96.a:=ran dl5_ok (by kernel_rfl) (by kernel_rfl) (by kernel_rfl) (by kernel_rfl)
theorem da116:AnsOK Tryz.prog di116.f di116.xs di116.a:=ran dl5_ok (by kernel_rfl) (by kernel_rfl) (by kernel_rfl) (by kernel_rfl)
end
end Go.Proofs.YtjejefeomeddhaaGreat
