/- Answers of stage 1. -/
import Derived.Test.YtjejefeomeddhaaGreatDtl21dx1
set_option linter.unusedSimpArgs false
variable [Go.Eng.Rho]
set_option linter.unusedSectionVars false
namespace Go.Proofs.YtjejefeomeddhaaGreat
set_option linter.unusedVariables false
open Go Go.Eng Go.Sym
set_option maxRecDepth 100000
noncomputable section
theorem da73:AnsOK Tryz.prog di73.f di73.xs di73.a:=ran dl1_ok (by kernel_rfl) (by kernel_rfl) (by kernel_rfl) (by kernel_rfl)
theorem da135:AnsOK Tryz.prog di135.f di135.xs di135.a:=ran dl1_ok (by kernel_rfl) (by kernel_rfl) (by kernel_rfl) (by kernel_rfl)
theorem da118:AnsOK Tryz.prog di118.f di118.xs di118.a:=ran dl1_ok (by kernel_rfl) (by kernel_rfl) (by kernel_rfl) (by kernel_rfl)
theorem da139:AnsOK Tryz.prog di139.f di139.xs di139.a:=ran dl1_ok (by kernel_rfl) (by kernel_rfl) (by kernel_rfl) (by kernel_rfl)
end
end Go.Proofs.YtjejefeomeddhaaGreat
