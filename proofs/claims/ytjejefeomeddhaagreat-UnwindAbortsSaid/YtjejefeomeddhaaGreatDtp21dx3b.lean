/- Answers of stage 3. -/
import Derived.Test.YtjejefeomeddhaaGreatDtl21dx3
set_option linter.unusedSimpArgs false
variable [Go.Eng.Rho]
set_option linter.unusedSectionVars false
namespace Go.Proofs.YtjejefeomeddhaaGreat
set_option linter.unusedVariables false
open Go Go.Eng Go.Sym
set_option maxRecDepth 100000
noncomputable section
theorem da140:AnsOK Tryz.prog di140.f di140.xs di140.a:=ran dl3_ok (by kernel_rfl) (by kernel_rfl) (by kernel_rfl) (by kernel_rfl)
theorem da78:AnsOK Tryz.prog di78.f di78.xs di78.a:=ran dl3_ok (by kernel_rfl) (by kernel_rfl) (by kernel_rfl) (by kernel_rfl)
theorem da40:AnsOK Tryz.prog di40.f di40.xs di40.a:=ran dl3_ok (by kernel_rfl) (by kernel_rfl) (by kernel_rfl) (by kernel_rfl)
theorem da56:AnsOK Tryz.prog di56.f di56.xs di56.a:=ran dl3_ok (by kernel_rfl) (by kernel_rfl) (by kernel_rfl) (by kernel_rfl)
theorem da122:AnsOK Tryz.prog di122.f di122.xs di122.a:=ran dl3_ok (by kernel_rfl) (by kernel_rfl) (by kernel_rfl) (by kernel_rfl)
theorem da37:AnsOK Tryz.prog di37.f di37.xs di37.a:=ran dl3_ok (by kernel_rfl) (by kernel_rfl) (by kernel_rfl) (by kernel_rfl)
theorem da53:AnsOK Tryz.prog di53.f di53.xs di53.a:=ran dl3_ok (by kernel_rfl) (by kernel_rfl) (by kernel_rfl) (by kernel_rfl)
theorem da20:AnsOK Tryz.prog di20.f di20.xs di20.a:=ran dl3_ok (by kernel_rfl) (by kernel_rfl) (by kernel_rfl) (by kernel_rfl)
theorem da32:AnsOK Tryz.prog di32.f di32.xs di32.a:=ran dl3_ok (by kernel_rfl) (by kernel_rfl) (by kernel_rfl) (by kernel_rfl)
theorem da94:AnsOK Tryz.prog di94.f di94.xs di94.a:=ran dl3_ok (by kernel_rfl) (by kernel_rfl) (by kernel_rfl) (by kernel_rfl)
theorem da106:AnsOK Tryz.prog di106.f di106.xs di106.a:=ran dl3_ok (by kernel_rfl) (by kernel_rfl) (by kernel_rfl) (by kernel_rfl)
theorem da86:AnsOK Tryz.prog di86.f di86.xs di86.a:=ran dl3_ok (by kernel_rfl) (by kernel_rfl) (by kernel_rfl) (by kernel_rfl)
theorem da11:AnsOK Tryz.prog di11.f di11.xs di11.a:=ran dl3_ok (by kernel_rfl) (by kernel_rfl) (by kernel_rfl) (by kernel_rfl)
end
end Go.Proofs.YtjejefeomeddhaaGreat
