/- A part of the proof: Dtp21dx3a, Dtl21dx4. -/
import Derived.Test.YtjejefeomeddhaaGreatDtl21dx3
import Derived.Test.YtjejefeomeddhaaGreatDtp21dx3b
set_option linter.unusedSimpArgs false
variable [Go.Eng.Rho]
set_option linter.unusedSectionVars false
namespace Go.Proofs.YtjejefeomeddhaaGreat
set_option linter.unusedVariables false
open Go Go.Eng Go.Sym
set_option maxRecDepth 100000
noncomputable section
theorem da131:AnsOK Tryz.prog di131.f di131.xs di131.a:=ran dl3_ok (by kernel_rfl) (by kernel_rfl) (by kernel_rfl) (by kernel_rfl)
theorem da146:AnsOK Tryz.prog di146.f di146.xs di146.a:=ran dl3_ok (by kernel_rfl) (by kernel_rfl) (by kernel_rfl) (by kernel_rfl)
theorem da48:AnsOK Tryz.prog di48.f di48.xs di48.a:=ran dl3_ok (by kernel_rfl) (by kernel_rfl) (by kernel_rfl) (by kernel_rfl)
theorem da114:AnsOK Tryz.prog di114.f di114.xs di114.a:=ran dl3_ok (by kernel_rfl) (by kernel_rfl) (by kernel_rfl) (by kernel_rfl)
theorem da24:AnsOK Tryz.prog di24.f di24.xs di24.a:=ran dl3_ok (by kernel_rfl) (by kernel_rfl) (by kernel_rfl) (by kernel_rfl)
theorem da30:AnsOK Tryz.prog di30.f di30.xs di30.a:=ran dl3_ok (by kernel_rfl) (by kernel_rfl) (by kernel_rfl) (by kernel_rfl)
theorem da45:AnsOK Tryz.prog di45.f di45.xs di45.a:=ran dl3_ok (by kernel_rfl) (by kernel_rfl) (by kernel_rfl) (by kernel_rfl)
theorem da59:AnsOK Tryz.prog di59.f di59.xs di59.a:=ran dl3_ok (by kernel_rfl) (by kernel_rfl) (by kernel_rfl) (by kernel_rfl)
theorem da25:AnsOK Tryz.prog di25.f di25.xs di25.a:=ran dl3_ok (by kernel_rfl) (by kernel_rfl) (by kernel_rfl) (by kernel_rfl)
theorem da89:AnsOK Tryz.prog di89.f di89.xs di89.a:=ran dl3_ok (by kernel_rfl) (by kernel_rfl) (by kernel_rfl) (by kernel_rfl)
theorem da99:AnsOK Tryz.prog di99.f di99.xs di99.a:=ran dl3_ok (by kernel_rfl) (by kernel_rfl) (by kernel_rfl) (by kernel_rfl)
theorem da151:AnsOK Tryz.prog di151.f di151.xs di151.a:=ran dl3_ok (by kernel_rfl) (by kernel_rfl) (by kernel_rfl) (by kernel_rfl)
theorem da17:AnsOK Tryz.prog di17.f di17.xs di17.a:=ran dl3_ok (by kernel_rfl) (by kernel_rfl) (by kernel_rfl) (by kernel_rfl)
end
end Go.Proofs.YtjejefeomeddhaaGreat
set_option linter.unusedSectionVars false
namespace Go.Proofs.YtjejefeomeddhaaGreat
set_option linter.unusedVariables false
open Go Go.Eng Go.Sym
set_option maxRecDepth 100000
noncomputable section
def dl4:List KnA:=di11 :: di17 :: di86 :: di151 :: di106 :: di99 :: di94 :: di89 :: di32 :: di25 :: di20 :: di59 :: di53 :: di45 :: di37 :: di30 :: di24 :: di122 :: di114 :: di56 :: di48 :: di40 :: di78 :: di146 :: di140 :: di131 :: dl3
theorem dl4_ok:∀ k∈dl4,AnsOK Tryz.prog k.f k.xs k.a:=(lc da11 (lc da17 (lc da86 (lc da151 (lc da106 (lc da99 (lc da94 (lc da89 (lc da32 (lc da25 (lc da20 (lc da59 (lc da53 (lc da45 (lc da37 (lc da30 (lc da24 (lc da122 (lc da114 (lc da56 (lc da48 (lc da40 (lc da78 (lc da146 (lc da140 (lc da131 dl3_ok))))))))))))))))))))))))))
end
end Go.Proofs.YtjejefeomeddhaaGreat
