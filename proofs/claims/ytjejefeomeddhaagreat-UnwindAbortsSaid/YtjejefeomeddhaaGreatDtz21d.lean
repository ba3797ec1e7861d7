/- A part of the proof: Dtp21dx6a, Dtz21d. -/
import Derived.Test.YtjejefeomeddhaaGreatDtl21dx6
set_option linter.unusedSimpArgs false
variable [Go.Eng.Rho]
set_option linter.unusedSectionVars false
namespace Go.Proofs.YtjejefeomeddhaaGreat
set_option linter.unusedVariables false
open Go Go.Eng Go.Sym
set_option maxRecDepth 100000
noncomputable section
theorem da28:AnsOK Tryz.prog di28.f di28.xs di28.a:=ran dl6_ok (by kernel_rfl) (by kernel_rfl) (by kernel_rfl) (by kernel_rfl)
theorem da43:AnsOK Tryz.prog di43.f di43.xs di43.a:=ran dl6_ok (by kernel_rfl) (by kernel_rfl) (by kernel_rfl) (by kernel_rfl)
theorem da51:AnsOK Tryz.prog di51.f di51.xs di51.a:=ran dl6_ok (by kernel_rfl) (by kernel_rfl) (by kernel_rfl) (by kernel_rfl)
theorem da102:AnsOK Tryz.prog di102.f di102.xs di102.a:=ran dl6_ok (by kernel_rfl) (by kernel_rfl) (by kernel_rfl) (by kernel_rfl)
theorem da117:AnsOK Tryz.prog di117.f di117.xs di117.a:=ran dl6_ok (by kernel_rfl) (by kernel_rfl) (by kernel_rfl) (by kernel_rfl)
theorem da134:AnsOK Tryz.prog di134.f di134.xs di134.a:=ran dl6_ok (by kernel_rfl) (by kernel_rfl) (by kernel_rfl) (by kernel_rfl)
theorem da143:AnsOK Tryz.prog di143.f di143.xs di143.a:=ran dl6_ok (by kernel_rfl) (by kernel_rfl) (by kernel_rfl) (by kernel_rfl)
end
end Go.Proofs.YtjejefeomeddhaaGreat
set_option linter.unusedSectionVars false
namespace Go.Proofs.YtjejefeomeddhaaGreat
set_option linter.unusedVariables false
open Go Go.Eng Go.Sym
set_option maxRecDepth 100000
noncomputable section
def dlz:List KnA:=di143 :: di134 :: di117 :: di102 :: di51 :: di43 :: di28 :: dl6
theorem dlz_ok:∀ k∈dlz,AnsOK Tryz.prog k.f k.xs k.a:=(lc da143 (lc da134 (lc da117 (lc da102 (lc da51 (lc da43 (lc da28 dl6_ok)))))))
theorem law_ans:AnsOK Tryz.prog 3 [.d (.rg .i64 (.v 0)),.d (.rg .i64 (.v 1))] (.d (.sc (.bool true))):=ran dlz_ok (by kernel_rfl) (by kernel_rfl) (by kernel_rfl) (by kernel_rfl)
end
end Go.Proofs.YtjejefeomeddhaaGreat
