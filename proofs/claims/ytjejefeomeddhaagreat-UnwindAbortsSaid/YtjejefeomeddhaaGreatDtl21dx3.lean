/- A part of the proof: Dtp21dx2a, Dtl21dx3. -/
import Derived.Test.YtjejefeomeddhaaGreatDtl21dx2
import Derived.Test.YtjejefeomeddhaaGreatDtp21dx2b
import Derived.Test.YtjejefeomeddhaaGreatDtp21dx2c
import Derived.Test.YtjejefeomeddhaaGreatDtp21dx2d
import Derived.Test.YtjejefeomeddhaaGreatDtp21dx2e
set_option linter.unusedSimpArgs false
variable [Go.Eng.Rho]
set_option linter.unusedSectionVars false
namespace Go.Proofs.YtjejefeomeddhaaGreat
set_option linter.unusedVariables false
open Go Go.Eng Go.Sym
set_option maxRecDepth 100000
noncomputable section
theorem da82:AnsOK Tryz.prog di82.f di82.xs di82.a:=ran dl2_ok (by kernel_rfl) (by kernel_rfl) (by kernel_rfl) (by kernel_rfl)
end
end Go.Proofs.YtjejefeomeddhaaGreat
set_option linter.unusedSectionVars false
namespace Go.Proofs.YtjejefeomeddhaaGreat
set_option linter.unusedVariables false
open Go Go.Eng Go.Sym
set_option maxRecDepth 100000
noncomputable section
def dl3:List KnA:=di124 :: di108 :: di87 :: di34 :: di18 :: di10 :: di76 :: di67 :: di85 :: di14 :: di71 :: di62 :: di82 :: dl2
theorem dl3_ok:∀ k∈dl3,AnsOK Tryz.prog k.f k.xs k.a:=(lc da124 (lc da108 (lc da87 (lc da34 (lc da18 (lc da10 (lc da76 (lc da67 (lc da85 (lc da14 (lc da71 (lc da62 (lc da82 dl2_ok)))))))))))))
end
end Go.Proofs.YtjejefeomeddhaaGreat
