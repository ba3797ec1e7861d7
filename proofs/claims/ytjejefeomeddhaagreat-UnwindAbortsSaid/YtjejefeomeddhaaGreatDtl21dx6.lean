/- A part of the proof: Dtp21dx5c, Dtl21dx6. -/
import Derived.Test.YtjejefeomeddhaaGreatDtl21dx5
import Derived.Test.YtjejefeomeddhaaGreatDtp21dx5a
import Derived.Test.YtjejefeomeddhaaGreatDtp21dx5b
import Derived.Test.YtjejefeomeddhaaGreatDtp21dx5d
import Derived.Test.YtjejefeomeddhaaGreatDtp21dx5e
import Derived.Test.YtjejefeomeddhaaGreatDtp21dx5f
set_option linter.unusedSimpArgs false
variable [Go.Eng.Rho]
set_option linter.unusedSectionVars false
namespace Go.Proofs.YtjejefeomeddhaaGreat
set_option linter.unusedVariables false
open Go Go.Eng Go.Sym
set_option maxRecDepth 100000
noncomputable section
theorem da109:AnsOK Tryz.prog di109.f di109.xs di109.a:=ran dl5_ok (by kernel_rfl) (by kernel_rfl) (by kernel_rfl) (by kernel_rfl)
theorem da153:AnsOK Tryz.prog di153.f di153.xs di153.a:=ran dl5_ok (by kernel_rfl) (by kernel_rfl) (by kernel_rfl) (by kernel_rfl)
end
end Go.Proofs.YtjejefeomeddhaaGreat
set_option linter.unusedSectionVars false
namespace Go.Proofs.YtjejefeomeddhaaGreat
set_option linter.unusedVariables false
open Go Go.Eng Go.Sym
set_option maxRecDepth 100000
noncomputable section
def dl6:List KnA:=di153 :: di142 :: di116 :: di101 :: di50 :: di27 :: di96 :: di91 :: di22 :: di58 :: di42 :: di148 :: di133 :: di109 :: di35 :: di125 :: dl5
theorem dl6_ok:∀ k∈dl6,AnsOK Tryz.prog k.f k.xs k.a:=(lc da153 (lc da142 (lc da116 (lc da101 (lc da50 (lc da27 (lc da96 (lc da91 (lc da22 (lc da58 (lc da42 (lc da148 (lc da133 (lc da109 (lc da35 (lc da125 dl5_ok))))))))))))))))
end
end Go.Proofs.YtjejefeomeddhaaGreat
