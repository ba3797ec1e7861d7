/- A part of the proof: Dtp21dx1e, Dtl21dx2. -/
import Derived.Test.YtjejefeomeddhaaGreatDtl21dx1
import Derived.Test.YtjejefeomeddhaaGreatDtp21dx1a
import Derived.Test.YtjejefeomeddhaaGreatDtp21dx1b
import Derived.Test.YtjejefeomeddhaaGreatDtp21dx1c
import Derived.Test.YtjejefeomeddhaaGreatDtp21dx1d
import Derived.Test.YtjejefeomeddhaaGreatDtp21dx1f
import Derived.Test.YtjejefeomeddhaaGreatDtp21dx1g
import Derived.Test.YtjejefeomeddhaaGreatDtp21dx1h
import Derived.Test.YtjejefeomeddhaaGreatDtp21dx1i
import Derived.Test.YtjejefeomeddhaaGreatDtp21dx1j
import Derived.Test.YtjejefeomeddhaaGreatDtp21dx1k
import Derived.Test.YtjejefeomeddhaaGreatDtp21dx1l
import Derived.Test.YtjejefeomeddhaaGreatDtp21dx1m
import Derived.Test.YtjejefeomeddhaaGreatDtp21dx1n
set_option linter.unusedSimpArgs false
variable [Go.Eng.Rho]
set_option linter.unusedSectionVars false
namespace Go.Proofs.YtjejefeomeddhaaGreat
set_option linter.unusedVariables false
open Go Go.Eng Go.Sym
set_option maxRecDepth 100000
noncomputable section
theorem da8:AnsOK Tryz.prog di8.f di8.xs di8.a:=ran dl1_ok (by kernel_rfl) (by kernel_rfl) (by kernel_rfl) (by kernel_rfl)
theorem da36:AnsOK Tryz.prog di36.f di36.xs di36.a:=ran dl1_ok (by kernel_rfl) (by kernel_rfl) (by kernel_rfl) (by kernel_rfl)
theorem da103:AnsOK Tryz.prog di103.f di103.xs di103.a:=ran dl1_ok (by kernel_rfl) (by kernel_rfl) (by kernel_rfl) (by kernel_rfl)
theorem da113:AnsOK Tryz.prog di113.f di113.xs di113.a:=ran dl1_ok (by kernel_rfl) (by kernel_rfl) (by kernel_rfl) (by kernel_rfl)
end
end Go.Proofs.YtjejefeomeddhaaGreat
set_option linter.unusedSectionVars false
namespace Go.Proofs.YtjejefeomeddhaaGreat
set_option linter.unusedVariables false
open Go Go.Eng Go.Sym
set_option maxRecDepth 100000
noncomputable section
def dl2:List KnA:=di13 :: di139 :: di138 :: di137 :: di130 :: di129 :: di128 :: di121 :: di120 :: di113 :: di112 :: di105 :: di88 :: di55 :: di54 :: di47 :: di46 :: di39 :: di38 :: di31 :: di19 :: di149 :: di103 :: di97 :: di92 :: di29 :: di23 :: di118 :: di110 :: di52 :: di44 :: di36 :: di77 :: di68 :: di74 :: di65 :: di144 :: di135 :: di126 :: di7 :: di2 :: di9 :: di4 :: di72 :: di63 :: di73 :: di64 :: di0 :: di5 :: di6 :: di1 :: di8 :: di3 :: di83 :: di15 :: di16 :: dl1
theorem dl2_ok:∀ k∈dl2,AnsOK Tryz.prog k.f k.xs k.a:=(lc da13 (lc da139 (lc da138 (lc da137 (lc da130 (lc da129 (lc da128 (lc da121 (lc da120 (lc da113 (lc da112 (lc da105 (lc da88 (lc da55 (lc da54 (lc da47 (lc da46 (lc da39 (lc da38 (lc da31 (lc da19 (lc da149 (lc da103 (lc da97 (lc da92 (lc da29 (lc da23 (lc da118 (lc da110 (lc da52 (lc da44 (lc da36 (lc da77 (lc da68 (lc da74 (lc da65 (lc da144 (lc da135 (lc da126 (lc da7 (lc da2 (lc da9 (lc da4 (lc da72 (lc da63 (lc da73 (lc da64 (lc da0 (lc da5 (lc da6 (lc da1 (lc da8 (lc da3 (lc da83 (lc da15 (lc da16 dl1_ok))))))))))))))))))))))))))))))))))))))))))))))))))))))))
end
end Go.Proofs.YtjejefeomeddhaaGreat
