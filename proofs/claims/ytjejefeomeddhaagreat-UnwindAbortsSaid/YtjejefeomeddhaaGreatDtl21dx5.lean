/- A part of the proof: Dtp21dx4a, Dtl21dx5. -/
import Derived.Test.YtjejefeomeddhaaGreatDtl21dx4
set_option linter.unusedSimpArgs false
variable [Go.Eng.Rho]
set_option linter.unusedSectionVars false
namespace Go.Proofs.YtjejefeomeddhaaGreat
set_option linter.unusedVariables false
open Go Go.Eng Go.Sym
set_option maxRecDepth 100000
noncomputable section
theorem da12:AnsOK Tryz.prog di12.f di12.xs di12.a:=ran dl4_ok (by kernel_rfl) (by kernel_rfl) (by kernel_rfl) (by kernel_rfl)
theorem da21:AnsOK Tryz.prog di21.f di21.xs di21.a:=ran dl4_ok (by kernel_rfl) (by kernel_rfl) (by kernel_rfl) (by kernel_rfl)
theorem da26:AnsOK Tryz.prog di26.f di26.xs di26.a:=ran dl4_ok (by kernel_rfl) (by kernel_rfl) (by kernel_rfl) (by kernel_rfl)
theorem da33:AnsOK Tryz.prog di33.f di33.xs di33.a:=ran dl4_ok (by kernel_rfl) (by kernel_rfl) (by kernel_rfl) (by kernel_rfl)
theorem da41:AnsOK Tryz.prog di41.f di41.xs di41.a:=ran dl4_ok (by kernel_rfl) (by kernel_rfl) (by kernel_rfl) (by kernel_rfl)
theorem da49:AnsOK Tryz.prog di49.f di49.xs di49.a:=ran dl4_ok (by kernel_rfl) (by kernel_rfl) (by kernel_rfl) (by kernel_rfl)
theorem da57:AnsOK Tryz.prog di57.f di57.xs di57.a:=ran dl4_ok (by kernel_rfl) (by kernel_rfl) (by kernel_rfl) (by kernel_rfl)
theorem da90:AnsOK Tryz.prog di90.f di90.xs di90.a:=ran dl4_ok (by kernel_rfl) (by kernel_rfl) (by kernel_rfl) (by kernel_rfl)
theorem da95:AnsOK Tryz.prog di95.f di95.xs di95.a:=ran dl4_ok (by kernel_rfl) (by kernel_rfl) (by kernel_rfl) (by kernel_rfl)
theorem da100:AnsOK Tryz.prog di100.f di100.xs di100.a:=ran dl4_ok (by kernel_rfl) (by kernel_rfl) (by kernel_rfl) (by kernel_rfl)
theorem da107:AnsOK Tryz.prog di107.f di107.xs di107.a:=ran dl4_ok (by kernel_rfl) (by kernel_rfl) (by kernel_rfl) (by kernel_rfl)
theorem da115:AnsOK Tryz.prog di115.f di115.xs di115.a:=ran dl4_ok (by kernel_rfl) (by kernel_rfl) (by kernel_rfl) (by kernel_rfl)
theorem da123:AnsOK Tryz.prog di123.f di123.xs di123.a:=ran dl4_ok (by kernel_rfl) (by kernel_rfl) (by kernel_rfl) (by kernel_rfl)
theorem da132:AnsOK Tryz.prog di132.f di132.xs di132.a:=ran dl4_ok (by kernel_rfl) (by kernel_rfl) (by kernel_rfl) (by kernel_rfl)
theorem da141:AnsOK Tryz.prog di141.f di141.xs di141.a:=ran dl4_ok (by kernel_rfl) (by kernel_rfl) (by kernel_rfl) (by kernel_rfl)
theorem da147:AnsOK Tryz.prog di147.f di147.xs di147.a:=ran dl4_ok (by kernel_rfl) (by kernel_rfl) (by kernel_rfl) (by kernel_rfl)
theorem da152:AnsOK Tryz.prog di152.f di152.xs di152.a:=ran dl4_ok (by kernel_rfl) (by kernel_rfl) (by kernel_rfl) (by kernel_rfl)
theorem da93:AnsOK Tryz.prog di93.f di93.xs di93.a:=ran dl4_ok (by kernel_rfl) (by kernel_rfl) (by kernel_rfl) (by kernel_rfl)
theorem da98:AnsOK Tryz.prog di98.f di98.xs di98.a:=ran dl4_ok (by kernel_rfl) (by kernel_rfl) (by kernel_rfl) (by kernel_rfl)
theorem da104:AnsOK Tryz.prog di104.f di104.xs di104.a:=ran dl4_ok (by kernel_rfl) (by kernel_rfl) (by kernel_rfl) (by kernel_rfl)
theorem da111:AnsOK Tryz.prog di111.f di111.xs di111.a:=ran dl4_ok (by kernel_rfl) (by kernel_rfl) (by kernel_rfl) (by kernel_rfl)
theorem da119:AnsOK Tryz.prog di119.f di119.xs di119.a:=ran dl4_ok (by kernel_rfl) (by kernel_rfl) (by kernel_rfl) (by kernel_rfl)
theorem da127:AnsOK Tryz.prog di127.f di127.xs di127.a:=ran dl4_ok (by kernel_rfl) (by kernel_rfl) (by kernel_rfl) (by kernel_rfl)
theorem da136:AnsOK Tryz.prog di136.f di136.xs di136.a:=ran dl4_ok (by kernel_rfl) (by kernel_rfl) (by kernel_rfl) (by kernel_rfl)
theorem da145:AnsOK Tryz.prog di145.f di145.xs di145.a:=ran dl4_ok (by kernel_rfl) (by kernel_rfl) (by kernel_rfl) (by kernel_rfl)
theorem da150:AnsOK Tryz.prog di150.f di150.xs di150.a:=ran dl4_ok (by kernel_rfl) (by kernel_rfl) (by kernel_rfl) (by kernel_rfl)
theorem da154:AnsOK Tryz.prog di154.f di154.xs di154.a:=ran dl4_ok (by kernel_rfl) (by kernel_rfl) (by kernel_rfl) (by kernel_rfl)
theorem da79:AnsOK Tryz.prog di79.f di79.xs di79.a:=ran dl4_ok (by kernel_rfl) (by kernel_rfl) (by kernel_rfl) (by kernel_rfl)
end
end Go.Proofs.YtjejefeomeddhaaGreat
set_option linter.unusedSectionVars false
namespace Go.Proofs.YtjejefeomeddhaaGreat
set_option linter.unusedVariables false
open Go Go.Eng Go.Sym
set_option maxRecDepth 100000
noncomputable section
def dl5:List KnA:=di79 :: di154 :: di150 :: di145 :: di136 :: di127 :: di119 :: di111 :: di104 :: di98 :: di93 :: di152 :: di147 :: di141 :: di132 :: di123 :: di115 :: di107 :: di100 :: di95 :: di90 :: di57 :: di49 :: di41 :: di33 :: di26 :: di21 :: di12 :: dl4
theorem dl5_ok:∀ k∈dl5,AnsOK Tryz.prog k.f k.xs k.a:=(lc da79 (lc da154 (lc da150 (lc da145 (lc da136 (lc da127 (lc da119 (lc da111 (lc da104 (lc da98 (lc da93 (lc da152 (lc da147 (lc da141 (lc da132 (lc da123 (lc da115 (lc da107 (lc da100 (lc da95 (lc da90 (lc da57 (lc da49 (lc da41 (lc da33 (lc da26 (lc da21 (lc da12 dl4_ok))))))))))))))))))))))))))))
end
end Go.Proofs.YtjejefeomeddhaaGreat
