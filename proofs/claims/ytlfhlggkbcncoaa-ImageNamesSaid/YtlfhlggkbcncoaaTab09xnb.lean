/- The tables of the functions. -/
import Derived.Test.YtlfhlggkbcncoaaSymN
import Derived.Test.YtlfhlggkbcncoaaSymP
import Derived.Test.YtlfhlggkbcncoaaRows
import Derived.ProofKit
namespace Go.Proofs.Ytlfhlggkbcncoaa
open Go Go.Eng
def md:Nat→Eng.Mode:=fun f=>match f with
 |98=>⟨[],false⟩
 |119=>⟨[],true⟩
 |115=>⟨[],true⟩
 |116=>⟨[],false⟩
 |99=>⟨[],false⟩
 |78=>⟨[],false⟩
 |75=>⟨[(27,2),(44,2),(65,2),(104,2)],false⟩
 |76=>⟨[(3,6),(17,1)],false⟩
 |51=>⟨[],false⟩
 |117=>⟨[(13,1)],false⟩
 |100=>⟨[(9,1)],false⟩
 |77=>⟨[],false⟩
 |52=>⟨[],false⟩
 |102=>⟨[],true⟩
 |118=>⟨[],true⟩
 |101=>⟨[],true⟩
 |79=>⟨[],false⟩
 |105=>⟨[],true⟩
 |106=>⟨[],false⟩
 |107=>⟨[],false⟩
 |108=>⟨[],false⟩
 |109=>⟨[],false⟩
 |83=>⟨[],false⟩
 |84=>⟨[],false⟩
 |80=>⟨[],false⟩
 |103=>⟨[],false⟩
 |104=>⟨[],false⟩
 |81=>⟨[],false⟩
 |53=>⟨[],false⟩
 |30=>⟨[],false⟩
 |82=>⟨[(6,5374345221)],true⟩
 |55=>⟨[(2,65540)],false⟩
 |32=>⟨[],true⟩
 |33=>⟨[],true⟩
 |54=>⟨[],true⟩
 |31=>⟨[],true⟩
 |56=>⟨[],false⟩
 |57=>⟨[],false⟩
 |58=>⟨[(20,65537)],false⟩
 |34=>⟨[],true⟩
 |11=>⟨[],false⟩
 |17=>⟨[],false⟩
 |13=>⟨[],false⟩
 |15=>⟨[],false⟩
 |24=>⟨[],false⟩
 |27=>⟨[],false⟩
 |_=>⟨[],false⟩
def lib:Nat→Option TypeId:=fun f=>match f with
 |_=>none
@[irreducible] noncomputable def t98:AFn:=(fnP Try.prog lib md 98).getD default
@[irreducible] noncomputable def t119:AFn:=(fnP Try.prog lib md 119).getD default
@[irreducible] noncomputable def t115:AFn:=(fnP Try.prog lib md 115).getD default
@[irreducible] noncomputable def t116:AFn:=(fnP Try.prog lib md 116).getD default
@[irreducible] noncomputable def t99:AFn:=(fnP Try.prog lib md 99).getD default
@[irreducible] noncomputable def t78:AFn:=(fnP Try.prog lib md 78).getD default
@[irreducible] noncomputable def t75:AFn:=(fnP Try.prog lib md 75).getD default
@[irreducible] noncomputable def t76:AFn:=(fnP Try.prog lib md 76).getD default
@[irreducible] noncomputable def t51:AFn:=(fnP Try.prog lib md 51).getD default
@[irreducible] noncomputable def t117:AFn:=(fnP Try.prog lib md 117).getD default
@[irreducible] noncomputable def t100:AFn:=(fnP Try.prog lib md 100).getD default
@[irreducible] noncomputable def t77:AFn:=(fnP Try.prog lib md 77).getD default
@[irreducible] noncomputable def t52:AFn:=(fnP Try.prog lib md 52).getD default
@[irreducible] noncomputable def t102:AFn:=(fnP Try.prog lib md 102).getD default
@[irreducible] noncomputable def t118:AFn:=(fnP Try.prog lib md 118).getD default
@[irreducible] noncomputable def t101:AFn:=(fnP Try.prog lib md 101).getD default
@[irreducible] noncomputable def t79:AFn:=(fnP Try.prog lib md 79).getD default
@[irreducible] noncomputable def t105:AFn:=(fnP Try.prog lib md 105).getD default
@[irreducible] noncomputable def t106:AFn:=(fnP Try.prog lib md 106).getD default
@[irreducible] noncomputable def t107:AFn:=(fnP Try.prog lib md 107).getD default
@[irreducible] noncomputable def t108:AFn:=(fnP Try.prog lib md 108).getD default
@[irreducible] noncomputable def t109:AFn:=(fnP Try.prog lib md 109).getD default
@[irreducible] noncomputable def t83:AFn:=(fnP Try.prog lib md 83).getD default
@[irreducible] noncomputable def t84:AFn:=(fnP Try.prog lib md 84).getD default
@[irreducible] noncomputable def t80:AFn:=(fnP Try.prog lib md 80).getD default
@[irreducible] noncomputable def t103:AFn:=(fnP Try.prog lib md 103).getD default
@[irreducible] noncomputable def t104:AFn:=(fnP Try.prog lib md 104).getD default
@[irreducible] noncomputable def t81:AFn:=(fnP Try.prog lib md 81).getD default
@[irreducible] noncomputable def t53:AFn:=(fnP Try.prog lib md 53).getD default
@[irreducible] noncomputable def t30:AFn:=(fnP Try.prog lib md 30).getD default
@[irreducible] noncomputable def t82:AFn:=(fnP Try.prog lib md 82).getD default
@[irreducible] noncomputable def t55:AFn:=(fnP Try.prog lib md 55).getD default
@[irreducible] noncomputable def t32:AFn:=(fnP Try.prog lib md 32).getD default
@[irreducible] noncomputable def t33:AFn:=(fnP Try.prog lib md 33).getD default
@[irreducible] noncomputable def t54:AFn:=(fnP Try.prog lib md 54).getD default
@[irreducible] noncomputable def t31:AFn:=(fnP Try.prog lib md 31).getD default
@[irreducible] noncomputable def t56:AFn:=(fnP Try.prog lib md 56).getD default
@[irreducible] noncomputable def t57:AFn:=(fnP Try.prog lib md 57).getD default
@[irreducible] noncomputable def t58:AFn:=(fnP Try.prog lib md 58).getD default
@[irreducible] noncomputable def t34:AFn:=(fnP Try.prog lib md 34).getD default
@[irreducible] noncomputable def t11:AFn:=(fnP Try.prog lib md 11).getD default
@[irreducible] noncomputable def t17:AFn:=(fnP Try.prog lib md 17).getD default
@[irreducible] noncomputable def t13:AFn:=(fnP Try.prog lib md 13).getD default
@[irreducible] noncomputable def t15:AFn:=(fnP Try.prog lib md 15).getD default
@[irreducible] noncomputable def t24:AFn:=(fnP Try.prog lib md 24).getD default
@[irreducible] noncomputable def t27:AFn:=(fnP Try.prog lib md 27).getD default
noncomputable def tabL:List (Nat×AFn):=[(98,t98),(119,t119),(115,t115),(116,t116),(99,t99),(78,t78),(75,t75),(76,t76),(51,t51),(117,t117),(100,t100),(77,t77),(52,t52),(102,t102),(118,t118),(101,t101),(79,t79),(105,t105),(106,t106),(107,t107),(108,t108),(109,t109),(83,t83),(84,t84),(80,t80),(103,t103),(104,t104),(81,t81),(53,t53),(30,t30),(82,t82),(55,t55),(32,t32),(33,t33),(54,t54),(31,t31),(56,t56),(57,t57),(58,t58),(34,t34),(11,t11),(17,t17),(13,t13),(15,t15),(24,t24),(27,t27)]
noncomputable def tab:Nat→Option AFn:=Go.Sym.tabAt tabL
theorem tab98:fnP Try.prog lib md 98=some t98:=by kernel_rfl
theorem tab119:fnP Try.prog lib md 119=some t119:=by kernel_rfl
theorem tab115:fnP Try.prog lib md 115=some t115:=by kernel_rfl
theorem tab116:fnP Try.prog lib md 116=some t116:=by kernel_rfl
theorem tab99:fnP Try.prog lib md 99=some t99:=by kernel_rfl
theorem tab78:fnP Try.prog lib md 78=some t78:=by kernel_rfl
theorem tab75:fnP Try.prog lib md 75=some t75:=by kernel_rfl
theorem tab76:fnP Try.prog lib md 76=some t76:=by kernel_rfl
theorem tab51:fnP Try.prog lib md 51=some t51:=by kernel_rfl
theorem tab117:fnP Try.prog lib md 117=some t117:=by kernel_rfl
theorem tab100:fnP Try.prog lib md 100=some t100:=by kernel_rfl
theorem tab77:fnP Try.prog lib md 77=some t77:=by kernel_rfl
theorem tab52:fnP Try.prog lib md 52=some t52:=by kernel_rfl
theorem tab102:fnP Try.prog lib md 102=some t102:=by kernel_rfl
theorem tab118:fnP Try.prog lib md 118=some t118:=by kernel_rfl
theorem tab101:fnP Try.prog lib md 101=some t101:=by kernel_rfl
theorem tab79:fnP Try.prog lib md 79=some t79:=by kernel_rfl
theorem tab105:fnP Try.prog lib md 105=some t105:=by kernel_rfl
theorem tab106:fnP Try.prog lib md 106=some t106:=by kernel_rfl
theorem tab107:fnP Try.prog lib md 107=some t107:=by kernel_rfl
theorem tab108:fnP Try.prog lib md 108=some t108:=by kernel_rfl
theorem tab109:fnP Try.prog lib md 109=some t109:=by kernel_rfl
theorem tab83:fnP Try.prog lib md 83=some t83:=by kernel_rfl
theorem tab84:fnP Try.prog lib md 84=some t84:=by kernel_rfl
theorem tab80:fnP Try.prog lib md 80=some t80:=by kernel_rfl
theorem tab103:fnP Try.prog lib md 103=some t103:=by kernel_rfl
theorem tab104:fnP Try.prog lib md 104=some t104:=by kernel_rfl
theorem tab81:fnP Try.prog lib md 81=some t81:=by kernel_rfl
theorem tab53:fnP Try.prog lib md 53=some t53:=by kernel_rfl
theorem tab30:fnP Try.prog lib md 30=some t30:=by kernel_rfl
theorem tab82:fnP Try.prog lib md 82=some t82:=by kernel_rfl
theorem tab55:fnP Try.prog lib md 55=some t55:=by kernel_rfl
theorem tab32:fnP Try.prog lib md 32=some t32:=by kernel_rfl
theorem tab33:fnP Try.prog lib md 33=some t33:=by kernel_rfl
theorem tab54:fnP Try.prog lib md 54=some t54:=by kernel_rfl
theorem tab31:fnP Try.prog lib md 31=some t31:=by kernel_rfl
theorem tab56:fnP Try.prog lib md 56=some t56:=by kernel_rfl
theorem tab57:fnP Try.prog lib md 57=some t57:=by kernel_rfl
theorem tab58:fnP Try.prog lib md 58=some t58:=by kernel_rfl
theorem tab34:fnP Try.prog lib md 34=some t34:=by kernel_rfl
theorem tab11:fnP Try.prog lib md 11=some t11:=by kernel_rfl
theorem tab17:fnP Try.prog lib md 17=some t17:=by kernel_rfl
theorem tab13:fnP Try.prog lib md 13=some t13:=by kernel_rfl
theorem tab15:fnP Try.prog lib md 15=some t15:=by kernel_rfl
theorem tab24:fnP Try.prog lib md 24=some t24:=by kernel_rfl
theorem tab27:fnP Try.prog lib md 27=some t27:=by kernel_rfl
theorem tabOK:∀ f fn,tab f=some fn→fnP Try.prog lib md f=some fn:=Go.Sym.tabAt_ok <| .cons tab98 <| .cons tab119 <| .cons tab115 <| .cons tab116 <| .cons tab99 <| .cons tab78 <| .cons tab75 <| .cons tab76 <| .cons tab51 <| .cons tab117 <| .cons tab100 <| .cons tab77 <| .cons tab52 <| .cons tab102 <| .cons tab118 <| .cons tab101 <| .cons tab79 <| .cons tab105 <| .cons tab106 <| .cons tab107 <| .cons tab108 <| .cons tab109 <| .cons tab83 <| .cons tab84 <| .cons tab80 <| .cons tab103 <| .cons tab104 <| .cons tab81 <| .cons tab53 <| .cons tab30 <| .cons tab82 <| .cons tab55 <| .cons tab32 <| .cons tab33 <| .cons tab54 <| .cons tab31 <| .cons tab56 <| .cons tab57 <| .cons tab58 <| .cons tab34 <| .cons tab11 <| .cons tab17 <| .cons tab13 <| .cons tab15 <| .cons tab24 <| .cons tab27 <| .nil
theorem libOK:∀ f T,lib f=some T→IsLib Try.prog f T:=by
 intro f T h
 unfold lib at h
 split at h
 ·cases h
end Go.Proofs.Ytlfhlggkbcncoaa
