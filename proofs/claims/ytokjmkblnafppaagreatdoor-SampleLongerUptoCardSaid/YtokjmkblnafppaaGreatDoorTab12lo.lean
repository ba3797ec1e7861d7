/- A part of the proof: SymP, Tab12lo. -/
import Derived.Test.YtokjmkblnafppaaGreatDoorSymK
import Derived.Test.YtokjmkblnafppaaGreatDoorEngTb
import Derived.Test.YtokjmkblnafppaaGreatDoorPlain2
import Derived.Test.YtokjmkblnafppaaGreatDoorRows
import Derived.ProofKit
import Derived.Test.YtokjmkblnafppaaGreatDoorEngCompact
import Derived.Test.YtokjmkblnafppaaGreatDoorLay12lo
import Derived.Test.YtokjmkblnafppaaGreatDoorSymLb
set_option linter.unusedVariables false
set_option linter.unusedSimpArgs false
namespace Go.Sym
open Go Go.bI
def aeE:Callee:=⟨[],[],[(false,[.bool])],[.bool],0,fun _=>some true⟩
end Go.Sym
namespace Go.Proofs.YtokjmkblnafppaaGreatDoor
open Go Go.bI
def md:Nat→bI.Mode:=fun f=>match f with
 |19=>⟨[],false⟩
 |20=>⟨[],false⟩
 |30=>⟨[],false⟩
 |31=>⟨[],false⟩
 |21=>⟨[],false⟩
 |22=>⟨[],false⟩
 |12=>⟨[(4,262148),(5,262148),(68,1)],false⟩
 |23=>⟨[],true⟩
 |18=>⟨[],false⟩
 |13=>⟨[],false⟩
 |15=>⟨[],false⟩
 |145=>⟨[],false⟩
 |121=>⟨[],true⟩
 |83=>⟨[],true⟩
 |153=>⟨[],false⟩
 |146=>⟨[],false⟩
 |138=>⟨[],false⟩
 |135=>⟨[(27,2),(44,2),(65,2),(104,2)],false⟩
 |136=>⟨[(3,6),(17,1)],false⟩
 |112=>⟨[],false⟩
 |154=>⟨[(13,1)],false⟩
 |147=>⟨[(9,1)],false⟩
 |137=>⟨[],false⟩
 |113=>⟨[],false⟩
 |149=>⟨[],true⟩
 |155=>⟨[],true⟩
 |148=>⟨[],true⟩
 |139=>⟨[],false⟩
 |126=>⟨[],true⟩
 |127=>⟨[],false⟩
 |128=>⟨[],false⟩
 |129=>⟨[],false⟩
 |130=>⟨[],false⟩
 |97=>⟨[],false⟩
 |98=>⟨[],false⟩
 |96=>⟨[],false⟩
 |99=>⟨[],false⟩
 |150=>⟨[],false⟩
 |140=>⟨[],false⟩
 |114=>⟨[],false⟩
 |70=>⟨[],false⟩
 |141=>⟨[(6,9240969221)],true⟩
 |116=>⟨[(2,65540)],false⟩
 |72=>⟨[],true⟩
 |73=>⟨[],true⟩
 |115=>⟨[],true⟩
 |71=>⟨[],true⟩
 |117=>⟨[],false⟩
 |118=>⟨[],false⟩
 |119=>⟨[(20,65537)],false⟩
 |74=>⟨[],true⟩
 |49=>⟨[],false⟩
 |34=>⟨[],false⟩
 |35=>⟨[],false⟩
 |75=>⟨[],false⟩
 |77=>⟨[],true⟩
 |120=>⟨[(28,1)],false⟩
 |76=>⟨[(24,3),(40,1),(10,1)],true⟩
 |50=>⟨[(13,1)],false⟩
 |55=>⟨[(2,65540),(38,1)],false⟩
 |78=>⟨[],false⟩
 |79=>⟨[],false⟩
 |80=>⟨[],false⟩
 |51=>⟨[(13,65537)],false⟩
 |81=>⟨[],false⟩
 |144=>⟨[],false⟩
 |122=>⟨[],false⟩
 |85=>⟨[],false⟩
 |84=>⟨[(6,2)],true⟩
 |82=>⟨[],true⟩
 |86=>⟨[(6,2)],true⟩
 |87=>⟨[(11,2)],false⟩
 |88=>⟨[],false⟩
 |123=>⟨[(6,2)],true⟩
 |89=>⟨[],false⟩
 |52=>⟨[(37,2),(86,2),(119,2),(126,2),(133,2),(139,2),(152,2),(165,2),(182,2),(218,2)],false⟩
 |124=>⟨[],false⟩
 |125=>⟨[],false⟩
 |93=>⟨[],false⟩
 |90=>⟨[(19,131071)],false⟩
 |91=>⟨[],false⟩
 |92=>⟨[],false⟩
 |53=>⟨[(45,3),(105,1),(28,1),(25,1),(91,1),(31,1)],false⟩
 |94=>⟨[],false⟩
 |95=>⟨[],true⟩
 |54=>⟨[(74,1),(39,1)],false⟩
 |56=>⟨[],false⟩
 |36=>⟨[],false⟩
 |24=>⟨[],false⟩
 |14=>⟨[(11,1)],false⟩
 |5=>⟨[(44,9),(46,9),(48,9),(50,9),(52,9),(54,9),(56,9),(58,9),(11,262145)],false⟩
 |8=>⟨[(72,9)],false⟩
 |9=>⟨[],false⟩
 |10=>⟨[],false⟩
 |7=>⟨[],false⟩
 |11=>⟨[],false⟩
 |4=>⟨[(100,2),(110,2),(120,2)],false⟩
 |25=>⟨[],false⟩
 |16=>⟨[],false⟩
 |17=>⟨[],false⟩
 |6=>⟨[],false⟩
 |3=>⟨[(27,1)],false⟩
 |_=>⟨[],false⟩
def bq:Nat→Option TypeId:=fun f=>match f with
 |37=>some 33
 |38=>some 34
 |142=>some 1000000
 |143=>some 1000001
 |_=>none
@[irreducible] noncomputable def t30:cV:=(bL Tryz.prog bq md 30).getD default
@[irreducible] noncomputable def t31:cV:=(bL Tryz.prog bq md 31).getD default
@[irreducible] noncomputable def t21:cV:=(bL Tryz.prog bq md 21).getD default
@[irreducible] noncomputable def t12:cV:=(bL Tryz.prog bq md 12).getD default
@[irreducible] noncomputable def t23:cV:=(bL Tryz.prog bq md 23).getD default
@[irreducible] noncomputable def t13:cV:=(bL Tryz.prog bq md 13).getD default
@[irreducible] noncomputable def t15:cV:=(bL Tryz.prog bq md 15).getD default
@[irreducible] noncomputable def t145:cV:=(bL Tryz.prog bq md 145).getD default
@[irreducible] noncomputable def t121:cV:=(bL Tryz.prog bq md 121).getD default
@[irreducible] noncomputable def t83:cV:=(bL Tryz.prog bq md 83).getD default
@[irreducible] noncomputable def t153:cV:=(bL Tryz.prog bq md 153).getD default
@[irreducible] noncomputable def t146:cV:=(bL Tryz.prog bq md 146).getD default
@[irreducible] noncomputable def t138:cV:=(bL Tryz.prog bq md 138).getD default
@[irreducible] noncomputable def t135:cV:=(bL Tryz.prog bq md 135).getD default
@[irreducible] noncomputable def t136:cV:=(bL Tryz.prog bq md 136).getD default
@[irreducible] noncomputable def t112:cV:=(bL Tryz.prog bq md 112).getD default
@[irreducible] noncomputable def t154:cV:=(bL Tryz.prog bq md 154).getD default
@[irreducible] noncomputable def t147:cV:=(bL Tryz.prog bq md 147).getD default
@[irreducible] noncomputable def t137:cV:=(bL Tryz.prog bq md 137).getD default
@[irreducible] noncomputable def t113:cV:=(bL Tryz.prog bq md 113).getD default
@[irreducible] noncomputable def t149:cV:=(bL Tryz.prog bq md 149).getD default
@[irreducible] noncomputable def t155:cV:=(bL Tryz.prog bq md 155).getD default
@[irreducible] noncomputable def t148:cV:=(bL Tryz.prog bq md 148).getD default
@[irreducible] noncomputable def t139:cV:=(bL Tryz.prog bq md 139).getD default
@[irreducible] noncomputable def t126:cV:=(bL Tryz.prog bq md 126).getD default
@[irreducible] noncomputable def t127:cV:=(bL Tryz.prog bq md 127).getD default
@[irreducible] noncomputable def t128:cV:=(bL Tryz.prog bq md 128).getD default
@[irreducible] noncomputable def t129:cV:=(bL Tryz.prog bq md 129).getD default
@[irreducible] noncomputable def t130:cV:=(bL Tryz.prog bq md 130).getD default
@[irreducible] noncomputable def t97:cV:=(bL Tryz.prog bq md 97).getD default
@[irreducible] noncomputable def t98:cV:=(bL Tryz.prog bq md 98).getD default
@[irreducible] noncomputable def t96:cV:=(bL Tryz.prog bq md 96).getD default
@[irreducible] noncomputable def t99:cV:=(bL Tryz.prog bq md 99).getD default
@[irreducible] noncomputable def t150:cV:=(bL Tryz.prog bq md 150).getD default
@[irreducible] noncomputable def t140:cV:=(bL Tryz.prog bq md 140).getD default
@[irreducible] noncomputable def t114:cV:=(bL Tryz.prog bq md 114).getD default
@[irreducible] noncomputable def t70:cV:=(bL Tryz.prog bq md 70).getD default
@[irreducible] noncomputable def t141:cV:=(bL Tryz.prog bq md 141).getD default
@[irreducible] noncomputable def t116:cV:=(bL Tryz.prog bq md 116).getD default
@[irreducible] noncomputable def t72:cV:=(bL Tryz.prog bq md 72).getD default
@[irreducible] noncomputable def t73:cV:=(bL Tryz.prog bq md 73).getD default
@[irreducible] noncomputable def t115:cV:=(bL Tryz.prog bq md 115).getD default
@[irreducible] noncomputable def t71:cV:=(bL Tryz.prog bq md 71).getD default
@[irreducible] noncomputable def t117:cV:=(bL Tryz.prog bq md 117).getD default
@[irreducible] noncomputable def t118:cV:=(bL Tryz.prog bq md 118).getD default
@[irreducible] noncomputable def t119:cV:=(bL Tryz.prog bq md 119).getD default
@[irreducible] noncomputable def t74:cV:=(bL Tryz.prog bq md 74).getD default
@[irreducible] noncomputable def t49:cV:=(bL Tryz.prog bq md 49).getD default
@[irreducible] noncomputable def t34:cV:=(bL Tryz.prog bq md 34).getD default
@[irreducible] noncomputable def t35:cV:=(bL Tryz.prog bq md 35).getD default
@[irreducible] noncomputable def t75:cV:=(bL Tryz.prog bq md 75).getD default
@[irreducible] noncomputable def t77:cV:=(bL Tryz.prog bq md 77).getD default
@[irreducible] noncomputable def t120:cV:=(bL Tryz.prog bq md 120).getD default
@[irreducible] noncomputable def t76:cV:=(bL Tryz.prog bq md 76).getD default
@[irreducible] noncomputable def t50:cV:=(bL Tryz.prog bq md 50).getD default
@[irreducible] noncomputable def t55:cV:=(bL Tryz.prog bq md 55).getD default
@[irreducible] noncomputable def t78:cV:=(bL Tryz.prog bq md 78).getD default
@[irreducible] noncomputable def t79:cV:=(bL Tryz.prog bq md 79).getD default
@[irreducible] noncomputable def t80:cV:=(bL Tryz.prog bq md 80).getD default
@[irreducible] noncomputable def t51:cV:=(bL Tryz.prog bq md 51).getD default
@[irreducible] noncomputable def t81:cV:=(bL Tryz.prog bq md 81).getD default
@[irreducible] noncomputable def t144:cV:=(bL Tryz.prog bq md 144).getD default
@[irreducible] noncomputable def t122:cV:=(bL Tryz.prog bq md 122).getD default
@[irreducible] noncomputable def t85:cV:=(bL Tryz.prog bq md 85).getD default
@[irreducible] noncomputable def t84:cV:=(bL Tryz.prog bq md 84).getD default
@[irreducible] noncomputable def t82:cV:=(bL Tryz.prog bq md 82).getD default
@[irreducible] noncomputable def t86:cV:=(bL Tryz.prog bq md 86).getD default
@[irreducible] noncomputable def t87:cV:=(bL Tryz.prog bq md 87).getD default
@[irreducible] noncomputable def t88:cV:=(bL Tryz.prog bq md 88).getD default
@[irreducible] noncomputable def t123:cV:=(bL Tryz.prog bq md 123).getD default
@[irreducible] noncomputable def t89:cV:=(bL Tryz.prog bq md 89).getD default
@[irreducible] noncomputable def t52:cV:=(bL Tryz.prog bq md 52).getD default
@[irreducible] noncomputable def t124:cV:=(bL Tryz.prog bq md 124).getD default
@[irreducible] noncomputable def t125:cV:=(bL Tryz.prog bq md 125).getD default
@[irreducible] noncomputable def t93:cV:=(bL Tryz.prog bq md 93).getD default
@[irreducible] noncomputable def t90:cV:=(bL Tryz.prog bq md 90).getD default
@[irreducible] noncomputable def t91:cV:=(bL Tryz.prog bq md 91).getD default
@[irreducible] noncomputable def t92:cV:=(bL Tryz.prog bq md 92).getD default
@[irreducible] noncomputable def t53:cV:=(bL Tryz.prog bq md 53).getD default
@[irreducible] noncomputable def t94:cV:=(bL Tryz.prog bq md 94).getD default
@[irreducible] noncomputable def t95:cV:=(bL Tryz.prog bq md 95).getD default
@[irreducible] noncomputable def t54:cV:=(bL Tryz.prog bq md 54).getD default
@[irreducible] noncomputable def t56:cV:=(bL Tryz.prog bq md 56).getD default
@[irreducible] noncomputable def t36:cV:=(bL Tryz.prog bq md 36).getD default
@[irreducible] noncomputable def t24:cV:=(bL Tryz.prog bq md 24).getD default
@[irreducible] noncomputable def t14:cV:=(bL Tryz.prog bq md 14).getD default
@[irreducible] noncomputable def t5:cV:=(bL Tryz.prog bq md 5).getD default
@[irreducible] noncomputable def t8:cV:=(bL Tryz.prog bq md 8).getD default
@[irreducible] noncomputable def t9:cV:=(bL Tryz.prog bq md 9).getD default
@[irreducible] noncomputable def t10:cV:=(bL Tryz.prog bq md 10).getD default
@[irreducible] noncomputable def t7:cV:=(bL Tryz.prog bq md 7).getD default
@[irreducible] noncomputable def t11:cV:=(bL Tryz.prog bq md 11).getD default
@[irreducible] noncomputable def t4:cV:=(bL Tryz.prog bq md 4).getD default
@[irreducible] noncomputable def t25:cV:=(bL Tryz.prog bq md 25).getD default
@[irreducible] noncomputable def t16:cV:=(bL Tryz.prog bq md 16).getD default
@[irreducible] noncomputable def t17:cV:=(bL Tryz.prog bq md 17).getD default
@[irreducible] noncomputable def t6:cV:=(bL Tryz.prog bq md 6).getD default
@[irreducible] noncomputable def t3:cV:=(bL Tryz.prog bq md 3).getD default
noncomputable def aeF:List (Nat×cV):=[(30,t30),(31,t31),(21,t21),(12,t12),(23,t23),(13,t13),(15,t15),(145,t145),(121,t121),(83,t83),(153,t153),(146,t146),(138,t138),(135,t135),(136,t136),(112,t112),(154,t154),(147,t147),(137,t137),(113,t113),(149,t149),(155,t155),(148,t148),(139,t139),(126,t126),(127,t127),(128,t128),(129,t129),(130,t130),(97,t97),(98,t98),(96,t96),(99,t99),(150,t150),(140,t140),(114,t114),(70,t70),(141,t141),(116,t116),(72,t72),(73,t73),(115,t115),(71,t71),(117,t117),(118,t118),(119,t119),(74,t74),(49,t49),(34,t34),(35,t35),(75,t75),(77,t77),(120,t120),(76,t76),(50,t50),(55,t55),(78,t78),(79,t79),(80,t80),(51,t51),(81,t81),(144,t144),(122,t122),(85,t85),(84,t84),(82,t82),(86,t86),(87,t87),(88,t88),(123,t123),(89,t89),(52,t52),(124,t124),(125,t125),(93,t93),(90,t90),(91,t91),(92,t92),(53,t53),(94,t94),(95,t95),(54,t54),(56,t56),(36,t36),(24,t24),(14,t14),(5,t5),(8,t8),(9,t9),(10,t10),(7,t7),(11,t11),(4,t4),(25,t25),(16,t16),(17,t17),(6,t6),(3,t3)]
def Eb:Go.bI.Call:=kI (pL 19 IS) (kI (pL 20 IQ) (kI (pL 22 Gv) (kI (pL 18 Gw) (NH))))
noncomputable def aP:Tb:=⟨Go.Sym.wZ aeF,Eb⟩
theorem aag (xs:List AV) (v:AV) (h:IS xs=some v):aP.O 19 xs [.lf] .lf 0=some (v,[.lf],.lf,0):=by
 show Eb 19 xs [.lf] .lf 0=_
 simp[Eb,kI,pL,CP,h]
theorem aah (xs:List AV) (v:AV) (h:IQ xs=some v):aP.O 20 xs [.lf] .lf 0=some (v,[.lf],.lf,0):=by
 show Eb 20 xs [.lf] .lf 0=_
 simp[Eb,kI,pL,CP,h]
theorem aai (xs:List AV) (v:AV) (h:Gv xs=some v):aP.O 22 xs [.lf] .lf 0=some (v,[.lf],.lf,0):=by
 show Eb 22 xs [.lf] .lf 0=_
 simp[Eb,kI,pL,CP,h]
theorem aaj (xs:List AV) (v:AV) (h:Gw xs=some v):aP.O 18 xs [.lf] .lf 0=some (v,[.lf],.lf,0):=by
 show Eb 18 xs [.lf] .lf 0=_
 simp[Eb,kI,pL,CP,h]
theorem aak:bL Tryz.prog bq md 30=some t30:=by kernel_rfl
theorem aal:bL Tryz.prog bq md 31=some t31:=by kernel_rfl
theorem aam:bL Tryz.prog bq md 21=some t21:=by kernel_rfl
theorem aan:bL Tryz.prog bq md 12=some t12:=by kernel_rfl
theorem aao:bL Tryz.prog bq md 23=some t23:=by kernel_rfl
theorem aap:bL Tryz.prog bq md 13=some t13:=by kernel_rfl
theorem aaq:bL Tryz.prog bq md 15=some t15:=by kernel_rfl
theorem VQ:bL Tryz.prog bq md 145=some t145:=by kernel_rfl
theorem VS:bL Tryz.prog bq md 121=some t121:=by kernel_rfl
theorem aar:bL Tryz.prog bq md 83=some t83:=by kernel_rfl
theorem VT:bL Tryz.prog bq md 153=some t153:=by kernel_rfl
theorem VU:bL Tryz.prog bq md 146=some t146:=by kernel_rfl
theorem VV:bL Tryz.prog bq md 138=some t138:=by kernel_rfl
theorem VW:bL Tryz.prog bq md 135=some t135:=by kernel_rfl
theorem VX:bL Tryz.prog bq md 136=some t136:=by kernel_rfl
theorem VY:bL Tryz.prog bq md 112=some t112:=by kernel_rfl
theorem VZ:bL Tryz.prog bq md 154=some t154:=by kernel_rfl
theorem V0:bL Tryz.prog bq md 147=some t147:=by kernel_rfl
theorem V3:bL Tryz.prog bq md 137=some t137:=by kernel_rfl
theorem V4:bL Tryz.prog bq md 113=some t113:=by kernel_rfl
theorem V5:bL Tryz.prog bq md 149=some t149:=by kernel_rfl
theorem V6:bL Tryz.prog bq md 155=some t155:=by kernel_rfl
theorem V7:bL Tryz.prog bq md 148=some t148:=by kernel_rfl
theorem V8:bL Tryz.prog bq md 139=some t139:=by kernel_rfl
theorem V9:bL Tryz.prog bq md 126=some t126:=by kernel_rfl
theorem Wa:bL Tryz.prog bq md 127=some t127:=by kernel_rfl
theorem Wb:bL Tryz.prog bq md 128=some t128:=by kernel_rfl
theorem Wc:bL Tryz.prog bq md 129=some t129:=by kernel_rfl
theorem Wd:bL Tryz.prog bq md 130=some t130:=by kernel_rfl
theorem aas:bL Tryz.prog bq md 97=some t97:=by kernel_rfl
theorem aat:bL Tryz.prog bq md 98=some t98:=by kernel_rfl
theorem aau:bL Tryz.prog bq md 96=some t96:=by kernel_rfl
theorem aav:bL Tryz.prog bq md 99=some t99:=by kernel_rfl
theorem We:bL Tryz.prog bq md 150=some t150:=by kernel_rfl
theorem Wf:bL Tryz.prog bq md 140=some t140:=by kernel_rfl
theorem Wg:bL Tryz.prog bq md 114=some t114:=by kernel_rfl
theorem aaw:bL Tryz.prog bq md 70=some t70:=by kernel_rfl
theorem Wh:bL Tryz.prog bq md 141=some t141:=by kernel_rfl
theorem Wi:bL Tryz.prog bq md 116=some t116:=by kernel_rfl
theorem aax:bL Tryz.prog bq md 72=some t72:=by kernel_rfl
theorem aay:bL Tryz.prog bq md 73=some t73:=by kernel_rfl
theorem Wj:bL Tryz.prog bq md 115=some t115:=by kernel_rfl
theorem aaz:bL Tryz.prog bq md 71=some t71:=by kernel_rfl
theorem Wl:bL Tryz.prog bq md 117=some t117:=by kernel_rfl
theorem Wm:bL Tryz.prog bq md 118=some t118:=by kernel_rfl
theorem Wn:bL Tryz.prog bq md 119=some t119:=by kernel_rfl
theorem aaA:bL Tryz.prog bq md 74=some t74:=by kernel_rfl
theorem aaB:bL Tryz.prog bq md 49=some t49:=by kernel_rfl
theorem aaC:bL Tryz.prog bq md 34=some t34:=by kernel_rfl
theorem aaD:bL Tryz.prog bq md 35=some t35:=by kernel_rfl
theorem aaE:bL Tryz.prog bq md 75=some t75:=by kernel_rfl
theorem aaF:bL Tryz.prog bq md 77=some t77:=by kernel_rfl
theorem Wo:bL Tryz.prog bq md 120=some t120:=by kernel_rfl
theorem aaG:bL Tryz.prog bq md 76=some t76:=by kernel_rfl
theorem aaH:bL Tryz.prog bq md 50=some t50:=by kernel_rfl
theorem aaI:bL Tryz.prog bq md 55=some t55:=by kernel_rfl
theorem aaJ:bL Tryz.prog bq md 78=some t78:=by kernel_rfl
theorem aaK:bL Tryz.prog bq md 79=some t79:=by kernel_rfl
theorem aaL:bL Tryz.prog bq md 80=some t80:=by kernel_rfl
theorem aaM:bL Tryz.prog bq md 51=some t51:=by kernel_rfl
theorem aaN:bL Tryz.prog bq md 81=some t81:=by kernel_rfl
theorem Wp:bL Tryz.prog bq md 144=some t144:=by kernel_rfl
theorem Wq:bL Tryz.prog bq md 122=some t122:=by kernel_rfl
theorem aaO:bL Tryz.prog bq md 85=some t85:=by kernel_rfl
theorem aaP:bL Tryz.prog bq md 84=some t84:=by kernel_rfl
theorem aaQ:bL Tryz.prog bq md 82=some t82:=by kernel_rfl
theorem aaR:bL Tryz.prog bq md 86=some t86:=by kernel_rfl
theorem aaS:bL Tryz.prog bq md 87=some t87:=by kernel_rfl
theorem aaT:bL Tryz.prog bq md 88=some t88:=by kernel_rfl
theorem Wr:bL Tryz.prog bq md 123=some t123:=by kernel_rfl
theorem aaU:bL Tryz.prog bq md 89=some t89:=by kernel_rfl
theorem aaV:bL Tryz.prog bq md 52=some t52:=by kernel_rfl
theorem Ws:bL Tryz.prog bq md 124=some t124:=by kernel_rfl
theorem Wt:bL Tryz.prog bq md 125=some t125:=by kernel_rfl
theorem aaW:bL Tryz.prog bq md 93=some t93:=by kernel_rfl
theorem aaX:bL Tryz.prog bq md 90=some t90:=by kernel_rfl
theorem aaY:bL Tryz.prog bq md 91=some t91:=by kernel_rfl
theorem aaZ:bL Tryz.prog bq md 92=some t92:=by kernel_rfl
theorem aa0:bL Tryz.prog bq md 53=some t53:=by kernel_rfl
theorem aa1:bL Tryz.prog bq md 94=some t94:=by kernel_rfl
theorem aa2:bL Tryz.prog bq md 95=some t95:=by kernel_rfl
theorem aa3:bL Tryz.prog bq md 54=some t54:=by kernel_rfl
theorem aa4:bL Tryz.prog bq md 56=some t56:=by kernel_rfl
theorem aa5:bL Tryz.prog bq md 36=some t36:=by kernel_rfl
theorem aa6:bL Tryz.prog bq md 24=some t24:=by kernel_rfl
theorem aa7:bL Tryz.prog bq md 14=some t14:=by kernel_rfl
theorem aeG:bL Tryz.prog bq md 5=some t5:=by kernel_rfl
theorem aeH:bL Tryz.prog bq md 8=some t8:=by kernel_rfl
theorem aeI:bL Tryz.prog bq md 9=some t9:=by kernel_rfl
theorem aa8:bL Tryz.prog bq md 10=some t10:=by kernel_rfl
theorem aeJ:bL Tryz.prog bq md 7=some t7:=by kernel_rfl
theorem aa9:bL Tryz.prog bq md 11=some t11:=by kernel_rfl
theorem aeK:bL Tryz.prog bq md 4=some t4:=by kernel_rfl
theorem aba:bL Tryz.prog bq md 25=some t25:=by kernel_rfl
theorem abb:bL Tryz.prog bq md 16=some t16:=by kernel_rfl
theorem abc:bL Tryz.prog bq md 17=some t17:=by kernel_rfl
theorem aeL:bL Tryz.prog bq md 6=some t6:=by kernel_rfl
theorem aeM:bL Tryz.prog bq md 3=some t3:=by kernel_rfl
theorem abd:∀ f fn,aP f=some fn→bL Tryz.prog bq md f=some fn:=Go.Sym.Fw <| .cons aak <| .cons aal <| .cons aam <| .cons aan <| .cons aao <| .cons aap <| .cons aaq <| .cons VQ <| .cons VS <| .cons aar <| .cons VT <| .cons VU <| .cons VV <| .cons VW <| .cons VX <| .cons VY <| .cons VZ <| .cons V0 <| .cons V3 <| .cons V4 <| .cons V5 <| .cons V6 <| .cons V7 <| .cons V8 <| .cons V9 <| .cons Wa <| .cons Wb <| .cons Wc <| .cons Wd <| .cons aas <| .cons aat <| .cons aau <| .cons aav <| .cons We <| .cons Wf <| .cons Wg <| .cons aaw <| .cons Wh <| .cons Wi <| .cons aax <| .cons aay <| .cons Wj <| .cons aaz <| .cons Wl <| .cons Wm <| .cons Wn <| .cons aaA <| .cons aaB <| .cons aaC <| .cons aaD <| .cons aaE <| .cons aaF <| .cons Wo <| .cons aaG <| .cons aaH <| .cons aaI <| .cons aaJ <| .cons aaK <| .cons aaL <| .cons aaM <| .cons aaN <| .cons Wp <| .cons Wq <| .cons aaO <| .cons aaP <| .cons aaQ <| .cons aaR <| .cons aaS <| .cons aaT <| .cons Wr <| .cons aaU <| .cons aaV <| .cons Ws <| .cons Wt <| .cons aaW <| .cons aaX <| .cons aaY <| .cons aaZ <| .cons aa0 <| .cons aa1 <| .cons aa2 <| .cons aa3 <| .cons aa4 <| .cons aa5 <| .cons aa6 <| .cons aa7 <| .cons aeG <| .cons aeH <| .cons aeI <| .cons aa8 <| .cons aeJ <| .cons aa9 <| .cons aeK <| .cons aba <| .cons abb <| .cons abc <| .cons aeL <| .cons aeM <| .nil
theorem Sk:j3 Tryz.prog 37 33:=⟨fun _ _=>⟨_,Tryz.func37,by kernel_rfl,by kernel_rfl,by kernel_rfl,by kernel_rfl⟩,fun h=>absurd h (by decide),fun h=>absurd h (by decide)⟩
theorem Sl:j3 Tryz.prog 38 34:=⟨fun _ _=>⟨_,Tryz.func38,by kernel_rfl,by kernel_rfl,by kernel_rfl,by kernel_rfl⟩,fun h=>absurd h (by decide),fun h=>absurd h (by decide)⟩
theorem OH:j3 Tryz.prog 142 1000000:=⟨fun h=>absurd rfl h,fun _=>K8 Tryz.Sb ⟨_,Tryz.func142,by kernel_rfl,by kernel_rfl⟩,fun h=>absurd h (by decide)⟩
theorem OI:j3 Tryz.prog 143 1000001:=⟨fun _ h=>absurd rfl h,fun h=>absurd h (by decide),fun _=>Dx Tryz.VN ⟨_,Tryz.func143,by kernel_rfl,by kernel_rfl⟩⟩
theorem abe:∀ f T,bq f=some T→j3 Tryz.prog f T:=by
 intro f T h
 unfold bq at h
 split at h
 ·injection h with h;subst h;exact Sk
 ·injection h with h;subst h;exact Sl
 ·injection h with h;subst h;exact OH
 ·injection h with h;subst h;exact OI
 ·cases h
end Go.Proofs.YtokjmkblnafppaaGreatDoor
