/- The tables of the functions. -/
import Derived.Test.YtlfhlggkbcncoaaSymN
import Derived.Test.YtlfhlggkbcncoaaSymP
import Derived.Test.YtlfhlggkbcncoaaRows
import Derived.ProofKit
namespace Go.Proofs.Ytlfhlggkbcncoaa
open Go Go.Eng
def md:Nat→Eng.Mode:=fun f=>match f with
 |28=>⟨[],false⟩
 |9=>⟨[],false⟩
 |112=>⟨[],false⟩
 |88=>⟨[],false⟩
 |89=>⟨[],false⟩
 |85=>⟨[],false⟩
 |110=>⟨[],false⟩
 |86=>⟨[],false⟩
 |59=>⟨[],false⟩
 |111=>⟨[],false⟩
 |87=>⟨[],false⟩
 |60=>⟨[],false⟩
 |65=>⟨[],false⟩
 |66=>⟨[],false⟩
 |113=>⟨[],false⟩
 |90=>⟨[],false⟩
 |91=>⟨[],false⟩
 |61=>⟨[],false⟩
 |37=>⟨[],false⟩
 |43=>⟨[(2,65540),(19,1),(3,65540),(12,1)],false⟩
 |40=>⟨[(2,65540),(5,65537)],false⟩
 |42=>⟨[(6,65537)],false⟩
 |41=>⟨[(7,65537)],false⟩
 |44=>⟨[],false⟩
 |67=>⟨[],false⟩
 |45=>⟨[],false⟩
 |46=>⟨[(9,65537)],false⟩
 |21=>⟨[(13,65537)],false⟩
 |18=>⟨[],false⟩
 |26=>⟨[],false⟩
 |98=>⟨[],false⟩
 |119=>⟨[],true⟩
 |115=>⟨[],true⟩
 |116=>⟨[],false⟩
 |99=>⟨[],false⟩
 |78=>⟨[],false⟩
 |75=>⟨[(27,2),(44,2),(65,2),(104,2)],false⟩
 |76=>⟨[(3,6),(17,1)],false⟩
 |51=>⟨[],false⟩
 |117=>⟨[(13,1)],false⟩
 |100=>⟨[(9,1)],false⟩
 |77=>⟨[],false⟩
 |52=>⟨[],false⟩
 |102=>⟨[],true⟩
 |118=>⟨[],true⟩
 |101=>⟨[],true⟩
 |79=>⟨[],false⟩
 |105=>⟨[],true⟩
 |106=>⟨[],false⟩
 |107=>⟨[],false⟩
 |108=>⟨[],false⟩
 |109=>⟨[],false⟩
 |83=>⟨[],false⟩
 |84=>⟨[],false⟩
 |80=>⟨[],false⟩
 |103=>⟨[],false⟩
 |104=>⟨[],false⟩
 |81=>⟨[],false⟩
 |53=>⟨[],false⟩
 |30=>⟨[],false⟩
 |82=>⟨[(6,5374345221)],true⟩
 |55=>⟨[(2,65540)],false⟩
 |32=>⟨[],true⟩
 |33=>⟨[],true⟩
 |54=>⟨[],true⟩
 |31=>⟨[],true⟩
 |56=>⟨[],false⟩
 |57=>⟨[],false⟩
 |58=>⟨[(20,65537)],false⟩
 |34=>⟨[],true⟩
 |11=>⟨[],false⟩
 |17=>⟨[],false⟩
 |13=>⟨[],false⟩
 |20=>⟨[],false⟩
 |29=>⟨[],false⟩
 |10=>⟨[],true⟩
 |15=>⟨[],false⟩
 |5=>⟨[(43,131071)],false⟩
 |_=>⟨[],false⟩
def lib:Nat→Option TypeId:=fun f=>match f with
 |_=>none
@[irreducible] noncomputable def t28:AFn:=(fnP Try.prog lib md 28).getD default
@[irreducible] noncomputable def t9:AFn:=(fnP Try.prog lib md 9).getD default
@[irreducible] noncomputable def t112:AFn:=(fnP Try.prog lib md 112).getD default
@[irreducible] noncomputable def t88:AFn:=(fnP Try.prog lib md 88).getD default
@[irreducible] noncomputable def t89:AFn:=(fnP Try.prog lib md 89).getD default
@[irreducible] noncomputable def t85:AFn:=(fnP Try.prog lib md 85).getD default
@[irreducible] noncomputable def t110:AFn:=(fnP Try.prog lib md 110).getD default
@[irreducible] noncomputable def t86:AFn:=(fnP Try.prog lib md 86).getD default
@[irreducible] noncomputable def t59:AFn:=(fnP Try.prog lib md 59).getD default
@[irreducible] noncomputable def t111:AFn:=(fnP Try.prog lib md 111).getD default
@[irreducible] noncomputable def t87:AFn:=(fnP Try.prog lib md 87).getD default
@[irreducible] noncomputable def t60:AFn:=(fnP Try.prog lib md 60).getD default
@[irreducible] noncomputable def t65:AFn:=(fnP Try.prog lib md 65).getD default
@[irreducible] noncomputable def t66:AFn:=(fnP Try.prog lib md 66).getD default
@[irreducible] noncomputable def t113:AFn:=(fnP Try.prog lib md 113).getD default
@[irreducible] noncomputable def t90:AFn:=(fnP Try.prog lib md 90).getD default
@[irreducible] noncomputable def t91:AFn:=(fnP Try.prog lib md 91).getD default
@[irreducible] noncomputable def t61:AFn:=(fnP Try.prog lib md 61).getD default
@[irreducible] noncomputable def t37:AFn:=(fnP Try.prog lib md 37).getD default
@[irreducible] noncomputable def t43:AFn:=(fnP Try.prog lib md 43).getD default
@[irreducible] noncomputable def t40:AFn:=(fnP Try.prog lib md 40).getD default
@[irreducible] noncomputable def t42:AFn:=(fnP Try.prog lib md 42).getD default
@[irreducible] noncomputable def t41:AFn:=(fnP Try.prog lib md 41).getD default
@[irreducible] noncomputable def t44:AFn:=(fnP Try.prog lib md 44).getD default
@[irreducible] noncomputable def t67:AFn:=(fnP Try.prog lib md 67).getD default
@[irreducible] noncomputable def t45:AFn:=(fnP Try.prog lib md 45).getD default
@[irreducible] noncomputable def t46:AFn:=(fnP Try.prog lib md 46).getD default
@[irreducible] noncomputable def t21:AFn:=(fnP Try.prog lib md 21).getD default
@[irreducible] noncomputable def t18:AFn:=(fnP Try.prog lib md 18).getD default
@[irreducible] noncomputable def t26:AFn:=(fnP Try.prog lib md 26).getD default
@[irreducible] noncomputable def t98:AFn:=(fnP Try.prog lib md 98).getD default
@[irreducible] noncomputable def t119:AFn:=(fnP Try.prog lib md 119).getD default
@[irreducible] noncomputable def t115:AFn:=(fnP Try.prog lib md 115).getD default
@[irreducible] noncomputable def t116:AFn:=(fnP Try.prog lib md 116).getD default
@[irreducible] noncomputable def t99:AFn:=(fnP Try.prog lib md 99).getD default
@[irreducible] noncomputable def t78:AFn:=(fnP Try.prog lib md 78).getD default
@[irreducible] noncomputable def t75:AFn:=(fnP Try.prog lib md 75).getD default
@[irreducible] noncomputable def t76:AFn:=(fnP Try.prog lib md 76).getD default
@[irreducible] noncomputable def t51:AFn:=(fnP Try.prog lib md 51).getD default
@[irreducible] noncomputable def t117:AFn:=(fnP Try.prog lib md 117).getD default
@[irreducible] noncomputable def t100:AFn:=(fnP Try.prog lib md 100).getD default
@[irreducible] noncomputable def t77:AFn:=(fnP Try.prog lib md 77).getD default
@[irreducible] noncomputable def t52:AFn:=(fnP Try.prog lib md 52).getD default
@[irreducible] noncomputable def t102:AFn:=(fnP Try.prog lib md 102).getD default
@[irreducible] noncomputable def t118:AFn:=(fnP Try.prog lib md 118).getD default
@[irreducible] noncomputable def t101:AFn:=(fnP Try.prog lib md 101).getD default
@[irreducible] noncomputable def t79:AFn:=(fnP Try.prog lib md 79).getD default
@[irreducible] noncomputable def t105:AFn:=(fnP Try.prog lib md 105).getD default
@[irreducible] noncomputable def t106:AFn:=(fnP Try.prog lib md 106).getD default
@[irreducible] noncomputable def t107:AFn:=(fnP Try.prog lib md 107).getD default
@[irreducible] noncomputable def t108:AFn:=(fnP Try.prog lib md 108).getD default
@[irreducible] noncomputable def t109:AFn:=(fnP Try.prog lib md 109).getD default
@[irreducible] noncomputable def t83:AFn:=(fnP Try.prog lib md 83).getD default
@[irreducible] noncomputable def t84:AFn:=(fnP Try.prog lib md 84).getD default
@[irreducible] noncomputable def t80:AFn:=(fnP Try.prog lib md 80).getD default
@[irreducible] noncomputable def t103:AFn:=(fnP Try.prog lib md 103).getD default
@[irreducible] noncomputable def t104:AFn:=(fnP Try.prog lib md 104).getD default
@[irreducible] noncomputable def t81:AFn:=(fnP Try.prog lib md 81).getD default
@[irreducible] noncomputable def t53:AFn:=(fnP Try.prog lib md 53).getD default
@[irreducible] noncomputable def t30:AFn:=(fnP Try.prog lib md 30).getD default
@[irreducible] noncomputable def t82:AFn:=(fnP Try.prog lib md 82).getD default
@[irreducible] noncomputable def t55:AFn:=(fnP Try.prog lib md 55).getD default
@[irreducible] noncomputable def t32:AFn:=(fnP Try.prog lib md 32).getD default
@[irreducible] noncomputable def t33:AFn:=(fnP Try.prog lib md 33).getD default
@[irreducible] noncomputable def t54:AFn:=(fnP Try.prog lib md 54).getD default
@[irreducible] noncomputable def t31:AFn:=(fnP Try.prog lib md 31).getD default
@[irreducible] noncomputable def t56:AFn:=(fnP Try.prog lib md 56).getD default
@[irreducible] noncomputable def t57:AFn:=(fnP Try.prog lib md 57).getD default
@[irreducible] noncomputable def t58:AFn:=(fnP Try.prog lib md 58).getD default
@[irreducible] noncomputable def t34:AFn:=(fnP Try.prog lib md 34).getD default
@[irreducible] noncomputable def t11:AFn:=(fnP Try.prog lib md 11).getD default
@[irreducible] noncomputable def t17:AFn:=(fnP Try.prog lib md 17).getD default
@[irreducible] noncomputable def t13:AFn:=(fnP Try.prog lib md 13).getD default
@[irreducible] noncomputable def t20:AFn:=(fnP Try.prog lib md 20).getD default
@[irreducible] noncomputable def t29:AFn:=(fnP Try.prog lib md 29).getD default
@[irreducible] noncomputable def t10:AFn:=(fnP Try.prog lib md 10).getD default
@[irreducible] noncomputable def t15:AFn:=(fnP Try.prog lib md 15).getD default
@[irreducible] noncomputable def t5:AFn:=(fnP Try.prog lib md 5).getD default
noncomputable def tabL:List (Nat×AFn):=[(28,t28),(9,t9),(112,t112),(88,t88),(89,t89),(85,t85),(110,t110),(86,t86),(59,t59),(111,t111),(87,t87),(60,t60),(65,t65),(66,t66),(113,t113),(90,t90),(91,t91),(61,t61),(37,t37),(43,t43),(40,t40),(42,t42),(41,t41),(44,t44),(67,t67),(45,t45),(46,t46),(21,t21),(18,t18),(26,t26),(98,t98),(119,t119),(115,t115),(116,t116),(99,t99),(78,t78),(75,t75),(76,t76),(51,t51),(117,t117),(100,t100),(77,t77),(52,t52),(102,t102),(118,t118),(101,t101),(79,t79),(105,t105),(106,t106),(107,t107),(108,t108),(109,t109),(83,t83),(84,t84),(80,t80),(103,t103),(104,t104),(81,t81),(53,t53),(30,t30),(82,t82),(55,t55),(32,t32),(33,t33),(54,t54),(31,t31),(56,t56),(57,t57),(58,t58),(34,t34),(11,t11),(17,t17),(13,t13),(20,t20),(29,t29),(10,t10),(15,t15),(5,t5)]
noncomputable def tab:Nat→Option AFn:=Go.Sym.tabAt tabL
theorem tab28:fnP Try.prog lib md 28=some t28:=by kernel_rfl
theorem tab9:fnP Try.prog lib md 9=some t9:=by kernel_rfl
theorem tab112:fnP Try.prog lib md 112=some t112:=by kernel_rfl
theorem tab88:fnP Try.prog lib md 88=some t88:=by kernel_rfl
theorem tab89:fnP Try.prog lib md 89=some t89:=by kernel_rfl
theorem tab85:fnP Try.prog lib md 85=some t85:=by kernel_rfl
theorem tab110:fnP Try.prog lib md 110=some t110:=by kernel_rfl
theorem tab86:fnP Try.prog lib md 86=some t86:=by kernel_rfl
theorem tab59:fnP Try.prog lib md 59=some t59:=by kernel_rfl
theorem tab111:fnP Try.prog lib md 111=some t111:=by kernel_rfl
theorem tab87:fnP Try.prog lib md 87=some t87:=by kernel_rfl
theorem tab60:fnP Try.prog lib md 60=some t60:=by kernel_rfl
theorem tab65:fnP Try.prog lib md 65=some t65:=by kernel_rfl
theorem tab66:fnP Try.prog lib md 66=some t66:=by kernel_rfl
theorem tab113:fnP Try.prog lib md 113=some t113:=by kernel_rfl
theorem tab90:fnP Try.prog lib md 90=some t90:=by kernel_rfl
theorem tab91:fnP Try.prog lib md 91=some t91:=by kernel_rfl
theorem tab61:fnP Try.prog lib md 61=some t61:=by kernel_rfl
theorem tab37:fnP Try.prog lib md 37=some t37:=by kernel_rfl
theorem tab43:fnP Try.prog lib md 43=some t43:=by kernel_rfl
theorem tab40:fnP Try.prog lib md 40=some t40:=by kernel_rfl
theorem tab42:fnP Try.prog lib md 42=some t42:=by kernel_rfl
theorem tab41:fnP Try.prog lib md 41=some t41:=by kernel_rfl
theorem tab44:fnP Try.prog lib md 44=some t44:=by kernel_rfl
theorem tab67:fnP Try.prog lib md 67=some t67:=by kernel_rfl
theorem tab45:fnP Try.prog lib md 45=some t45:=by kernel_rfl
theorem tab46:fnP Try.prog lib md 46=some t46:=by kernel_rfl
theorem tab21:fnP Try.prog lib md 21=some t21:=by kernel_rfl
theorem tab18:fnP Try.prog lib md 18=some t18:=by kernel_rfl
theorem tab26:fnP Try.prog lib md 26=some t26:=by kernel_rfl
theorem tab98:fnP Try.prog lib md 98=some t98:=by kernel_rfl
theorem tab119:fnP Try.prog lib md 119=some t119:=by kernel_rfl
theorem tab115:fnP Try.prog lib md 115=some t115:=by kernel_rfl
theorem tab116:fnP Try.prog lib md 116=some t116:=by kernel_rfl
theorem tab99:fnP Try.prog lib md 99=some t99:=by kernel_rfl
theorem tab78:fnP Try.prog lib md 78=some t78:=by kernel_rfl
theorem tab75:fnP Try.prog lib md 75=some t75:=by kernel_rfl
theorem tab76:fnP Try.prog lib md 76=some t76:=by kernel_rfl
theorem tab51:fnP Try.prog lib md 51=some t51:=by kernel_rfl
theorem tab117:fnP Try.prog lib md 117=some t117:=by kernel_rfl
theorem tab100:fnP Try.prog lib md 100=some t100:=by kernel_rfl
theorem tab77:fnP Try.prog lib md 77=some t77:=by kernel_rfl
theorem tab52:fnP Try.prog lib md 52=some t52:=by kernel_rfl
theorem tab102:fnP Try.prog lib md 102=some t102:=by kernel_rfl
theorem tab118:fnP Try.prog lib md 118=some t118:=by kernel_rfl
theorem tab101:fnP Try.prog lib md 101=some t101:=by kernel_rfl
theorem tab79:fnP Try.prog lib md 79=some t79:=by kernel_rfl
theorem tab105:fnP Try.prog lib md 105=some t105:=by kernel_rfl
theorem tab106:fnP Try.prog lib md 106=some t106:=by kernel_rfl
theorem tab107:fnP Try.prog lib md 107=some t107:=by kernel_rfl
theorem tab108:fnP Try.prog lib md 108=some t108:=by kernel_rfl
theorem tab109:fnP Try.prog lib md 109=some t109:=by kernel_rfl
theorem tab83:fnP Try.prog lib md 83=some t83:=by kernel_rfl
theorem tab84:fnP Try.prog lib md 84=some t84:=by kernel_rfl
theorem tab80:fnP Try.prog lib md 80=some t80:=by kernel_rfl
theorem tab103:fnP Try.prog lib md 103=some t103:=by kernel_rfl
theorem tab104:fnP Try.prog lib md 104=some t104:=by kernel_rfl
theorem tab81:fnP Try.prog lib md 81=some t81:=by kernel_rfl
theorem tab53:fnP Try.prog lib md 53=some t53:=by kernel_rfl
theorem tab30:fnP Try.prog lib md 30=some t30:=by kernel_rfl
theorem tab82:fnP Try.prog lib md 82=some t82:=by kernel_rfl
theorem tab55:fnP Try.prog lib md 55=some t55:=by kernel_rfl
theorem tab32:fnP Try.prog lib md 32=some t32:=by kernel_rfl
theorem tab33:fnP Try.prog lib md 33=some t33:=by kernel_rfl
theorem tab54:fnP Try.prog lib md 54=some t54:=by kernel_rfl
theorem tab31:fnP Try.prog lib md 31=some t31:=by kernel_rfl
theorem tab56:fnP Try.prog lib md 56=some t56:=by kernel_rfl
theorem tab57:fnP Try.prog lib md 57=some t57:=by kernel_rfl
theorem tab58:fnP Try.prog lib md 58=some t58:=by kernel_rfl
theorem tab34:fnP Try.prog lib md 34=some t34:=by kernel_rfl
theorem tab11:fnP Try.prog lib md 11=some t11:=by kernel_rfl
theorem tab17:fnP Try.prog lib md 17=some t17:=by kernel_rfl
theorem tab13:fnP Try.prog lib md 13=some t13:=by kernel_rfl
theorem tab20:fnP Try.prog lib md 20=some t20:=by kernel_rfl
theorem tab29:fnP Try.prog lib md 29=some t29:=by kernel_rfl
theorem tab10:fnP Try.prog lib md 10=some t10:=by kernel_rfl
theorem tab15:fnP Try.prog lib md 15=some t15:=by kernel_rfl
theorem tab5:fnP Try.prog lib md 5=some t5:=by kernel_rfl
theorem tabOK:∀ f fn,tab f=some fn→fnP Try.prog lib md f=some fn:=Go.Sym.tabAt_ok <| .cons tab28 <| .cons tab9 <| .cons tab112 <| .cons tab88 <| .cons tab89 <| .cons tab85 <| .cons tab110 <| .cons tab86 <| .cons tab59 <| .cons tab111 <| .cons tab87 <| .cons tab60 <| .cons tab65 <| .cons tab66 <| .cons tab113 <| .cons tab90 <| .cons tab91 <| .cons tab61 <| .cons tab37 <| .cons tab43 <| .cons tab40 <| .cons tab42 <| .cons tab41 <| .cons tab44 <| .cons tab67 <| .cons tab45 <| .cons tab46 <| .cons tab21 <| .cons tab18 <| .cons tab26 <| .cons tab98 <| .cons tab119 <| .cons tab115 <| .cons tab116 <| .cons tab99 <| .cons tab78 <| .cons tab75 <| .cons tab76 <| .cons tab51 <| .cons tab117 <| .cons tab100 <| .cons tab77 <| .cons tab52 <| .cons tab102 <| .cons tab118 <| .cons tab101 <| .cons tab79 <| .cons tab105 <| .cons tab106 <| .cons tab107 <| .cons tab108 <| .cons tab109 <| .cons tab83 <| .cons tab84 <| .cons tab80 <| .cons tab103 <| .cons tab104 <| .cons tab81 <| .cons tab53 <| .cons tab30 <| .cons tab82 <| .cons tab55 <| .cons tab32 <| .cons tab33 <| .cons tab54 <| .cons tab31 <| .cons tab56 <| .cons tab57 <| .cons tab58 <| .cons tab34 <| .cons tab11 <| .cons tab17 <| .cons tab13 <| .cons tab20 <| .cons tab29 <| .cons tab10 <| .cons tab15 <| .cons tab5 <| .nil
theorem libOK:∀ f T,lib f=some T→IsLib Try.prog f T:=by
 intro f T h
 unfold lib at h
 split at h
 ·cases h
end Go.Proofs.Ytlfhlggkbcncoaa
