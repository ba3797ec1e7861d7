/- The tables of the functions. -/
import Derived.Test.YtgpggimdmcjbpaaSymN
import Derived.Test.YtgpggimdmcjbpaaSymP
import Derived.Test.YtgpggimdmcjbpaaRows
import Derived.ProofKit
namespace Go.Proofs.Ytgpggimdmcjbpaa
open Go Go.Eng
def md:Nat→Eng.Mode:=fun f=>match f with
 |16=>⟨[],false⟩
 |97=>⟨[],false⟩
 |114=>⟨[],true⟩
 |105=>⟨[],true⟩
 |106=>⟨[],false⟩
 |98=>⟨[],false⟩
 |99=>⟨[],false⟩
 |85=>⟨[(27,2),(44,2),(65,2),(104,2)],false⟩
 |86=>⟨[(3,6),(17,1)],false⟩
 |61=>⟨[],false⟩
 |72=>⟨[(13,1)],false⟩
 |62=>⟨[(9,1)],false⟩
 |33=>⟨[],false⟩
 |13=>⟨[],false⟩
 |108=>⟨[],true⟩
 |115=>⟨[],true⟩
 |107=>⟨[],true⟩
 |100=>⟨[],false⟩
 |109=>⟨[],true⟩
 |110=>⟨[],false⟩
 |111=>⟨[],false⟩
 |112=>⟨[],false⟩
 |113=>⟨[],false⟩
 |103=>⟨[],false⟩
 |104=>⟨[],false⟩
 |101=>⟨[],false⟩
 |74=>⟨[],false⟩
 |75=>⟨[],false⟩
 |46=>⟨[],false⟩
 |88=>⟨[],false⟩
 |67=>⟨[],false⟩
 |102=>⟨[(6,6685065221)],true⟩
 |90=>⟨[(2,65540)],false⟩
 |69=>⟨[],true⟩
 |70=>⟨[],true⟩
 |89=>⟨[],true⟩
 |68=>⟨[],true⟩
 |91=>⟨[],false⟩
 |92=>⟨[],false⟩
 |93=>⟨[(20,65537)],false⟩
 |71=>⟨[],true⟩
 |43=>⟨[],false⟩
 |24=>⟨[],false⟩
 |44=>⟨[],false⟩
 |37=>⟨[],false⟩
 |25=>⟨[],false⟩
 |7=>⟨[],false⟩
 |27=>⟨[],false⟩
 |48=>⟨[],true⟩
 |47=>⟨[],true⟩
 |28=>⟨[],false⟩
 |9=>⟨[],false⟩
 |35=>⟨[],false⟩
 |36=>⟨[],false⟩
 |63=>⟨[(22,1),(4,65540)],true⟩
 |38=>⟨[(24,65537)],false⟩
 |17=>⟨[(155,3),(79,1)],false⟩
 |87=>⟨[],false⟩
 |64=>⟨[],false⟩
 |65=>⟨[],false⟩
 |39=>⟨[],false⟩
 |66=>⟨[],false⟩
 |40=>⟨[],false⟩
 |18=>⟨[],false⟩
 |20=>⟨[],false⟩
 |11=>⟨[],false⟩
 |23=>⟨[],false⟩
 |6=>⟨[],false⟩
 |95=>⟨[],false⟩
 |78=>⟨[],false⟩
 |79=>⟨[],false⟩
 |76=>⟨[],false⟩
 |94=>⟨[],false⟩
 |77=>⟨[],false⟩
 |51=>⟨[],false⟩
 |34=>⟨[],false⟩
 |73=>⟨[],false⟩
 |52=>⟨[],false⟩
 |82=>⟨[],false⟩
 |83=>⟨[],false⟩
 |96=>⟨[],false⟩
 |80=>⟨[],false⟩
 |81=>⟨[],false⟩
 |53=>⟨[],false⟩
 |31=>⟨[],false⟩
 |57=>⟨[(2,65540),(19,1),(3,65540),(12,1)],false⟩
 |54=>⟨[(2,65540),(5,65537)],false⟩
 |56=>⟨[(6,65537)],false⟩
 |55=>⟨[(7,65537)],false⟩
 |58=>⟨[],false⟩
 |84=>⟨[],false⟩
 |59=>⟨[],false⟩
 |60=>⟨[(9,65537)],false⟩
 |32=>⟨[(13,65537)],false⟩
 |12=>⟨[],false⟩
 |14=>⟨[],false⟩
 |15=>⟨[],false⟩
 |4=>⟨[],false⟩
 |_=>⟨[],false⟩
def lib:Nat→Option TypeId:=fun f=>match f with
 |_=>none
@[irreducible] noncomputable def t16:AFn:=(fnP Try.prog lib md 16).getD default
@[irreducible] noncomputable def t97:AFn:=(fnP Try.prog lib md 97).getD default
@[irreducible] noncomputable def t114:AFn:=(fnP Try.prog lib md 114).getD default
@[irreducible] noncomputable def t105:AFn:=(fnP Try.prog lib md 105).getD default
@[irreducible] noncomputable def t106:AFn:=(fnP Try.prog lib md 106).getD default
@[irreducible] noncomputable def t98:AFn:=(fnP Try.prog lib md 98).getD default
@[irreducible] noncomputable def t99:AFn:=(fnP Try.prog lib md 99).getD default
@[irreducible] noncomputable def t85:AFn:=(fnP Try.prog lib md 85).getD default
@[irreducible] noncomputable def t86:AFn:=(fnP Try.prog lib md 86).getD default
@[irreducible] noncomputable def t61:AFn:=(fnP Try.prog lib md 61).getD default
@[irreducible] noncomputable def t72:AFn:=(fnP Try.prog lib md 72).getD default
@[irreducible] noncomputable def t62:AFn:=(fnP Try.prog lib md 62).getD default
@[irreducible] noncomputable def t33:AFn:=(fnP Try.prog lib md 33).getD default
@[irreducible] noncomputable def t13:AFn:=(fnP Try.prog lib md 13).getD default
@[irreducible] noncomputable def t108:AFn:=(fnP Try.prog lib md 108).getD default
@[irreducible] noncomputable def t115:AFn:=(fnP Try.prog lib md 115).getD default
@[irreducible] noncomputable def t107:AFn:=(fnP Try.prog lib md 107).getD default
@[irreducible] noncomputable def t100:AFn:=(fnP Try.prog lib md 100).getD default
@[irreducible] noncomputable def t109:AFn:=(fnP Try.prog lib md 109).getD default
@[irreducible] noncomputable def t110:AFn:=(fnP Try.prog lib md 110).getD default
@[irreducible] noncomputable def t111:AFn:=(fnP Try.prog lib md 111).getD default
@[irreducible] noncomputable def t112:AFn:=(fnP Try.prog lib md 112).getD default
@[irreducible] noncomputable def t113:AFn:=(fnP Try.prog lib md 113).getD default
@[irreducible] noncomputable def t103:AFn:=(fnP Try.prog lib md 103).getD default
@[irreducible] noncomputable def t104:AFn:=(fnP Try.prog lib md 104).getD default
@[irreducible] noncomputable def t101:AFn:=(fnP Try.prog lib md 101).getD default
@[irreducible] noncomputable def t74:AFn:=(fnP Try.prog lib md 74).getD default
@[irreducible] noncomputable def t75:AFn:=(fnP Try.prog lib md 75).getD default
@[irreducible] noncomputable def t46:AFn:=(fnP Try.prog lib md 46).getD default
@[irreducible] noncomputable def t88:AFn:=(fnP Try.prog lib md 88).getD default
@[irreducible] noncomputable def t67:AFn:=(fnP Try.prog lib md 67).getD default
@[irreducible] noncomputable def t102:AFn:=(fnP Try.prog lib md 102).getD default
@[irreducible] noncomputable def t90:AFn:=(fnP Try.prog lib md 90).getD default
@[irreducible] noncomputable def t69:AFn:=(fnP Try.prog lib md 69).getD default
@[irreducible] noncomputable def t70:AFn:=(fnP Try.prog lib md 70).getD default
@[irreducible] noncomputable def t89:AFn:=(fnP Try.prog lib md 89).getD default
@[irreducible] noncomputable def t68:AFn:=(fnP Try.prog lib md 68).getD default
@[irreducible] noncomputable def t91:AFn:=(fnP Try.prog lib md 91).getD default
@[irreducible] noncomputable def t92:AFn:=(fnP Try.prog lib md 92).getD default
@[irreducible] noncomputable def t93:AFn:=(fnP Try.prog lib md 93).getD default
@[irreducible] noncomputable def t71:AFn:=(fnP Try.prog lib md 71).getD default
@[irreducible] noncomputable def t43:AFn:=(fnP Try.prog lib md 43).getD default
@[irreducible] noncomputable def t24:AFn:=(fnP Try.prog lib md 24).getD default
@[irreducible] noncomputable def t44:AFn:=(fnP Try.prog lib md 44).getD default
@[irreducible] noncomputable def t37:AFn:=(fnP Try.prog lib md 37).getD default
@[irreducible] noncomputable def t25:AFn:=(fnP Try.prog lib md 25).getD default
@[irreducible] noncomputable def t7:AFn:=(fnP Try.prog lib md 7).getD default
@[irreducible] noncomputable def t27:AFn:=(fnP Try.prog lib md 27).getD default
@[irreducible] noncomputable def t48:AFn:=(fnP Try.prog lib md 48).getD default
@[irreducible] noncomputable def t47:AFn:=(fnP Try.prog lib md 47).getD default
@[irreducible] noncomputable def t28:AFn:=(fnP Try.prog lib md 28).getD default
@[irreducible] noncomputable def t9:AFn:=(fnP Try.prog lib md 9).getD default
@[irreducible] noncomputable def t35:AFn:=(fnP Try.prog lib md 35).getD default
@[irreducible] noncomputable def t36:AFn:=(fnP Try.prog lib md 36).getD default
@[irreducible] noncomputable def t63:AFn:=(fnP Try.prog lib md 63).getD default
@[irreducible] noncomputable def t38:AFn:=(fnP Try.prog lib md 38).getD default
@[irreducible] noncomputable def t17:AFn:=(fnP Try.prog lib md 17).getD default
@[irreducible] noncomputable def t87:AFn:=(fnP Try.prog lib md 87).getD default
@[irreducible] noncomputable def t64:AFn:=(fnP Try.prog lib md 64).getD default
@[irreducible] noncomputable def t65:AFn:=(fnP Try.prog lib md 65).getD default
@[irreducible] noncomputable def t39:AFn:=(fnP Try.prog lib md 39).getD default
@[irreducible] noncomputable def t66:AFn:=(fnP Try.prog lib md 66).getD default
@[irreducible] noncomputable def t40:AFn:=(fnP Try.prog lib md 40).getD default
@[irreducible] noncomputable def t18:AFn:=(fnP Try.prog lib md 18).getD default
@[irreducible] noncomputable def t20:AFn:=(fnP Try.prog lib md 20).getD default
@[irreducible] noncomputable def t11:AFn:=(fnP Try.prog lib md 11).getD default
@[irreducible] noncomputable def t23:AFn:=(fnP Try.prog lib md 23).getD default
@[irreducible] noncomputable def t6:AFn:=(fnP Try.prog lib md 6).getD default
@[irreducible] noncomputable def t95:AFn:=(fnP Try.prog lib md 95).getD default
@[irreducible] noncomputable def t78:AFn:=(fnP Try.prog lib md 78).getD default
@[irreducible] noncomputable def t79:AFn:=(fnP Try.prog lib md 79).getD default
@[irreducible] noncomputable def t76:AFn:=(fnP Try.prog lib md 76).getD default
@[irreducible] noncomputable def t94:AFn:=(fnP Try.prog lib md 94).getD default
@[irreducible] noncomputable def t77:AFn:=(fnP Try.prog lib md 77).getD default
@[irreducible] noncomputable def t51:AFn:=(fnP Try.prog lib md 51).getD default
@[irreducible] noncomputable def t34:AFn:=(fnP Try.prog lib md 34).getD default
@[irreducible] noncomputable def t73:AFn:=(fnP Try.prog lib md 73).getD default
@[irreducible] noncomputable def t52:AFn:=(fnP Try.prog lib md 52).getD default
@[irreducible] noncomputable def t82:AFn:=(fnP Try.prog lib md 82).getD default
@[irreducible] noncomputable def t83:AFn:=(fnP Try.prog lib md 83).getD default
@[irreducible] noncomputable def t96:AFn:=(fnP Try.prog lib md 96).getD default
@[irreducible] noncomputable def t80:AFn:=(fnP Try.prog lib md 80).getD default
@[irreducible] noncomputable def t81:AFn:=(fnP Try.prog lib md 81).getD default
@[irreducible] noncomputable def t53:AFn:=(fnP Try.prog lib md 53).getD default
@[irreducible] noncomputable def t31:AFn:=(fnP Try.prog lib md 31).getD default
@[irreducible] noncomputable def t57:AFn:=(fnP Try.prog lib md 57).getD default
@[irreducible] noncomputable def t54:AFn:=(fnP Try.prog lib md 54).getD default
@[irreducible] noncomputable def t56:AFn:=(fnP Try.prog lib md 56).getD default
@[irreducible] noncomputable def t55:AFn:=(fnP Try.prog lib md 55).getD default
@[irreducible] noncomputable def t58:AFn:=(fnP Try.prog lib md 58).getD default
@[irreducible] noncomputable def t84:AFn:=(fnP Try.prog lib md 84).getD default
@[irreducible] noncomputable def t59:AFn:=(fnP Try.prog lib md 59).getD default
@[irreducible] noncomputable def t60:AFn:=(fnP Try.prog lib md 60).getD default
@[irreducible] noncomputable def t32:AFn:=(fnP Try.prog lib md 32).getD default
@[irreducible] noncomputable def t12:AFn:=(fnP Try.prog lib md 12).getD default
@[irreducible] noncomputable def t14:AFn:=(fnP Try.prog lib md 14).getD default
@[irreducible] noncomputable def t15:AFn:=(fnP Try.prog lib md 15).getD default
@[irreducible] noncomputable def t4:AFn:=(fnP Try.prog lib md 4).getD default
noncomputable def tabL:List (Nat×AFn):=[(16,t16),(97,t97),(114,t114),(105,t105),(106,t106),(98,t98),(99,t99),(85,t85),(86,t86),(61,t61),(72,t72),(62,t62),(33,t33),(13,t13),(108,t108),(115,t115),(107,t107),(100,t100),(109,t109),(110,t110),(111,t111),(112,t112),(113,t113),(103,t103),(104,t104),(101,t101),(74,t74),(75,t75),(46,t46),(88,t88),(67,t67),(102,t102),(90,t90),(69,t69),(70,t70),(89,t89),(68,t68),(91,t91),(92,t92),(93,t93),(71,t71),(43,t43),(24,t24),(44,t44),(37,t37),(25,t25),(7,t7),(27,t27),(48,t48),(47,t47),(28,t28),(9,t9),(35,t35),(36,t36),(63,t63),(38,t38),(17,t17),(87,t87),(64,t64),(65,t65),(39,t39),(66,t66),(40,t40),(18,t18),(20,t20),(11,t11),(23,t23),(6,t6),(95,t95),(78,t78),(79,t79),(76,t76),(94,t94),(77,t77),(51,t51),(34,t34),(73,t73),(52,t52),(82,t82),(83,t83),(96,t96),(80,t80),(81,t81),(53,t53),(31,t31),(57,t57),(54,t54),(56,t56),(55,t55),(58,t58),(84,t84),(59,t59),(60,t60),(32,t32),(12,t12),(14,t14),(15,t15),(4,t4)]
noncomputable def tab:Nat→Option AFn:=Go.Sym.tabAt tabL
theorem tab16:fnP Try.prog lib md 16=some t16:=by kernel_rfl
theorem tab97:fnP Try.prog lib md 97=some t97:=by kernel_rfl
theorem tab114:fnP Try.prog lib md 114=some t114:=by kernel_rfl
theorem tab105:fnP Try.prog lib md 105=some t105:=by kernel_rfl
theorem tab106:fnP Try.prog lib md 106=some t106:=by kernel_rfl
theorem tab98:fnP Try.prog lib md 98=some t98:=by kernel_rfl
theorem tab99:fnP Try.prog lib md 99=some t99:=by kernel_rfl
theorem tab85:fnP Try.prog lib md 85=some t85:=by kernel_rfl
theorem tab86:fnP Try.prog lib md 86=some t86:=by kernel_rfl
theorem tab61:fnP Try.prog lib md 61=some t61:=by kernel_rfl
theorem tab72:fnP Try.prog lib md 72=some t72:=by kernel_rfl
theorem tab62:fnP Try.prog lib md 62=some t62:=by kernel_rfl
theorem tab33:fnP Try.prog lib md 33=some t33:=by kernel_rfl
theorem tab13:fnP Try.prog lib md 13=some t13:=by kernel_rfl
theorem tab108:fnP Try.prog lib md 108=some t108:=by kernel_rfl
theorem tab115:fnP Try.prog lib md 115=some t115:=by kernel_rfl
theorem tab107:fnP Try.prog lib md 107=some t107:=by kernel_rfl
theorem tab100:fnP Try.prog lib md 100=some t100:=by kernel_rfl
theorem tab109:fnP Try.prog lib md 109=some t109:=by kernel_rfl
theorem tab110:fnP Try.prog lib md 110=some t110:=by kernel_rfl
theorem tab111:fnP Try.prog lib md 111=some t111:=by kernel_rfl
theorem tab112:fnP Try.prog lib md 112=some t112:=by kernel_rfl
theorem tab113:fnP Try.prog lib md 113=some t113:=by kernel_rfl
theorem tab103:fnP Try.prog lib md 103=some t103:=by kernel_rfl
theorem tab104:fnP Try.prog lib md 104=some t104:=by kernel_rfl
theorem tab101:fnP Try.prog lib md 101=some t101:=by kernel_rfl
theorem tab74:fnP Try.prog lib md 74=some t74:=by kernel_rfl
theorem tab75:fnP Try.prog lib md 75=some t75:=by kernel_rfl
theorem tab46:fnP Try.prog lib md 46=some t46:=by kernel_rfl
theorem tab88:fnP Try.prog lib md 88=some t88:=by kernel_rfl
theorem tab67:fnP Try.prog lib md 67=some t67:=by kernel_rfl
theorem tab102:fnP Try.prog lib md 102=some t102:=by kernel_rfl
theorem tab90:fnP Try.prog lib md 90=some t90:=by kernel_rfl
theorem tab69:fnP Try.prog lib md 69=some t69:=by kernel_rfl
theorem tab70:fnP Try.prog lib md 70=some t70:=by kernel_rfl
theorem tab89:fnP Try.prog lib md 89=some t89:=by kernel_rfl
theorem tab68:fnP Try.prog lib md 68=some t68:=by kernel_rfl
theorem tab91:fnP Try.prog lib md 91=some t91:=by kernel_rfl
theorem tab92:fnP Try.prog lib md 92=some t92:=by kernel_rfl
theorem tab93:fnP Try.prog lib md 93=some t93:=by kernel_rfl
theorem tab71:fnP Try.prog lib md 71=some t71:=by kernel_rfl
theorem tab43:fnP Try.prog lib md 43=some t43:=by kernel_rfl
theorem tab24:fnP Try.prog lib md 24=some t24:=by kernel_rfl
theorem tab44:fnP Try.prog lib md 44=some t44:=by kernel_rfl
theorem tab37:fnP Try.prog lib md 37=some t37:=by kernel_rfl
theorem tab25:fnP Try.prog lib md 25=some t25:=by kernel_rfl
theorem tab7:fnP Try.prog lib md 7=some t7:=by kernel_rfl
theorem tab27:fnP Try.prog lib md 27=some t27:=by kernel_rfl
theorem tab48:fnP Try.prog lib md 48=some t48:=by kernel_rfl
theorem tab47:fnP Try.prog lib md 47=some t47:=by kernel_rfl
theorem tab28:fnP Try.prog lib md 28=some t28:=by kernel_rfl
theorem tab9:fnP Try.prog lib md 9=some t9:=by kernel_rfl
theorem tab35:fnP Try.prog lib md 35=some t35:=by kernel_rfl
theorem tab36:fnP Try.prog lib md 36=some t36:=by kernel_rfl
theorem tab63:fnP Try.prog lib md 63=some t63:=by kernel_rfl
theorem tab38:fnP Try.prog lib md 38=some t38:=by kernel_rfl
theorem tab17:fnP Try.prog lib md 17=some t17:=by kernel_rfl
theorem tab87:fnP Try.prog lib md 87=some t87:=by kernel_rfl
theorem tab64:fnP Try.prog lib md 64=some t64:=by kernel_rfl
theorem tab65:fnP Try.prog lib md 65=some t65:=by kernel_rfl
theorem tab39:fnP Try.prog lib md 39=some t39:=by kernel_rfl
theorem tab66:fnP Try.prog lib md 66=some t66:=by kernel_rfl
theorem tab40:fnP Try.prog lib md 40=some t40:=by kernel_rfl
theorem tab18:fnP Try.prog lib md 18=some t18:=by kernel_rfl
theorem tab20:fnP Try.prog lib md 20=some t20:=by kernel_rfl
theorem tab11:fnP Try.prog lib md 11=some t11:=by kernel_rfl
theorem tab23:fnP Try.prog lib md 23=some t23:=by kernel_rfl
theorem tab6:fnP Try.prog lib md 6=some t6:=by kernel_rfl
theorem tab95:fnP Try.prog lib md 95=some t95:=by kernel_rfl
theorem tab78:fnP Try.prog lib md 78=some t78:=by kernel_rfl
theorem tab79:fnP Try.prog lib md 79=some t79:=by kernel_rfl
theorem tab76:fnP Try.prog lib md 76=some t76:=by kernel_rfl
theorem tab94:fnP Try.prog lib md 94=some t94:=by kernel_rfl
theorem tab77:fnP Try.prog lib md 77=some t77:=by kernel_rfl
theorem tab51:fnP Try.prog lib md 51=some t51:=by kernel_rfl
theorem tab34:fnP Try.prog lib md 34=some t34:=by kernel_rfl
theorem tab73:fnP Try.prog lib md 73=some t73:=by kernel_rfl
theorem tab52:fnP Try.prog lib md 52=some t52:=by kernel_rfl
theorem tab82:fnP Try.prog lib md 82=some t82:=by kernel_rfl
theorem tab83:fnP Try.prog lib md 83=some t83:=by kernel_rfl
theorem tab96:fnP Try.prog lib md 96=some t96:=by kernel_rfl
theorem tab80:fnP Try.prog lib md 80=some t80:=by kernel_rfl
theorem tab81:fnP Try.prog lib md 81=some t81:=by kernel_rfl
theorem tab53:fnP Try.prog lib md 53=some t53:=by kernel_rfl
theorem tab31:fnP Try.prog lib md 31=some t31:=by kernel_rfl
theorem tab57:fnP Try.prog lib md 57=some t57:=by kernel_rfl
theorem tab54:fnP Try.prog lib md 54=some t54:=by kernel_rfl
theorem tab56:fnP Try.prog lib md 56=some t56:=by kernel_rfl
theorem tab55:fnP Try.prog lib md 55=some t55:=by kernel_rfl
theorem tab58:fnP Try.prog lib md 58=some t58:=by kernel_rfl
theorem tab84:fnP Try.prog lib md 84=some t84:=by kernel_rfl
theorem tab59:fnP Try.prog lib md 59=some t59:=by kernel_rfl
theorem tab60:fnP Try.prog lib md 60=some t60:=by kernel_rfl
theorem tab32:fnP Try.prog lib md 32=some t32:=by kernel_rfl
theorem tab12:fnP Try.prog lib md 12=some t12:=by kernel_rfl
theorem tab14:fnP Try.prog lib md 14=some t14:=by kernel_rfl
theorem tab15:fnP Try.prog lib md 15=some t15:=by kernel_rfl
theorem tab4:fnP Try.prog lib md 4=some t4:=by kernel_rfl
theorem tabOK:∀ f fn,tab f=some fn→fnP Try.prog lib md f=some fn:=Go.Sym.tabAt_ok <| .cons tab16 <| .cons tab97 <| .cons tab114 <| .cons tab105 <| .cons tab106 <| .cons tab98 <| .cons tab99 <| .cons tab85 <| .cons tab86 <| .cons tab61 <| .cons tab72 <| .cons tab62 <| .cons tab33 <| .cons tab13 <| .cons tab108 <| .cons tab115 <| .cons tab107 <| .cons tab100 <| .cons tab109 <| .cons tab110 <| .cons tab111 <| .cons tab112 <| .cons tab113 <| .cons tab103 <| .cons tab104 <| .cons tab101 <| .cons tab74 <| .cons tab75 <| .cons tab46 <| .cons tab88 <| .cons tab67 <| .cons tab102 <| .cons tab90 <| .cons tab69 <| .cons tab70 <| .cons tab89 <| .cons tab68 <| .cons tab91 <| .cons tab92 <| .cons tab93 <| .cons tab71 <| .cons tab43 <| .cons tab24 <| .cons tab44 <| .cons tab37 <| .cons tab25 <| .cons tab7 <| .cons tab27 <| .cons tab48 <| .cons tab47 <| .cons tab28 <| .cons tab9 <| .cons tab35 <| .cons tab36 <| .cons tab63 <| .cons tab38 <| .cons tab17 <| .cons tab87 <| .cons tab64 <| .cons tab65 <| .cons tab39 <| .cons tab66 <| .cons tab40 <| .cons tab18 <| .cons tab20 <| .cons tab11 <| .cons tab23 <| .cons tab6 <| .cons tab95 <| .cons tab78 <| .cons tab79 <| .cons tab76 <| .cons tab94 <| .cons tab77 <| .cons tab51 <| .cons tab34 <| .cons tab73 <| .cons tab52 <| .cons tab82 <| .cons tab83 <| .cons tab96 <| .cons tab80 <| .cons tab81 <| .cons tab53 <| .cons tab31 <| .cons tab57 <| .cons tab54 <| .cons tab56 <| .cons tab55 <| .cons tab58 <| .cons tab84 <| .cons tab59 <| .cons tab60 <| .cons tab32 <| .cons tab12 <| .cons tab14 <| .cons tab15 <| .cons tab4 <| .nil
theorem libOK:∀ f T,lib f=some T→IsLib Try.prog f T:=by
 intro f T h
 unfold lib at h
 split at h
 ·cases h
end Go.Proofs.Ytgpggimdmcjbpaa
