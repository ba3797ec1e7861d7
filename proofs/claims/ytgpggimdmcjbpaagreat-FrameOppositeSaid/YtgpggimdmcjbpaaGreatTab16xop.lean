/- The tables of the functions. -/
import Derived.Test.YtgpggimdmcjbpaaGreatSymN
import Derived.Test.YtgpggimdmcjbpaaGreatSymP
import Derived.Test.YtgpggimdmcjbpaaGreatRows
import Derived.ProofKit
namespace Go.Proofs.YtgpggimdmcjbpaaGreat
open Go Go.Eng
def md:Nat→Eng.Mode:=fun f=>match f with
 |41=>⟨[],false⟩
 |103=>⟨[],false⟩
 |120=>⟨[],true⟩
 |111=>⟨[],true⟩
 |112=>⟨[],false⟩
 |104=>⟨[],false⟩
 |105=>⟨[],false⟩
 |92=>⟨[(27,2),(44,2),(65,2),(104,2)],false⟩
 |93=>⟨[(3,6),(17,1)],false⟩
 |70=>⟨[],false⟩
 |77=>⟨[(13,1)],false⟩
 |71=>⟨[(9,1)],false⟩
 |47=>⟨[],false⟩
 |24=>⟨[],false⟩
 |114=>⟨[],true⟩
 |121=>⟨[],true⟩
 |113=>⟨[],true⟩
 |106=>⟨[],false⟩
 |115=>⟨[],true⟩
 |116=>⟨[],false⟩
 |117=>⟨[],false⟩
 |118=>⟨[],false⟩
 |119=>⟨[],false⟩
 |109=>⟨[],false⟩
 |110=>⟨[],false⟩
 |107=>⟨[],false⟩
 |90=>⟨[],false⟩
 |91=>⟨[],false⟩
 |67=>⟨[],false⟩
 |94=>⟨[],false⟩
 |72=>⟨[],false⟩
 |108=>⟨[(6,7078281221)],true⟩
 |96=>⟨[(2,65540)],false⟩
 |74=>⟨[],true⟩
 |75=>⟨[],true⟩
 |95=>⟨[],true⟩
 |73=>⟨[],true⟩
 |97=>⟨[],false⟩
 |98=>⟨[],false⟩
 |99=>⟨[(20,65537)],false⟩
 |76=>⟨[],true⟩
 |49=>⟨[],false⟩
 |28=>⟨[],false⟩
 |50=>⟨[],false⟩
 |31=>⟨[],false⟩
 |30=>⟨[],false⟩
 |23=>⟨[],false⟩
 |44=>⟨[],false⟩
 |69=>⟨[],true⟩
 |68=>⟨[],true⟩
 |45=>⟨[],false⟩
 |17=>⟨[],false⟩
 |27=>⟨[],false⟩
 |29=>⟨[],false⟩
 |51=>⟨[(22,1),(4,65540)],true⟩
 |32=>⟨[(24,65537),(2,65540),(33,1)],false⟩
 |8=>⟨[(155,3),(79,1),(183,65537)],false⟩
 |79=>⟨[],false⟩
 |54=>⟨[],false⟩
 |55=>⟨[],false⟩
 |35=>⟨[],false⟩
 |56=>⟨[],false⟩
 |36=>⟨[],false⟩
 |10=>⟨[],false⟩
 |20=>⟨[],false⟩
 |15=>⟨[],false⟩
 |26=>⟨[],false⟩
 |6=>⟨[],false⟩
 |101=>⟨[],false⟩
 |83=>⟨[],false⟩
 |84=>⟨[],false⟩
 |80=>⟨[],false⟩
 |100=>⟨[],false⟩
 |81=>⟨[],false⟩
 |57=>⟨[],false⟩
 |48=>⟨[],false⟩
 |82=>⟨[],false⟩
 |58=>⟨[],false⟩
 |87=>⟨[],false⟩
 |88=>⟨[],false⟩
 |102=>⟨[],false⟩
 |85=>⟨[],false⟩
 |86=>⟨[],false⟩
 |59=>⟨[],false⟩
 |42=>⟨[],false⟩
 |63=>⟨[(2,65540),(19,1),(3,65540),(12,1)],false⟩
 |60=>⟨[(2,65540),(5,65537)],false⟩
 |62=>⟨[(6,65537)],false⟩
 |61=>⟨[(7,65537)],false⟩
 |64=>⟨[],false⟩
 |89=>⟨[],false⟩
 |65=>⟨[],false⟩
 |66=>⟨[(9,65537)],false⟩
 |43=>⟨[(13,65537)],false⟩
 |16=>⟨[],false⟩
 |18=>⟨[],false⟩
 |46=>⟨[],false⟩
 |25=>⟨[],false⟩
 |19=>⟨[],false⟩
 |21=>⟨[],false⟩
 |4=>⟨[(10,327686),(205,1),(203,1),(124,65538)],false⟩
 |_=>⟨[],false⟩
def lib:Nat→Option TypeId:=fun f=>match f with
 |_=>none
@[irreducible] noncomputable def t41:AFn:=(fnP Tryz.prog lib md 41).getD default
@[irreducible] noncomputable def t103:AFn:=(fnP Tryz.prog lib md 103).getD default
@[irreducible] noncomputable def t120:AFn:=(fnP Tryz.prog lib md 120).getD default
@[irreducible] noncomputable def t111:AFn:=(fnP Tryz.prog lib md 111).getD default
@[irreducible] noncomputable def t112:AFn:=(fnP Tryz.prog lib md 112).getD default
@[irreducible] noncomputable def t104:AFn:=(fnP Tryz.prog lib md 104).getD default
@[irreducible] noncomputable def t105:AFn:=(fnP Tryz.prog lib md 105).getD default
@[irreducible] noncomputable def t92:AFn:=(fnP Tryz.prog lib md 92).getD default
@[irreducible] noncomputable def t93:AFn:=(fnP Tryz.prog lib md 93).getD default
@[irreducible] noncomputable def t70:AFn:=(fnP Tryz.prog lib md 70).getD default
@[irreducible] noncomputable def t77:AFn:=(fnP Tryz.prog lib md 77).getD default
@[irreducible] noncomputable def t71:AFn:=(fnP Tryz.prog lib md 71).getD default
@[irreducible] noncomputable def t47:AFn:=(fnP Tryz.prog lib md 47).getD default
@[irreducible] noncomputable def t24:AFn:=(fnP Tryz.prog lib md 24).getD default
@[irreducible] noncomputable def t114:AFn:=(fnP Tryz.prog lib md 114).getD default
@[irreducible] noncomputable def t121:AFn:=(fnP Tryz.prog lib md 121).getD default
@[irreducible] noncomputable def t113:AFn:=(fnP Tryz.prog lib md 113).getD default
@[irreducible] noncomputable def t106:AFn:=(fnP Tryz.prog lib md 106).getD default
@[irreducible] noncomputable def t115:AFn:=(fnP Tryz.prog lib md 115).getD default
@[irreducible] noncomputable def t116:AFn:=(fnP Tryz.prog lib md 116).getD default
@[irreducible] noncomputable def t117:AFn:=(fnP Tryz.prog lib md 117).getD default
@[irreducible] noncomputable def t118:AFn:=(fnP Tryz.prog lib md 118).getD default
@[irreducible] noncomputable def t119:AFn:=(fnP Tryz.prog lib md 119).getD default
@[irreducible] noncomputable def t109:AFn:=(fnP Tryz.prog lib md 109).getD default
@[irreducible] noncomputable def t110:AFn:=(fnP Tryz.prog lib md 110).getD default
@[irreducible] noncomputable def t107:AFn:=(fnP Tryz.prog lib md 107).getD default
@[irreducible] noncomputable def t90:AFn:=(fnP Tryz.prog lib md 90).getD default
@[irreducible] noncomputable def t91:AFn:=(fnP Tryz.prog lib md 91).getD default
@[irreducible] noncomputable def t67:AFn:=(fnP Tryz.prog lib md 67).getD default
@[irreducible] noncomputable def t94:AFn:=(fnP Tryz.prog lib md 94).getD default
@[irreducible] noncomputable def t72:AFn:=(fnP Tryz.prog lib md 72).getD default
@[irreducible] noncomputable def t108:AFn:=(fnP Tryz.prog lib md 108).getD default
@[irreducible] noncomputable def t96:AFn:=(fnP Tryz.prog lib md 96).getD default
@[irreducible] noncomputable def t74:AFn:=(fnP Tryz.prog lib md 74).getD default
@[irreducible] noncomputable def t75:AFn:=(fnP Tryz.prog lib md 75).getD default
@[irreducible] noncomputable def t95:AFn:=(fnP Tryz.prog lib md 95).getD default
@[irreducible] noncomputable def t73:AFn:=(fnP Tryz.prog lib md 73).getD default
@[irreducible] noncomputable def t97:AFn:=(fnP Tryz.prog lib md 97).getD default
@[irreducible] noncomputable def t98:AFn:=(fnP Tryz.prog lib md 98).getD default
@[irreducible] noncomputable def t99:AFn:=(fnP Tryz.prog lib md 99).getD default
@[irreducible] noncomputable def t76:AFn:=(fnP Tryz.prog lib md 76).getD default
@[irreducible] noncomputable def t49:AFn:=(fnP Tryz.prog lib md 49).getD default
@[irreducible] noncomputable def t28:AFn:=(fnP Tryz.prog lib md 28).getD default
@[irreducible] noncomputable def t50:AFn:=(fnP Tryz.prog lib md 50).getD default
@[irreducible] noncomputable def t31:AFn:=(fnP Tryz.prog lib md 31).getD default
@[irreducible] noncomputable def t30:AFn:=(fnP Tryz.prog lib md 30).getD default
@[irreducible] noncomputable def t23:AFn:=(fnP Tryz.prog lib md 23).getD default
@[irreducible] noncomputable def t44:AFn:=(fnP Tryz.prog lib md 44).getD default
@[irreducible] noncomputable def t69:AFn:=(fnP Tryz.prog lib md 69).getD default
@[irreducible] noncomputable def t68:AFn:=(fnP Tryz.prog lib md 68).getD default
@[irreducible] noncomputable def t45:AFn:=(fnP Tryz.prog lib md 45).getD default
@[irreducible] noncomputable def t17:AFn:=(fnP Tryz.prog lib md 17).getD default
@[irreducible] noncomputable def t27:AFn:=(fnP Tryz.prog lib md 27).getD default
@[irreducible] noncomputable def t29:AFn:=(fnP Tryz.prog lib md 29).getD default
@[irreducible] noncomputable def t51:AFn:=(fnP Tryz.prog lib md 51).getD default
@[irreducible] noncomputable def t32:AFn:=(fnP Tryz.prog lib md 32).getD default
@[irreducible] noncomputable def t8:AFn:=(fnP Tryz.prog lib md 8).getD default
@[irreducible] noncomputable def t79:AFn:=(fnP Tryz.prog lib md 79).getD default
@[irreducible] noncomputable def t54:AFn:=(fnP Tryz.prog lib md 54).getD default
@[irreducible] noncomputable def t55:AFn:=(fnP Tryz.prog lib md 55).getD default
@[irreducible] noncomputable def t35:AFn:=(fnP Tryz.prog lib md 35).getD default
@[irreducible] noncomputable def t56:AFn:=(fnP Tryz.prog lib md 56).getD default
@[irreducible] noncomputable def t36:AFn:=(fnP Tryz.prog lib md 36).getD default
@[irreducible] noncomputable def t10:AFn:=(fnP Tryz.prog lib md 10).getD default
@[irreducible] noncomputable def t20:AFn:=(fnP Tryz.prog lib md 20).getD default
@[irreducible] noncomputable def t15:AFn:=(fnP Tryz.prog lib md 15).getD default
@[irreducible] noncomputable def t26:AFn:=(fnP Tryz.prog lib md 26).getD default
@[irreducible] noncomputable def t6:AFn:=(fnP Tryz.prog lib md 6).getD default
@[irreducible] noncomputable def t101:AFn:=(fnP Tryz.prog lib md 101).getD default
@[irreducible] noncomputable def t83:AFn:=(fnP Tryz.prog lib md 83).getD default
@[irreducible] noncomputable def t84:AFn:=(fnP Tryz.prog lib md 84).getD default
@[irreducible] noncomputable def t80:AFn:=(fnP Tryz.prog lib md 80).getD default
@[irreducible] noncomputable def t100:AFn:=(fnP Tryz.prog lib md 100).getD default
@[irreducible] noncomputable def t81:AFn:=(fnP Tryz.prog lib md 81).getD default
@[irreducible] noncomputable def t57:AFn:=(fnP Tryz.prog lib md 57).getD default
@[irreducible] noncomputable def t48:AFn:=(fnP Tryz.prog lib md 48).getD default
@[irreducible] noncomputable def t82:AFn:=(fnP Tryz.prog lib md 82).getD default
@[irreducible] noncomputable def t58:AFn:=(fnP Tryz.prog lib md 58).getD default
@[irreducible] noncomputable def t87:AFn:=(fnP Tryz.prog lib md 87).getD default
@[irreducible] noncomputable def t88:AFn:=(fnP Tryz.prog lib md 88).getD default
@[irreducible] noncomputable def t102:AFn:=(fnP Tryz.prog lib md 102).getD default
@[irreducible] noncomputable def t85:AFn:=(fnP Tryz.prog lib md 85).getD default
@[irreducible] noncomputable def t86:AFn:=(fnP Tryz.prog lib md 86).getD default
@[irreducible] noncomputable def t59:AFn:=(fnP Tryz.prog lib md 59).getD default
@[irreducible] noncomputable def t42:AFn:=(fnP Tryz.prog lib md 42).getD default
@[irreducible] noncomputable def t63:AFn:=(fnP Tryz.prog lib md 63).getD default
@[irreducible] noncomputable def t60:AFn:=(fnP Tryz.prog lib md 60).getD default
@[irreducible] noncomputable def t62:AFn:=(fnP Tryz.prog lib md 62).getD default
@[irreducible] noncomputable def t61:AFn:=(fnP Tryz.prog lib md 61).getD default
@[irreducible] noncomputable def t64:AFn:=(fnP Tryz.prog lib md 64).getD default
@[irreducible] noncomputable def t89:AFn:=(fnP Tryz.prog lib md 89).getD default
@[irreducible] noncomputable def t65:AFn:=(fnP Tryz.prog lib md 65).getD default
@[irreducible] noncomputable def t66:AFn:=(fnP Tryz.prog lib md 66).getD default
@[irreducible] noncomputable def t43:AFn:=(fnP Tryz.prog lib md 43).getD default
@[irreducible] noncomputable def t16:AFn:=(fnP Tryz.prog lib md 16).getD default
@[irreducible] noncomputable def t18:AFn:=(fnP Tryz.prog lib md 18).getD default
@[irreducible] noncomputable def t46:AFn:=(fnP Tryz.prog lib md 46).getD default
@[irreducible] noncomputable def t25:AFn:=(fnP Tryz.prog lib md 25).getD default
@[irreducible] noncomputable def t19:AFn:=(fnP Tryz.prog lib md 19).getD default
@[irreducible] noncomputable def t21:AFn:=(fnP Tryz.prog lib md 21).getD default
@[irreducible] noncomputable def t4:AFn:=(fnP Tryz.prog lib md 4).getD default
noncomputable def tabL:List (Nat×AFn):=[(41,t41),(103,t103),(120,t120),(111,t111),(112,t112),(104,t104),(105,t105),(92,t92),(93,t93),(70,t70),(77,t77),(71,t71),(47,t47),(24,t24),(114,t114),(121,t121),(113,t113),(106,t106),(115,t115),(116,t116),(117,t117),(118,t118),(119,t119),(109,t109),(110,t110),(107,t107),(90,t90),(91,t91),(67,t67),(94,t94),(72,t72),(108,t108),(96,t96),(74,t74),(75,t75),(95,t95),(73,t73),(97,t97),(98,t98),(99,t99),(76,t76),(49,t49),(28,t28),(50,t50),(31,t31),(30,t30),(23,t23),(44,t44),(69,t69),(68,t68),(45,t45),(17,t17),(27,t27),(29,t29),(51,t51),(32,t32),(8,t8),(79,t79),(54,t54),(55,t55),(35,t35),(56,t56),(36,t36),(10,t10),(20,t20),(15,t15),(26,t26),(6,t6),(101,t101),(83,t83),(84,t84),(80,t80),(100,t100),(81,t81),(57,t57),(48,t48),(82,t82),(58,t58),(87,t87),(88,t88),(102,t102),(85,t85),(86,t86),(59,t59),(42,t42),(63,t63),(60,t60),(62,t62),(61,t61),(64,t64),(89,t89),(65,t65),(66,t66),(43,t43),(16,t16),(18,t18),(46,t46),(25,t25),(19,t19),(21,t21),(4,t4)]
noncomputable def tab:Nat→Option AFn:=Go.Sym.tabAt tabL
theorem tab41:fnP Tryz.prog lib md 41=some t41:=by kernel_rfl
theorem tab103:fnP Tryz.prog lib md 103=some t103:=by kernel_rfl
theorem tab120:fnP Tryz.prog lib md 120=some t120:=by kernel_rfl
theorem tab111:fnP Tryz.prog lib md 111=some t111:=by kernel_rfl
theorem tab112:fnP Tryz.prog lib md 112=some t112:=by kernel_rfl
theorem tab104:fnP Tryz.prog lib md 104=some t104:=by kernel_rfl
theorem tab105:fnP Tryz.prog lib md 105=some t105:=by kernel_rfl
theorem tab92:fnP Tryz.prog lib md 92=some t92:=by kernel_rfl
theorem tab93:fnP Tryz.prog lib md 93=some t93:=by kernel_rfl
theorem tab70:fnP Tryz.prog lib md 70=some t70:=by kernel_rfl
theorem tab77:fnP Tryz.prog lib md 77=some t77:=by kernel_rfl
theorem tab71:fnP Tryz.prog lib md 71=some t71:=by kernel_rfl
theorem tab47:fnP Tryz.prog lib md 47=some t47:=by kernel_rfl
theorem tab24:fnP Tryz.prog lib md 24=some t24:=by kernel_rfl
theorem tab114:fnP Tryz.prog lib md 114=some t114:=by kernel_rfl
theorem tab121:fnP Tryz.prog lib md 121=some t121:=by kernel_rfl
theorem tab113:fnP Tryz.prog lib md 113=some t113:=by kernel_rfl
theorem tab106:fnP Tryz.prog lib md 106=some t106:=by kernel_rfl
theorem tab115:fnP Tryz.prog lib md 115=some t115:=by kernel_rfl
theorem tab116:fnP Tryz.prog lib md 116=some t116:=by kernel_rfl
theorem tab117:fnP Tryz.prog lib md 117=some t117:=by kernel_rfl
theorem tab118:fnP Tryz.prog lib md 118=some t118:=by kernel_rfl
theorem tab119:fnP Tryz.prog lib md 119=some t119:=by kernel_rfl
theorem tab109:fnP Tryz.prog lib md 109=some t109:=by kernel_rfl
theorem tab110:fnP Tryz.prog lib md 110=some t110:=by kernel_rfl
theorem tab107:fnP Tryz.prog lib md 107=some t107:=by kernel_rfl
theorem tab90:fnP Tryz.prog lib md 90=some t90:=by kernel_rfl
theorem tab91:fnP Tryz.prog lib md 91=some t91:=by kernel_rfl
theorem tab67:fnP Tryz.prog lib md 67=some t67:=by kernel_rfl
theorem tab94:fnP Tryz.prog lib md 94=some t94:=by kernel_rfl
theorem tab72:fnP Tryz.prog lib md 72=some t72:=by kernel_rfl
theorem tab108:fnP Tryz.prog lib md 108=some t108:=by kernel_rfl
theorem tab96:fnP Tryz.prog lib md 96=some t96:=by kernel_rfl
theorem tab74:fnP Tryz.prog lib md 74=some t74:=by kernel_rfl
theorem tab75:fnP Tryz.prog lib md 75=some t75:=by kernel_rfl
theorem tab95:fnP Tryz.prog lib md 95=some t95:=by kernel_rfl
theorem tab73:fnP Tryz.prog lib md 73=some t73:=by kernel_rfl
theorem tab97:fnP Tryz.prog lib md 97=some t97:=by kernel_rfl
theorem tab98:fnP Tryz.prog lib md 98=some t98:=by kernel_rfl
theorem tab99:fnP Tryz.prog lib md 99=some t99:=by kernel_rfl
theorem tab76:fnP Tryz.prog lib md 76=some t76:=by kernel_rfl
theorem tab49:fnP Tryz.prog lib md 49=some t49:=by kernel_rfl
theorem tab28:fnP Tryz.prog lib md 28=some t28:=by kernel_rfl
theorem tab50:fnP Tryz.prog lib md 50=some t50:=by kernel_rfl
theorem tab31:fnP Tryz.prog lib md 31=some t31:=by kernel_rfl
theorem tab30:fnP Tryz.prog lib md 30=some t30:=by kernel_rfl
theorem tab23:fnP Tryz.prog lib md 23=some t23:=by kernel_rfl
theorem tab44:fnP Tryz.prog lib md 44=some t44:=by kernel_rfl
theorem tab69:fnP Tryz.prog lib md 69=some t69:=by kernel_rfl
theorem tab68:fnP Tryz.prog lib md 68=some t68:=by kernel_rfl
theorem tab45:fnP Tryz.prog lib md 45=some t45:=by kernel_rfl
theorem tab17:fnP Tryz.prog lib md 17=some t17:=by kernel_rfl
theorem tab27:fnP Tryz.prog lib md 27=some t27:=by kernel_rfl
theorem tab29:fnP Tryz.prog lib md 29=some t29:=by kernel_rfl
theorem tab51:fnP Tryz.prog lib md 51=some t51:=by kernel_rfl
theorem tab32:fnP Tryz.prog lib md 32=some t32:=by kernel_rfl
theorem tab8:fnP Tryz.prog lib md 8=some t8:=by kernel_rfl
theorem tab79:fnP Tryz.prog lib md 79=some t79:=by kernel_rfl
theorem tab54:fnP Tryz.prog lib md 54=some t54:=by kernel_rfl
theorem tab55:fnP Tryz.prog lib md 55=some t55:=by kernel_rfl
theorem tab35:fnP Tryz.prog lib md 35=some t35:=by kernel_rfl
theorem tab56:fnP Tryz.prog lib md 56=some t56:=by kernel_rfl
theorem tab36:fnP Tryz.prog lib md 36=some t36:=by kernel_rfl
theorem tab10:fnP Tryz.prog lib md 10=some t10:=by kernel_rfl
theorem tab20:fnP Tryz.prog lib md 20=some t20:=by kernel_rfl
theorem tab15:fnP Tryz.prog lib md 15=some t15:=by kernel_rfl
theorem tab26:fnP Tryz.prog lib md 26=some t26:=by kernel_rfl
theorem tab6:fnP Tryz.prog lib md 6=some t6:=by kernel_rfl
theorem tab101:fnP Tryz.prog lib md 101=some t101:=by kernel_rfl
theorem tab83:fnP Tryz.prog lib md 83=some t83:=by kernel_rfl
theorem tab84:fnP Tryz.prog lib md 84=some t84:=by kernel_rfl
theorem tab80:fnP Tryz.prog lib md 80=some t80:=by kernel_rfl
theorem tab100:fnP Tryz.prog lib md 100=some t100:=by kernel_rfl
theorem tab81:fnP Tryz.prog lib md 81=some t81:=by kernel_rfl
theorem tab57:fnP Tryz.prog lib md 57=some t57:=by kernel_rfl
theorem tab48:fnP Tryz.prog lib md 48=some t48:=by kernel_rfl
theorem tab82:fnP Tryz.prog lib md 82=some t82:=by kernel_rfl
theorem tab58:fnP Tryz.prog lib md 58=some t58:=by kernel_rfl
theorem tab87:fnP Tryz.prog lib md 87=some t87:=by kernel_rfl
theorem tab88:fnP Tryz.prog lib md 88=some t88:=by kernel_rfl
theorem tab102:fnP Tryz.prog lib md 102=some t102:=by kernel_rfl
theorem tab85:fnP Tryz.prog lib md 85=some t85:=by kernel_rfl
theorem tab86:fnP Tryz.prog lib md 86=some t86:=by kernel_rfl
theorem tab59:fnP Tryz.prog lib md 59=some t59:=by kernel_rfl
theorem tab42:fnP Tryz.prog lib md 42=some t42:=by kernel_rfl
theorem tab63:fnP Tryz.prog lib md 63=some t63:=by kernel_rfl
theorem tab60:fnP Tryz.prog lib md 60=some t60:=by kernel_rfl
theorem tab62:fnP Tryz.prog lib md 62=some t62:=by kernel_rfl
theorem tab61:fnP Tryz.prog lib md 61=some t61:=by kernel_rfl
theorem tab64:fnP Tryz.prog lib md 64=some t64:=by kernel_rfl
theorem tab89:fnP Tryz.prog lib md 89=some t89:=by kernel_rfl
theorem tab65:fnP Tryz.prog lib md 65=some t65:=by kernel_rfl
theorem tab66:fnP Tryz.prog lib md 66=some t66:=by kernel_rfl
theorem tab43:fnP Tryz.prog lib md 43=some t43:=by kernel_rfl
theorem tab16:fnP Tryz.prog lib md 16=some t16:=by kernel_rfl
theorem tab18:fnP Tryz.prog lib md 18=some t18:=by kernel_rfl
theorem tab46:fnP Tryz.prog lib md 46=some t46:=by kernel_rfl
theorem tab25:fnP Tryz.prog lib md 25=some t25:=by kernel_rfl
theorem tab19:fnP Tryz.prog lib md 19=some t19:=by kernel_rfl
theorem tab21:fnP Tryz.prog lib md 21=some t21:=by kernel_rfl
theorem tab4:fnP Tryz.prog lib md 4=some t4:=by kernel_rfl
theorem tabOK:∀ f fn,tab f=some fn→fnP Tryz.prog lib md f=some fn:=Go.Sym.tabAt_ok <| .cons tab41 <| .cons tab103 <| .cons tab120 <| .cons tab111 <| .cons tab112 <| .cons tab104 <| .cons tab105 <| .cons tab92 <| .cons tab93 <| .cons tab70 <| .cons tab77 <| .cons tab71 <| .cons tab47 <| .cons tab24 <| .cons tab114 <| .cons tab121 <| .cons tab113 <| .cons tab106 <| .cons tab115 <| .cons tab116 <| .cons tab117 <| .cons tab118 <| .cons tab119 <| .cons tab109 <| .cons tab110 <| .cons tab107 <| .cons tab90 <| .cons tab91 <| .cons tab67 <| .cons tab94 <| .cons tab72 <| .cons tab108 <| .cons tab96 <| .cons tab74 <| .cons tab75 <| .cons tab95 <| .cons tab73 <| .cons tab97 <| .cons tab98 <| .cons tab99 <| .cons tab76 <| .cons tab49 <| .cons tab28 <| .cons tab50 <| .cons tab31 <| .cons tab30 <| .cons tab23 <| .cons tab44 <| .cons tab69 <| .cons tab68 <| .cons tab45 <| .cons tab17 <| .cons tab27 <| .cons tab29 <| .cons tab51 <| .cons tab32 <| .cons tab8 <| .cons tab79 <| .cons tab54 <| .cons tab55 <| .cons tab35 <| .cons tab56 <| .cons tab36 <| .cons tab10 <| .cons tab20 <| .cons tab15 <| .cons tab26 <| .cons tab6 <| .cons tab101 <| .cons tab83 <| .cons tab84 <| .cons tab80 <| .cons tab100 <| .cons tab81 <| .cons tab57 <| .cons tab48 <| .cons tab82 <| .cons tab58 <| .cons tab87 <| .cons tab88 <| .cons tab102 <| .cons tab85 <| .cons tab86 <| .cons tab59 <| .cons tab42 <| .cons tab63 <| .cons tab60 <| .cons tab62 <| .cons tab61 <| .cons tab64 <| .cons tab89 <| .cons tab65 <| .cons tab66 <| .cons tab43 <| .cons tab16 <| .cons tab18 <| .cons tab46 <| .cons tab25 <| .cons tab19 <| .cons tab21 <| .cons tab4 <| .nil
theorem libOK:∀ f T,lib f=some T→IsLib Tryz.prog f T:=by
 intro f T h
 unfold lib at h
 split at h
 ·cases h
end Go.Proofs.YtgpggimdmcjbpaaGreat
