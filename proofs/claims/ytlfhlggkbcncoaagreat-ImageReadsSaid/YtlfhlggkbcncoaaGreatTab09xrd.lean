/- The tables of the functions. -/
import Derived.Test.YtlfhlggkbcncoaaGreatSymN
import Derived.Test.YtlfhlggkbcncoaaGreatSymP
import Derived.Test.YtlfhlggkbcncoaaGreatRows
import Derived.ProofKit
namespace Go.Proofs.YtlfhlggkbcncoaaGreat
open Go Go.Eng
def md:Nat→Eng.Mode:=fun f=>match f with
 |50=>⟨[],false⟩
 |20=>⟨[],false⟩
 |7=>⟨[],false⟩
 |52=>⟨[],false⟩
 |51=>⟨[],false⟩
 |21=>⟨[(15,2)],false⟩
 |23=>⟨[],false⟩
 |9=>⟨[],false⟩
 |22=>⟨[],false⟩
 |8=>⟨[],false⟩
 |24=>⟨[],false⟩
 |53=>⟨[],false⟩
 |54=>⟨[],false⟩
 |80=>⟨[],true⟩
 |81=>⟨[],false⟩
 |82=>⟨[],false⟩
 |83=>⟨[],false⟩
 |84=>⟨[],false⟩
 |55=>⟨[],false⟩
 |85=>⟨[],false⟩
 |56=>⟨[],false⟩
 |25=>⟨[],false⟩
 |86=>⟨[],false⟩
 |87=>⟨[],false⟩
 |88=>⟨[],false⟩
 |57=>⟨[],false⟩
 |26=>⟨[],false⟩
 |10=>⟨[],false⟩
 |89=>⟨[],false⟩
 |104=>⟨[],true⟩
 |100=>⟨[],true⟩
 |101=>⟨[],false⟩
 |90=>⟨[],false⟩
 |61=>⟨[],false⟩
 |58=>⟨[(27,2),(44,2),(65,2),(104,2)],false⟩
 |59=>⟨[(3,6),(17,1)],false⟩
 |27=>⟨[],false⟩
 |102=>⟨[(13,1)],false⟩
 |91=>⟨[(9,1)],false⟩
 |60=>⟨[],false⟩
 |28=>⟨[],false⟩
 |93=>⟨[],true⟩
 |103=>⟨[],true⟩
 |92=>⟨[],true⟩
 |62=>⟨[],false⟩
 |63=>⟨[],false⟩
 |29=>⟨[],false⟩
 |11=>⟨[],false⟩
 |4=>⟨[],false⟩
 |64=>⟨[],false⟩
 |66=>⟨[],false⟩
 |65=>⟨[],false⟩
 |30=>⟨[],false⟩
 |12=>⟨[],false⟩
 |31=>⟨[],false⟩
 |33=>⟨[],false⟩
 |14=>⟨[],false⟩
 |32=>⟨[],false⟩
 |13=>⟨[],false⟩
 |94=>⟨[],false⟩
 |67=>⟨[],false⟩
 |34=>⟨[],false⟩
 |77=>⟨[],false⟩
 |79=>⟨[],false⟩
 |95=>⟨[],false⟩
 |68=>⟨[],false⟩
 |35=>⟨[],false⟩
 |76=>⟨[],false⟩
 |96=>⟨[],false⟩
 |69=>⟨[],false⟩
 |36=>⟨[],false⟩
 |15=>⟨[],false⟩
 |99=>⟨[],false⟩
 |73=>⟨[],false⟩
 |74=>⟨[],false⟩
 |70=>⟨[],false⟩
 |97=>⟨[],false⟩
 |71=>⟨[],false⟩
 |37=>⟨[],false⟩
 |98=>⟨[],false⟩
 |72=>⟨[],false⟩
 |38=>⟨[],false⟩
 |78=>⟨[],false⟩
 |75=>⟨[],false⟩
 |39=>⟨[],false⟩
 |16=>⟨[],false⟩
 |43=>⟨[(2,65540),(19,1),(3,65540),(12,1)],false⟩
 |40=>⟨[(2,65540),(5,65537)],false⟩
 |42=>⟨[(6,65537)],false⟩
 |41=>⟨[(7,65537)],false⟩
 |44=>⟨[],false⟩
 |45=>⟨[],false⟩
 |46=>⟨[(9,65537)],false⟩
 |17=>⟨[(13,65537)],false⟩
 |5=>⟨[],false⟩
 |47=>⟨[],false⟩
 |18=>⟨[],false⟩
 |48=>⟨[],false⟩
 |49=>⟨[],false⟩
 |19=>⟨[],false⟩
 |6=>⟨[],false⟩
 |3=>⟨[],false⟩
 |_=>⟨[],false⟩
def lib:Nat→Option TypeId:=fun f=>match f with
 |_=>none
@[irreducible] noncomputable def t50:AFn:=(fnP Tryz.prog lib md 50).getD default
@[irreducible] noncomputable def t20:AFn:=(fnP Tryz.prog lib md 20).getD default
@[irreducible] noncomputable def t7:AFn:=(fnP Tryz.prog lib md 7).getD default
@[irreducible] noncomputable def t52:AFn:=(fnP Tryz.prog lib md 52).getD default
@[irreducible] noncomputable def t51:AFn:=(fnP Tryz.prog lib md 51).getD default
@[irreducible] noncomputable def t21:AFn:=(fnP Tryz.prog lib md 21).getD default
@[irreducible] noncomputable def t23:AFn:=(fnP Tryz.prog lib md 23).getD default
@[irreducible] noncomputable def t9:AFn:=(fnP Tryz.prog lib md 9).getD default
@[irreducible] noncomputable def t22:AFn:=(fnP Tryz.prog lib md 22).getD default
@[irreducible] noncomputable def t8:AFn:=(fnP Tryz.prog lib md 8).getD default
@[irreducible] noncomputable def t24:AFn:=(fnP Tryz.prog lib md 24).getD default
@[irreducible] noncomputable def t53:AFn:=(fnP Tryz.prog lib md 53).getD default
@[irreducible] noncomputable def t54:AFn:=(fnP Tryz.prog lib md 54).getD default
@[irreducible] noncomputable def t80:AFn:=(fnP Tryz.prog lib md 80).getD default
@[irreducible] noncomputable def t81:AFn:=(fnP Tryz.prog lib md 81).getD default
@[irreducible] noncomputable def t82:AFn:=(fnP Tryz.prog lib md 82).getD default
@[irreducible] noncomputable def t83:AFn:=(fnP Tryz.prog lib md 83).getD default
@[irreducible] noncomputable def t84:AFn:=(fnP Tryz.prog lib md 84).getD default
@[irreducible] noncomputable def t55:AFn:=(fnP Tryz.prog lib md 55).getD default
@[irreducible] noncomputable def t85:AFn:=(fnP Tryz.prog lib md 85).getD default
@[irreducible] noncomputable def t56:AFn:=(fnP Tryz.prog lib md 56).getD default
@[irreducible] noncomputable def t25:AFn:=(fnP Tryz.prog lib md 25).getD default
@[irreducible] noncomputable def t86:AFn:=(fnP Tryz.prog lib md 86).getD default
@[irreducible] noncomputable def t87:AFn:=(fnP Tryz.prog lib md 87).getD default
@[irreducible] noncomputable def t88:AFn:=(fnP Tryz.prog lib md 88).getD default
@[irreducible] noncomputable def t57:AFn:=(fnP Tryz.prog lib md 57).getD default
@[irreducible] noncomputable def t26:AFn:=(fnP Tryz.prog lib md 26).getD default
@[irreducible] noncomputable def t10:AFn:=(fnP Tryz.prog lib md 10).getD default
@[irreducible] noncomputable def t89:AFn:=(fnP Tryz.prog lib md 89).getD default
@[irreducible] noncomputable def t104:AFn:=(fnP Tryz.prog lib md 104).getD default
@[irreducible] noncomputable def t100:AFn:=(fnP Tryz.prog lib md 100).getD default
@[irreducible] noncomputable def t101:AFn:=(fnP Tryz.prog lib md 101).getD default
@[irreducible] noncomputable def t90:AFn:=(fnP Tryz.prog lib md 90).getD default
@[irreducible] noncomputable def t61:AFn:=(fnP Tryz.prog lib md 61).getD default
@[irreducible] noncomputable def t58:AFn:=(fnP Tryz.prog lib md 58).getD default
@[irreducible] noncomputable def t59:AFn:=(fnP Tryz.prog lib md 59).getD default
@[irreducible] noncomputable def t27:AFn:=(fnP Tryz.prog lib md 27).getD default
@[irreducible] noncomputable def t102:AFn:=(fnP Tryz.prog lib md 102).getD default
@[irreducible] noncomputable def t91:AFn:=(fnP Tryz.prog lib md 91).getD default
@[irreducible] noncomputable def t60:AFn:=(fnP Tryz.prog lib md 60).getD default
@[irreducible] noncomputable def t28:AFn:=(fnP Tryz.prog lib md 28).getD default
@[irreducible] noncomputable def t93:AFn:=(fnP Tryz.prog lib md 93).getD default
@[irreducible] noncomputable def t103:AFn:=(fnP Tryz.prog lib md 103).getD default
@[irreducible] noncomputable def t92:AFn:=(fnP Tryz.prog lib md 92).getD default
@[irreducible] noncomputable def t62:AFn:=(fnP Tryz.prog lib md 62).getD default
@[irreducible] noncomputable def t63:AFn:=(fnP Tryz.prog lib md 63).getD default
@[irreducible] noncomputable def t29:AFn:=(fnP Tryz.prog lib md 29).getD default
@[irreducible] noncomputable def t11:AFn:=(fnP Tryz.prog lib md 11).getD default
@[irreducible] noncomputable def t4:AFn:=(fnP Tryz.prog lib md 4).getD default
@[irreducible] noncomputable def t64:AFn:=(fnP Tryz.prog lib md 64).getD default
@[irreducible] noncomputable def t66:AFn:=(fnP Tryz.prog lib md 66).getD default
@[irreducible] noncomputable def t65:AFn:=(fnP Tryz.prog lib md 65).getD default
@[irreducible] noncomputable def t30:AFn:=(fnP Tryz.prog lib md 30).getD default
@[irreducible] noncomputable def t12:AFn:=(fnP Tryz.prog lib md 12).getD default
@[irreducible] noncomputable def t31:AFn:=(fnP Tryz.prog lib md 31).getD default
@[irreducible] noncomputable def t33:AFn:=(fnP Tryz.prog lib md 33).getD default
@[irreducible] noncomputable def t14:AFn:=(fnP Tryz.prog lib md 14).getD default
@[irreducible] noncomputable def t32:AFn:=(fnP Tryz.prog lib md 32).getD default
@[irreducible] noncomputable def t13:AFn:=(fnP Tryz.prog lib md 13).getD default
@[irreducible] noncomputable def t94:AFn:=(fnP Tryz.prog lib md 94).getD default
@[irreducible] noncomputable def t67:AFn:=(fnP Tryz.prog lib md 67).getD default
@[irreducible] noncomputable def t34:AFn:=(fnP Tryz.prog lib md 34).getD default
@[irreducible] noncomputable def t77:AFn:=(fnP Tryz.prog lib md 77).getD default
@[irreducible] noncomputable def t79:AFn:=(fnP Tryz.prog lib md 79).getD default
@[irreducible] noncomputable def t95:AFn:=(fnP Tryz.prog lib md 95).getD default
@[irreducible] noncomputable def t68:AFn:=(fnP Tryz.prog lib md 68).getD default
@[irreducible] noncomputable def t35:AFn:=(fnP Tryz.prog lib md 35).getD default
@[irreducible] noncomputable def t76:AFn:=(fnP Tryz.prog lib md 76).getD default
@[irreducible] noncomputable def t96:AFn:=(fnP Tryz.prog lib md 96).getD default
@[irreducible] noncomputable def t69:AFn:=(fnP Tryz.prog lib md 69).getD default
@[irreducible] noncomputable def t36:AFn:=(fnP Tryz.prog lib md 36).getD default
@[irreducible] noncomputable def t15:AFn:=(fnP Tryz.prog lib md 15).getD default
@[irreducible] noncomputable def t99:AFn:=(fnP Tryz.prog lib md 99).getD default
@[irreducible] noncomputable def t73:AFn:=(fnP Tryz.prog lib md 73).getD default
@[irreducible] noncomputable def t74:AFn:=(fnP Tryz.prog lib md 74).getD default
@[irreducible] noncomputable def t70:AFn:=(fnP Tryz.prog lib md 70).getD default
@[irreducible] noncomputable def t97:AFn:=(fnP Tryz.prog lib md 97).getD default
@[irreducible] noncomputable def t71:AFn:=(fnP Tryz.prog lib md 71).getD default
@[irreducible] noncomputable def t37:AFn:=(fnP Tryz.prog lib md 37).getD default
@[irreducible] noncomputable def t98:AFn:=(fnP Tryz.prog lib md 98).getD default
@[irreducible] noncomputable def t72:AFn:=(fnP Tryz.prog lib md 72).getD default
@[irreducible] noncomputable def t38:AFn:=(fnP Tryz.prog lib md 38).getD default
@[irreducible] noncomputable def t78:AFn:=(fnP Tryz.prog lib md 78).getD default
@[irreducible] noncomputable def t75:AFn:=(fnP Tryz.prog lib md 75).getD default
@[irreducible] noncomputable def t39:AFn:=(fnP Tryz.prog lib md 39).getD default
@[irreducible] noncomputable def t16:AFn:=(fnP Tryz.prog lib md 16).getD default
@[irreducible] noncomputable def t43:AFn:=(fnP Tryz.prog lib md 43).getD default
@[irreducible] noncomputable def t40:AFn:=(fnP Tryz.prog lib md 40).getD default
@[irreducible] noncomputable def t42:AFn:=(fnP Tryz.prog lib md 42).getD default
@[irreducible] noncomputable def t41:AFn:=(fnP Tryz.prog lib md 41).getD default
@[irreducible] noncomputable def t44:AFn:=(fnP Tryz.prog lib md 44).getD default
@[irreducible] noncomputable def t45:AFn:=(fnP Tryz.prog lib md 45).getD default
@[irreducible] noncomputable def t46:AFn:=(fnP Tryz.prog lib md 46).getD default
@[irreducible] noncomputable def t17:AFn:=(fnP Tryz.prog lib md 17).getD default
@[irreducible] noncomputable def t5:AFn:=(fnP Tryz.prog lib md 5).getD default
@[irreducible] noncomputable def t47:AFn:=(fnP Tryz.prog lib md 47).getD default
@[irreducible] noncomputable def t18:AFn:=(fnP Tryz.prog lib md 18).getD default
@[irreducible] noncomputable def t48:AFn:=(fnP Tryz.prog lib md 48).getD default
@[irreducible] noncomputable def t49:AFn:=(fnP Tryz.prog lib md 49).getD default
@[irreducible] noncomputable def t19:AFn:=(fnP Tryz.prog lib md 19).getD default
@[irreducible] noncomputable def t6:AFn:=(fnP Tryz.prog lib md 6).getD default
@[irreducible] noncomputable def t3:AFn:=(fnP Tryz.prog lib md 3).getD default
noncomputable def tabL:List (Nat×AFn):=[(50,t50),(20,t20),(7,t7),(52,t52),(51,t51),(21,t21),(23,t23),(9,t9),(22,t22),(8,t8),(24,t24),(53,t53),(54,t54),(80,t80),(81,t81),(82,t82),(83,t83),(84,t84),(55,t55),(85,t85),(56,t56),(25,t25),(86,t86),(87,t87),(88,t88),(57,t57),(26,t26),(10,t10),(89,t89),(104,t104),(100,t100),(101,t101),(90,t90),(61,t61),(58,t58),(59,t59),(27,t27),(102,t102),(91,t91),(60,t60),(28,t28),(93,t93),(103,t103),(92,t92),(62,t62),(63,t63),(29,t29),(11,t11),(4,t4),(64,t64),(66,t66),(65,t65),(30,t30),(12,t12),(31,t31),(33,t33),(14,t14),(32,t32),(13,t13),(94,t94),(67,t67),(34,t34),(77,t77),(79,t79),(95,t95),(68,t68),(35,t35),(76,t76),(96,t96),(69,t69),(36,t36),(15,t15),(99,t99),(73,t73),(74,t74),(70,t70),(97,t97),(71,t71),(37,t37),(98,t98),(72,t72),(38,t38),(78,t78),(75,t75),(39,t39),(16,t16),(43,t43),(40,t40),(42,t42),(41,t41),(44,t44),(45,t45),(46,t46),(17,t17),(5,t5),(47,t47),(18,t18),(48,t48),(49,t49),(19,t19),(6,t6),(3,t3)]
noncomputable def tab:Nat→Option AFn:=Go.Sym.tabAt tabL
theorem tab50:fnP Tryz.prog lib md 50=some t50:=by kernel_rfl
theorem tab20:fnP Tryz.prog lib md 20=some t20:=by kernel_rfl
theorem tab7:fnP Tryz.prog lib md 7=some t7:=by kernel_rfl
theorem tab52:fnP Tryz.prog lib md 52=some t52:=by kernel_rfl
theorem tab51:fnP Tryz.prog lib md 51=some t51:=by kernel_rfl
theorem tab21:fnP Tryz.prog lib md 21=some t21:=by kernel_rfl
theorem tab23:fnP Tryz.prog lib md 23=some t23:=by kernel_rfl
theorem tab9:fnP Tryz.prog lib md 9=some t9:=by kernel_rfl
theorem tab22:fnP Tryz.prog lib md 22=some t22:=by kernel_rfl
theorem tab8:fnP Tryz.prog lib md 8=some t8:=by kernel_rfl
theorem tab24:fnP Tryz.prog lib md 24=some t24:=by kernel_rfl
theorem tab53:fnP Tryz.prog lib md 53=some t53:=by kernel_rfl
theorem tab54:fnP Tryz.prog lib md 54=some t54:=by kernel_rfl
theorem tab80:fnP Tryz.prog lib md 80=some t80:=by kernel_rfl
theorem tab81:fnP Tryz.prog lib md 81=some t81:=by kernel_rfl
theorem tab82:fnP Tryz.prog lib md 82=some t82:=by kernel_rfl
theorem tab83:fnP Tryz.prog lib md 83=some t83:=by kernel_rfl
theorem tab84:fnP Tryz.prog lib md 84=some t84:=by kernel_rfl
theorem tab55:fnP Tryz.prog lib md 55=some t55:=by kernel_rfl
theorem tab85:fnP Tryz.prog lib md 85=some t85:=by kernel_rfl
theorem tab56:fnP Tryz.prog lib md 56=some t56:=by kernel_rfl
theorem tab25:fnP Tryz.prog lib md 25=some t25:=by kernel_rfl
theorem tab86:fnP Tryz.prog lib md 86=some t86:=by kernel_rfl
theorem tab87:fnP Tryz.prog lib md 87=some t87:=by kernel_rfl
theorem tab88:fnP Tryz.prog lib md 88=some t88:=by kernel_rfl
theorem tab57:fnP Tryz.prog lib md 57=some t57:=by kernel_rfl
theorem tab26:fnP Tryz.prog lib md 26=some t26:=by kernel_rfl
theorem tab10:fnP Tryz.prog lib md 10=some t10:=by kernel_rfl
theorem tab89:fnP Tryz.prog lib md 89=some t89:=by kernel_rfl
theorem tab104:fnP Tryz.prog lib md 104=some t104:=by kernel_rfl
theorem tab100:fnP Tryz.prog lib md 100=some t100:=by kernel_rfl
theorem tab101:fnP Tryz.prog lib md 101=some t101:=by kernel_rfl
theorem tab90:fnP Tryz.prog lib md 90=some t90:=by kernel_rfl
theorem tab61:fnP Tryz.prog lib md 61=some t61:=by kernel_rfl
theorem tab58:fnP Tryz.prog lib md 58=some t58:=by kernel_rfl
theorem tab59:fnP Tryz.prog lib md 59=some t59:=by kernel_rfl
theorem tab27:fnP Tryz.prog lib md 27=some t27:=by kernel_rfl
theorem tab102:fnP Tryz.prog lib md 102=some t102:=by kernel_rfl
theorem tab91:fnP Tryz.prog lib md 91=some t91:=by kernel_rfl
theorem tab60:fnP Tryz.prog lib md 60=some t60:=by kernel_rfl
theorem tab28:fnP Tryz.prog lib md 28=some t28:=by kernel_rfl
theorem tab93:fnP Tryz.prog lib md 93=some t93:=by kernel_rfl
theorem tab103:fnP Tryz.prog lib md 103=some t103:=by kernel_rfl
theorem tab92:fnP Tryz.prog lib md 92=some t92:=by kernel_rfl
theorem tab62:fnP Tryz.prog lib md 62=some t62:=by kernel_rfl
theorem tab63:fnP Tryz.prog lib md 63=some t63:=by kernel_rfl
theorem tab29:fnP Tryz.prog lib md 29=some t29:=by kernel_rfl
theorem tab11:fnP Tryz.prog lib md 11=some t11:=by kernel_rfl
theorem tab4:fnP Tryz.prog lib md 4=some t4:=by kernel_rfl
theorem tab64:fnP Tryz.prog lib md 64=some t64:=by kernel_rfl
theorem tab66:fnP Tryz.prog lib md 66=some t66:=by kernel_rfl
theorem tab65:fnP Tryz.prog lib md 65=some t65:=by kernel_rfl
theorem tab30:fnP Tryz.prog lib md 30=some t30:=by kernel_rfl
theorem tab12:fnP Tryz.prog lib md 12=some t12:=by kernel_rfl
theorem tab31:fnP Tryz.prog lib md 31=some t31:=by kernel_rfl
theorem tab33:fnP Tryz.prog lib md 33=some t33:=by kernel_rfl
theorem tab14:fnP Tryz.prog lib md 14=some t14:=by kernel_rfl
theorem tab32:fnP Tryz.prog lib md 32=some t32:=by kernel_rfl
theorem tab13:fnP Tryz.prog lib md 13=some t13:=by kernel_rfl
theorem tab94:fnP Tryz.prog lib md 94=some t94:=by kernel_rfl
theorem tab67:fnP Tryz.prog lib md 67=some t67:=by kernel_rfl
theorem tab34:fnP Tryz.prog lib md 34=some t34:=by kernel_rfl
theorem tab77:fnP Tryz.prog lib md 77=some t77:=by kernel_rfl
theorem tab79:fnP Tryz.prog lib md 79=some t79:=by kernel_rfl
theorem tab95:fnP Tryz.prog lib md 95=some t95:=by kernel_rfl
theorem tab68:fnP Tryz.prog lib md 68=some t68:=by kernel_rfl
theorem tab35:fnP Tryz.prog lib md 35=some t35:=by kernel_rfl
theorem tab76:fnP Tryz.prog lib md 76=some t76:=by kernel_rfl
theorem tab96:fnP Tryz.prog lib md 96=some t96:=by kernel_rfl
theorem tab69:fnP Tryz.prog lib md 69=some t69:=by kernel_rfl
theorem tab36:fnP Tryz.prog lib md 36=some t36:=by kernel_rfl
theorem tab15:fnP Tryz.prog lib md 15=some t15:=by kernel_rfl
theorem tab99:fnP Tryz.prog lib md 99=some t99:=by kernel_rfl
theorem tab73:fnP Tryz.prog lib md 73=some t73:=by kernel_rfl
theorem tab74:fnP Tryz.prog lib md 74=some t74:=by kernel_rfl
theorem tab70:fnP Tryz.prog lib md 70=some t70:=by kernel_rfl
theorem tab97:fnP Tryz.prog lib md 97=some t97:=by kernel_rfl
theorem tab71:fnP Tryz.prog lib md 71=some t71:=by kernel_rfl
theorem tab37:fnP Tryz.prog lib md 37=some t37:=by kernel_rfl
theorem tab98:fnP Tryz.prog lib md 98=some t98:=by kernel_rfl
theorem tab72:fnP Tryz.prog lib md 72=some t72:=by kernel_rfl
theorem tab38:fnP Tryz.prog lib md 38=some t38:=by kernel_rfl
theorem tab78:fnP Tryz.prog lib md 78=some t78:=by kernel_rfl
theorem tab75:fnP Tryz.prog lib md 75=some t75:=by kernel_rfl
theorem tab39:fnP Tryz.prog lib md 39=some t39:=by kernel_rfl
theorem tab16:fnP Tryz.prog lib md 16=some t16:=by kernel_rfl
theorem tab43:fnP Tryz.prog lib md 43=some t43:=by kernel_rfl
theorem tab40:fnP Tryz.prog lib md 40=some t40:=by kernel_rfl
theorem tab42:fnP Tryz.prog lib md 42=some t42:=by kernel_rfl
theorem tab41:fnP Tryz.prog lib md 41=some t41:=by kernel_rfl
theorem tab44:fnP Tryz.prog lib md 44=some t44:=by kernel_rfl
theorem tab45:fnP Tryz.prog lib md 45=some t45:=by kernel_rfl
theorem tab46:fnP Tryz.prog lib md 46=some t46:=by kernel_rfl
theorem tab17:fnP Tryz.prog lib md 17=some t17:=by kernel_rfl
theorem tab5:fnP Tryz.prog lib md 5=some t5:=by kernel_rfl
theorem tab47:fnP Tryz.prog lib md 47=some t47:=by kernel_rfl
theorem tab18:fnP Tryz.prog lib md 18=some t18:=by kernel_rfl
theorem tab48:fnP Tryz.prog lib md 48=some t48:=by kernel_rfl
theorem tab49:fnP Tryz.prog lib md 49=some t49:=by kernel_rfl
theorem tab19:fnP Tryz.prog lib md 19=some t19:=by kernel_rfl
theorem tab6:fnP Tryz.prog lib md 6=some t6:=by kernel_rfl
theorem tab3:fnP Tryz.prog lib md 3=some t3:=by kernel_rfl
theorem tabOK:∀ f fn,tab f=some fn→fnP Tryz.prog lib md f=some fn:=Go.Sym.tabAt_ok <| .cons tab50 <| .cons tab20 <| .cons tab7 <| .cons tab52 <| .cons tab51 <| .cons tab21 <| .cons tab23 <| .cons tab9 <| .cons tab22 <| .cons tab8 <| .cons tab24 <| .cons tab53 <| .cons tab54 <| .cons tab80 <| .cons tab81 <| .cons tab82 <| .cons tab83 <| .cons tab84 <| .cons tab55 <| .cons tab85 <| .cons tab56 <| .cons tab25 <| .cons tab86 <| .cons tab87 <| .cons tab88 <| .cons tab57 <| .cons tab26 <| .cons tab10 <| .cons tab89 <| .cons tab104 <| .cons tab100 <| .cons tab101 <| .cons tab90 <| .cons tab61 <| .cons tab58 <| .cons tab59 <| .cons tab27 <| .cons tab102 <| .cons tab91 <| .cons tab60 <| .cons tab28 <| .cons tab93 <| .cons tab103 <| .cons tab92 <| .cons tab62 <| .cons tab63 <| .cons tab29 <| .cons tab11 <| .cons tab4 <| .cons tab64 <| .cons tab66 <| .cons tab65 <| .cons tab30 <| .cons tab12 <| .cons tab31 <| .cons tab33 <| .cons tab14 <| .cons tab32 <| .cons tab13 <| .cons tab94 <| .cons tab67 <| .cons tab34 <| .cons tab77 <| .cons tab79 <| .cons tab95 <| .cons tab68 <| .cons tab35 <| .cons tab76 <| .cons tab96 <| .cons tab69 <| .cons tab36 <| .cons tab15 <| .cons tab99 <| .cons tab73 <| .cons tab74 <| .cons tab70 <| .cons tab97 <| .cons tab71 <| .cons tab37 <| .cons tab98 <| .cons tab72 <| .cons tab38 <| .cons tab78 <| .cons tab75 <| .cons tab39 <| .cons tab16 <| .cons tab43 <| .cons tab40 <| .cons tab42 <| .cons tab41 <| .cons tab44 <| .cons tab45 <| .cons tab46 <| .cons tab17 <| .cons tab5 <| .cons tab47 <| .cons tab18 <| .cons tab48 <| .cons tab49 <| .cons tab19 <| .cons tab6 <| .cons tab3 <| .nil
theorem libOK:∀ f T,lib f=some T→IsLib Tryz.prog f T:=by
 intro f T h
 unfold lib at h
 split at h
 ·cases h
end Go.Proofs.YtlfhlggkbcncoaaGreat
