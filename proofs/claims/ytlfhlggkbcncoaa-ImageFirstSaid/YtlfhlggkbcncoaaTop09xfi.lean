/- ImageFirst returns true, whatever it is given: no condition. -/
import Derived.Test.YtlfhlggkbcncoaaLaw09xfi
import Derived.Test.YtlfhlggkbcncoaaSymO
namespace Go.Proofs.Ytlfhlggkbcncoaa
open Go Go.Eng Go.Sym Go.ChangeShapes Go.WideShapes Go.ChangeAt Go.RowKit
def pars7:List Par:=[(26,true,TImage),(26,true,TImage),(3,false,(.int .i64)),(30,false,(.sl (.int .u8)))]
theorem own7:ownKnob Try.prog.godebug=none:=by kernel_rfl
theorem laid7:laidOutB Try.prog=true:=by kernel_rfl
theorem mix7:Try.prog.follows .mixedOrders=true:=by kernel_rfl
theorem pars7_ok:∀ p∈pars7,parOK Try.prog none 40 p:=by
 intro p hp
 simp only[pars7,List.mem_cons,List.not_mem_nil,or_false] at hp
 rcases hp with rfl|rfl|rfl|rfl<;>exact⟨by kernel_rfl,by kernel_rfl⟩
theorem read7:([26,26,3,30].all fun t=>Try.prog.readableRec t&&decide (t<Try.prog.types.size))=true:=by kernel_rfl
set_option maxRecDepth 100000 in
theorem lifted7 (os:Os) (started:os.Started) (H:Type) (enc:TypeId×Value→H) :
  ReturnsInHanded {} Try.checked os 7 .any (Rows.imageFirstSpec.pre6 enc Try.prog Try.f7 Rows.imageFirstRow.domain false) (Rows.imageFirstSpec.post enc Try.prog Try.f7 false true false false):=by
 refine returnsInHanded_of_change (C:=Try.checked) own7 started (by kernel_rfl) Try.func7
  (ChangeSpec.witness6 (enc:=enc) (C:=Try.checked) false ⟨#[],#[.agg #[.slice none 0 0,.slice none 0 0,.slice none 0 0],.agg #[.slice none 0 0,.slice none 0 0,.slice none 0 0],(.int .i64 0),.slice none 0 0],[]⟩ 20 (by kernel_rfl) (by kernel_rfl) (by kernel_rfl) (by kernel_rfl)) ?_
 intro W base args ds gs before hval hW _ _
 have hW':=hW
 obtain⟨p,q,hA,hV,rfl,_,_⟩:=hW
 have hlt:∀ x∈p++q,x.block<W.heap.size:=hW'.lt
 obtain⟨rfl,rfl⟩:=trodVars_none hV
 simp only[List.append_nil] at hW' hlt
 have hp:Try.f7.params.toList=[26,26,3,30]:=by rw[Try.params7]
 have hA':=hA
 rw[hp] at hA'
 have hlen:=trodAll_len hA'
 match ds,hlen,hA',hW' with
 |[d0,d1,d2,d3],_,hA',hW'=>
  refine (law_calls (rv:=none) (k:=40) (l:=pars7) mix7 libOK tabOK (rv_none _) pars7_ok (ok7 6000) first_law (hval_of Try.params7 hval) hA' hlt).mono fun e W' ⟨he,hb⟩=>?_
  subst he
  refine⟨_,rfl,⟨_,_,_,[],p,[],hW',trodAll_mk1 (shut_bool Try.underlying4 _),?_,rfl,hb.frame _,fun h=>by cases h⟩⟩
  rw[hp]
  exact args_stay laid7 hb read7 hA' hlt
theorem holds7:Rows.ImageFirstSaid:=
 OpenClaim.holds_of_wide 7 Try.f7 rfl rfl rfl rfl rfl rfl rfl ⟨rfl,rfl,rfl,rfl,rfl⟩ rfl rfl rfl rfl rfl (by kernel_rfl) Try.func7 (by kernel_rfl)
  (of_decide_eq_true (by kernel_rfl)) (by unfold Func.isWrapper;rw[if_neg (by decide +kernel)];exact⟨rfl,rfl⟩)
  (fun os started H enc _=>lifted7 os started H enc)
#print axioms holds7
end Go.Proofs.Ytlfhlggkbcncoaa
