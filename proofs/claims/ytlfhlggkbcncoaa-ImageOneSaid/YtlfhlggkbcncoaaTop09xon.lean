/- ImageOne returns true, whatever it is given: no condition. -/
import Derived.Test.YtlfhlggkbcncoaaLaw09xon
import Derived.Test.YtlfhlggkbcncoaaSymO
namespace Go.Proofs.Ytlfhlggkbcncoaa
open Go Go.Eng Go.Sym Go.ChangeShapes Go.WideShapes Go.ChangeAt Go.RowKit
def pars6:List Par:=[(26,true,TImage),(30,false,(.sl (.int .u8)))]
theorem own6:ownKnob Try.prog.godebug=none:=by kernel_rfl
theorem laid6:laidOutB Try.prog=true:=by kernel_rfl
theorem mix6:Try.prog.follows .mixedOrders=true:=by kernel_rfl
theorem pars6_ok:∀ p∈pars6,parOK Try.prog none 40 p:=by
 intro p hp
 simp only[pars6,List.mem_cons,List.not_mem_nil,or_false] at hp
 rcases hp with rfl|rfl<;>exact⟨by kernel_rfl,by kernel_rfl⟩
theorem read6:([26,30].all fun t=>Try.prog.readableRec t&&decide (t<Try.prog.types.size))=true:=by kernel_rfl
set_option maxRecDepth 100000 in
theorem lifted6 (os:Os) (started:os.Started) (H:Type) (enc:TypeId×Value→H) :
  ReturnsInHanded {} Try.checked os 6 .any (Rows.imageOneSpec.pre6 enc Try.prog Try.f6 Rows.imageOneRow.domain false) (Rows.imageOneSpec.post enc Try.prog Try.f6 false true false false):=by
 refine returnsInHanded_of_change (C:=Try.checked) own6 started (by kernel_rfl) Try.func6
  (ChangeSpec.witness6 (enc:=enc) (C:=Try.checked) false ⟨#[],#[.agg #[.slice none 0 0,.slice none 0 0,.slice none 0 0],.slice none 0 0],[]⟩ 20 (by kernel_rfl) (by kernel_rfl) (by kernel_rfl) (by kernel_rfl)) ?_
 intro W base args ds gs before hval hW _ _
 have hW':=hW
 obtain⟨p,q,hA,hV,rfl,_,_⟩:=hW
 have hlt:∀ x∈p++q,x.block<W.heap.size:=hW'.lt
 obtain⟨rfl,rfl⟩:=trodVars_none hV
 simp only[List.append_nil] at hW' hlt
 have hp:Try.f6.params.toList=[26,30]:=by rw[Try.params6]
 have hA':=hA
 rw[hp] at hA'
 have hlen:=trodAll_len hA'
 match ds,hlen,hA',hW' with
 |[d0,d1],_,hA',hW'=>
  refine (law_calls (rv:=none) (k:=40) (l:=pars6) mix6 libOK tabOK (rv_none _) pars6_ok (ok6 6000) one_law (hval_of Try.params6 hval) hA' hlt).mono fun e W' ⟨he,hb⟩=>?_
  subst he
  refine⟨_,rfl,⟨_,_,_,[],p,[],hW',trodAll_mk1 (shut_bool Try.underlying4 _),?_,rfl,hb.frame _,fun h=>by cases h⟩⟩
  rw[hp]
  exact args_stay laid6 hb read6 hA' hlt
theorem holds6:Rows.ImageOneSaid:=
 OpenClaim.holds_of_wide 6 Try.f6 rfl rfl rfl rfl rfl rfl rfl ⟨rfl,rfl,rfl,rfl,rfl⟩ rfl rfl rfl rfl rfl (by kernel_rfl) Try.func6 (by kernel_rfl)
  (of_decide_eq_true (by kernel_rfl)) (by unfold Func.isWrapper;rw[if_neg (by decide +kernel)];exact⟨rfl,rfl⟩)
  (fun os started H enc _=>lifted6 os started H enc)
#print axioms holds6
end Go.Proofs.Ytlfhlggkbcncoaa
