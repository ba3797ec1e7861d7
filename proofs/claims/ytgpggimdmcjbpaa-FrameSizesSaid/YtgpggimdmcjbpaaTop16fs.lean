/- FrameSizes returns true, whatever it is given: no condition. -/
import Derived.Test.YtgpggimdmcjbpaaLaw16fs
import Derived.Test.YtgpggimdmcjbpaaSymO
namespace Go.Proofs.Ytgpggimdmcjbpaa
open Go Go.Eng Go.Sym Go.ChangeShapes Go.WideShapes Go.ChangeAt Go.RowKit
def pars3:List Par:=[(26,true,TImage),(3,false,(.int .i64)),(3,false,(.int .i64)),(27,false,(.int .u64))]
theorem own3:ownKnob Try.prog.godebug=none:=by kernel_rfl
theorem laid3:laidOutB Try.prog=true:=by kernel_rfl
theorem mix3:Try.prog.follows .mixedOrders=true:=by kernel_rfl
theorem pars3_ok:∀ p∈pars3,parOK Try.prog none 40 p:=by
 intro p hp
 simp only[pars3,List.mem_cons,List.not_mem_nil,or_false] at hp
 rcases hp with rfl|rfl|rfl|rfl<;>exact⟨by kernel_rfl,by kernel_rfl⟩
theorem read3:([26,3,3,27].all fun t=>Try.prog.readableRec t&&decide (t<Try.prog.types.size))=true:=by kernel_rfl
set_option maxRecDepth 100000 in
theorem lifted3 (os:Os) (started:os.Started) (H:Type) (enc:TypeId×Value→H) :
  ReturnsInHanded {} Try.checked os 3 .any (Rows.frameSizesSpec.pre6 enc Try.prog Try.f3 Rows.frameSizesRow.domain false) (Rows.frameSizesSpec.post enc Try.prog Try.f3 false true false false):=by
 refine returnsInHanded_of_change (C:=Try.checked) own3 started (by kernel_rfl) Try.func3
  (ChangeSpec.witness6 (enc:=enc) (C:=Try.checked) false ⟨#[],#[.agg #[.slice none 0 0,.slice none 0 0,.slice none 0 0],(.int .i64 0),(.int .i64 0),(.int .u64 0)],[]⟩ 20 (by kernel_rfl) (by kernel_rfl) (by kernel_rfl) (by kernel_rfl)) ?_
 intro W base args ds gs before hval hW _ _
 have hW':=hW
 obtain⟨p,q,hA,hV,rfl,_,_⟩:=hW
 have hlt:∀ x∈p++q,x.block<W.heap.size:=hW'.lt
 obtain⟨rfl,rfl⟩:=trodVars_none hV
 simp only[List.append_nil] at hW' hlt
 have hp:Try.f3.params.toList=[26,3,3,27]:=by rw[Try.params3]
 have hA':=hA
 rw[hp] at hA'
 have hlen:=trodAll_len hA'
 match ds,hlen,hA',hW' with
 |[d0,d1,d2,d3],_,hA',hW'=>
  refine (law_calls (rv:=none) (k:=40) (l:=pars3) mix3 libOK tabOK (rv_none _) pars3_ok (ok3 6000) sizes_law (hval_of Try.params3 hval) hA' hlt).mono fun e W' ⟨he,hb⟩=>?_
  subst he
  refine⟨_,rfl,⟨_,_,_,[],p,[],hW',trodAll_mk1 (shut_bool Try.underlying4 _),?_,rfl,hb.frame _,fun h=>by cases h⟩⟩
  rw[hp]
  exact args_stay laid3 hb read3 hA' hlt
theorem holds3:Rows.FrameSizesSaid:=
 OpenClaim.holds_of_wide 3 Try.f3 rfl rfl rfl rfl rfl rfl rfl ⟨rfl,rfl,rfl,rfl,rfl⟩ rfl rfl rfl rfl rfl (by kernel_rfl) Try.func3 (by kernel_rfl)
  (of_decide_eq_true (by kernel_rfl)) (by unfold Func.isWrapper;rw[if_neg (by decide +kernel)];exact⟨rfl,rfl⟩)
  (fun os started H enc _=>lifted3 os started H enc)
#print axioms holds3
end Go.Proofs.Ytgpggimdmcjbpaa
