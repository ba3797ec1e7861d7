/- FramePopped returns true, whatever it is given: no condition. -/
import Derived.Test.YtgpggimdmcjbpaaGreatLaw16po
import Derived.Test.YtgpggimdmcjbpaaGreatSymO
namespace Go.Proofs.YtgpggimdmcjbpaaGreat
open Go Go.Eng Go.Sym Go.ChangeShapes Go.WideShapes Go.ChangeAt Go.RowKit
def pars5:List Par:=[(25,true,TRegion),(30,true,TImage),(3,false,(.int .i64)),(31,true,(.prod (.int .u64) (.prod (.int .u64) (.prod (.int .u64) (.int .u64))))),(23,false,(.sl (.int .u8))),(3,false,(.int .i64))]
theorem own5:ownKnob Tryz.prog.godebug=none:=by kernel_rfl
theorem laid5:laidOutB Tryz.prog=true:=by kernel_rfl
theorem mix5:Tryz.prog.follows .mixedOrders=true:=by kernel_rfl
theorem pars5_ok:∀ p∈pars5,parOK Tryz.prog none 40 p:=by
 intro p hp
 simp only[pars5,List.mem_cons,List.not_mem_nil,or_false] at hp
 rcases hp with rfl|rfl|rfl|rfl|rfl|rfl<;>exact⟨by kernel_rfl,by kernel_rfl⟩
theorem read5:([25,30,3,31,23,3].all fun t=>Tryz.prog.readableRec t&&decide (t<Tryz.prog.types.size))=true:=by kernel_rfl
set_option maxRecDepth 100000 in
theorem lifted5 (os:Os) (started:os.Started) (H:Type) (enc:TypeId×Value→H) :
  ReturnsInHanded {} Tryz.checked os 5 .any (Rows.framePoppedSpec.pre6 enc Tryz.prog Tryz.f5 Rows.framePoppedRow.domain false) (Rows.framePoppedSpec.post enc Tryz.prog Tryz.f5 false true false false):=by
 refine returnsInHanded_of_change (C:=Tryz.checked) own5 started (by kernel_rfl) Tryz.func5
  (ChangeSpec.witness6 (enc:=enc) (C:=Tryz.checked) false ⟨#[],#[.agg #[(.int .u64 0),.slice none 0 0],.agg #[.slice none 0 0,.slice none 0 0,.slice none 0 0],(.int .i64 0),.agg #[(.int .u64 0),(.int .u64 0),(.int .u64 0),(.int .u64 0)],.slice none 0 0,(.int .i64 0)],[]⟩ 20 (by kernel_rfl) (by kernel_rfl) (by kernel_rfl) (by kernel_rfl)) ?_
 intro W base args ds gs before hval hW _ _
 have hW':=hW
 obtain⟨p,q,hA,hV,rfl,_,_⟩:=hW
 have hlt:∀ x∈p++q,x.block<W.heap.size:=hW'.lt
 obtain⟨rfl,rfl⟩:=trodVars_none hV
 simp only[List.append_nil] at hW' hlt
 have hp:Tryz.f5.params.toList=[25,30,3,31,23,3]:=by rw[Tryz.params5]
 have hA':=hA
 rw[hp] at hA'
 have hlen:=trodAll_len hA'
 match ds,hlen,hA',hW' with
 |[d0,d1,d2,d3,d4,d5],_,hA',hW'=>
  refine (law_calls (rv:=none) (k:=40) (l:=pars5) mix5 libOK tabOK (rv_none _) pars5_ok (ok5 6000) popped_law (hval_of Tryz.params5 hval) hA' hlt).mono fun e W' ⟨he,hb⟩=>?_
  subst he
  refine⟨_,rfl,⟨_,_,_,[],p,[],hW',trodAll_mk1 (shut_bool Tryz.underlying4 _),?_,rfl,hb.frame _,fun h=>by cases h⟩⟩
  rw[hp]
  exact args_stay laid5 hb read5 hA' hlt
theorem holds5:Rows.FramePoppedSaid:=
 OpenClaim.holds_of_wide 5 Tryz.f5 rfl rfl rfl rfl rfl rfl rfl ⟨rfl,rfl,rfl,rfl,rfl⟩ rfl rfl rfl rfl rfl (by kernel_rfl) Tryz.func5 (by kernel_rfl)
  (of_decide_eq_true (by kernel_rfl)) (by unfold Func.isWrapper;rw[if_neg (by decide +kernel)];exact⟨rfl,rfl⟩)
  (fun os started H enc _=>lifted5 os started H enc)
#print axioms holds5
end Go.Proofs.YtgpggimdmcjbpaaGreat
