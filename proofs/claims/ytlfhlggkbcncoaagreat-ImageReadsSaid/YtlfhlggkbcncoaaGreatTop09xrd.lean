/- ImageReads returns true, whatever it is given: no condition. -/
import Derived.Test.YtlfhlggkbcncoaaGreatLaw09xrd
import Derived.Test.YtlfhlggkbcncoaaGreatSymO
namespace Go.Proofs.YtlfhlggkbcncoaaGreat
open Go Go.Eng Go.Sym Go.ChangeShapes Go.WideShapes Go.ChangeAt Go.RowKit
def pars3:List Par:=[(22,false,(.sl (.int .u8)))]
theorem own3:ownKnob Tryz.prog.godebug=none:=by kernel_rfl
theorem laid3:laidOutB Tryz.prog=true:=by kernel_rfl
theorem mix3:Tryz.prog.follows .mixedOrders=true:=by kernel_rfl
theorem pars3_ok:∀ p∈pars3,parOK Tryz.prog none 40 p:=by
 intro p hp
 simp only[pars3,List.mem_cons,List.not_mem_nil,or_false] at hp
 rcases hp with rfl<;>exact⟨by kernel_rfl,by kernel_rfl⟩
theorem read3:([22].all fun t=>Tryz.prog.readableRec t&&decide (t<Tryz.prog.types.size))=true:=by kernel_rfl
set_option maxRecDepth 100000 in
theorem lifted3 (os:Os) (started:os.Started) (H:Type) (enc:TypeId×Value→H) :
  ReturnsInHanded {} Tryz.checked os 3 .any (Rows.imageReadsSpec.pre6 enc Tryz.prog Tryz.f3 Rows.imageReadsRow.domain false) (Rows.imageReadsSpec.post enc Tryz.prog Tryz.f3 false true false false):=by
 refine returnsInHanded_of_change (C:=Tryz.checked) own3 started (by kernel_rfl) Tryz.func3
  (ChangeSpec.witness6 (enc:=enc) (C:=Tryz.checked) false ⟨#[],#[.slice none 0 0],[]⟩ 20 (by kernel_rfl) (by kernel_rfl) (by kernel_rfl) (by kernel_rfl)) ?_
 intro W base args ds gs before hval hW _ _
 have hW':=hW
 obtain⟨p,q,hA,hV,rfl,_,_⟩:=hW
 have hlt:∀ x∈p++q,x.block<W.heap.size:=hW'.lt
 obtain⟨rfl,rfl⟩:=trodVars_none hV
 simp only[List.append_nil] at hW' hlt
 have hp:Tryz.f3.params.toList=[22]:=by rw[Tryz.params3]
 have hA':=hA
 rw[hp] at hA'
 have hlen:=trodAll_len hA'
 match ds,hlen,hA',hW' with
 |[d0],_,hA',hW'=>
  refine (law_calls (rv:=none) (k:=40) (l:=pars3) mix3 libOK tabOK (rv_none _) pars3_ok (ok3 6000) reads_law (hval_of Tryz.params3 hval) hA' hlt).mono fun e W' ⟨he,hb⟩=>?_
  subst he
  refine⟨_,rfl,⟨_,_,_,[],p,[],hW',trodAll_mk1 (shut_bool Tryz.underlying4 _),?_,rfl,hb.frame _,fun h=>by cases h⟩⟩
  rw[hp]
  exact args_stay laid3 hb read3 hA' hlt
theorem holds3:Rows.ImageReadsSaid:=
 OpenClaim.holds_of_wide 3 Tryz.f3 rfl rfl rfl rfl rfl rfl rfl ⟨rfl,rfl,rfl,rfl,rfl⟩ rfl rfl rfl rfl rfl (by kernel_rfl) Tryz.func3 (by kernel_rfl)
  (of_decide_eq_true (by kernel_rfl)) (by unfold Func.isWrapper;rw[if_neg (by decide +kernel)];exact⟨rfl,rfl⟩)
  (fun os started H enc _=>lifted3 os started H enc)
#print axioms holds3
end Go.Proofs.YtlfhlggkbcncoaaGreat
