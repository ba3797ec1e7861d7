/- FrameOpposite returns true, whatever it is given: no condition. -/
import Derived.Test.YtgpggimdmcjbpaaGreatLaw16xop
import Derived.Test.YtgpggimdmcjbpaaGreatSymO
namespace Go.Proofs.YtgpggimdmcjbpaaGreat
open Go Go.Eng Go.Sym Go.ChangeShapes Go.WideShapes Go.ChangeAt Go.RowKit
def pars4:List Par:=[(30,true,TImage),(47,false,(.sl Textent)),(48,false,(.sl (.int .u64)))]
theorem own4:ownKnob Tryz.prog.godebug=none:=by kernel_rfl
theorem laid4:laidOutB Tryz.prog=true:=by kernel_rfl
theorem mix4:Tryz.prog.follows .mixedOrders=true:=by kernel_rfl
theorem pars4_ok:∀ p∈pars4,parOK Tryz.prog none 40 p:=by
 intro p hp
 simp only[pars4,List.mem_cons,List.not_mem_nil,or_false] at hp
 rcases hp with rfl|rfl|rfl<;>exact⟨by kernel_rfl,by kernel_rfl⟩
theorem read4:([30,47,48].all fun t=>Tryz.prog.readableRec t&&decide (t<Tryz.prog.types.size))=true:=by kernel_rfl
set_option maxRecDepth 100000 in
theorem lifted4 (os:Os) (started:os.Started) (H:Type) (enc:TypeId×Value→H) :
  ReturnsInHanded {} Tryz.checked os 4 .any (Rows.frameOppositeSpec.pre6 enc Tryz.prog Tryz.f4 Rows.frameOppositeRow.domain false) (Rows.frameOppositeSpec.post enc Tryz.prog Tryz.f4 false true false false):=by
 refine returnsInHanded_of_change (C:=Tryz.checked) own4 started (by kernel_rfl) Tryz.func4
  (ChangeSpec.witness6 (enc:=enc) (C:=Tryz.checked) false ⟨#[],#[.agg #[.slice none 0 0,.slice none 0 0,.slice none 0 0],.slice none 0 0,.slice none 0 0],[]⟩ 20 (by kernel_rfl) (by kernel_rfl) (by kernel_rfl) (by kernel_rfl)) ?_
 intro W base args ds gs before hval hW _ _
 have hW':=hW
 obtain⟨p,q,hA,hV,rfl,_,_⟩:=hW
 have hlt:∀ x∈p++q,x.block<W.heap.size:=hW'.lt
 obtain⟨rfl,rfl⟩:=trodVars_none hV
 simp only[List.append_nil] at hW' hlt
 have hp:Tryz.f4.params.toList=[30,47,48]:=by rw[Tryz.params4]
 have hA':=hA
 rw[hp] at hA'
 have hlen:=trodAll_len hA'
 match ds,hlen,hA',hW' with
 |[d0,d1,d2],_,hA',hW'=>
  refine (law_calls (rv:=none) (k:=40) (l:=pars4) mix4 libOK tabOK (rv_none _) pars4_ok (ok4 6000) opposite_law (hval_of Tryz.params4 hval) hA' hlt).mono fun e W' ⟨he,hb⟩=>?_
  subst he
  refine⟨_,rfl,⟨_,_,_,[],p,[],hW',trodAll_mk1 (shut_bool Tryz.underlying4 _),?_,rfl,hb.frame _,fun h=>by cases h⟩⟩
  rw[hp]
  exact args_stay laid4 hb read4 hA' hlt
theorem holds4:Rows.FrameOppositeSaid:=
 OpenClaim.holds_of_wide 4 Tryz.f4 rfl rfl rfl rfl rfl rfl rfl ⟨rfl,rfl,rfl,rfl,rfl⟩ rfl rfl rfl rfl rfl (by kernel_rfl) Tryz.func4 (by kernel_rfl)
  (of_decide_eq_true (by kernel_rfl)) (by unfold Func.isWrapper;rw[if_neg (by decide +kernel)];exact⟨rfl,rfl⟩)
  (fun os started H enc _=>lifted4 os started H enc)
#print axioms holds4
end Go.Proofs.YtgpggimdmcjbpaaGreat
