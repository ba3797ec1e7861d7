/- Parts of the proof. -/
import Derived.Test.YtnfdnnplfbfgaaaGreatLaw20lbl5
import Derived.Test.YtnfdnnplfbfgaaaGreatTab20l
import Derived.Test.YtnfdnnplfbfgaaaGreatTop20lA
set_option linter.unusedVariables false
set_option linter.unusedSimpArgs false
set_option linter.defProp false
namespace Go.Proofs.YtnfdnnplfbfgaaaGreat
open Go Go.bS Go.Sym Go.ChangeShapes Go.WideShapes Go.ChangeAt Go.RowKit
set_option maxRecDepth 100000
def YR:List AF:=[(36,true,fF),(3,false,(.int .i64)),(3,false,(.int .i64)),(5,false,(.int .u8))]
theorem avm:ownKnob Tryz.prog.godebug=none:=by kernel_rfl
theorem apW:QA Tryz.prog (some 40):=λt h=>by injection h with h;subst h;exact⟨_,40,Tryz.underlying40,by kernel_rfl,by kernel_rfl⟩
theorem apX:laidOutB Tryz.prog=true:=by kernel_rfl
theorem avn:Tryz.prog.follows .mixedOrders=true:=by kernel_rfl
theorem YS:∀p∈YR,Kk Tryz.prog (some 40) 40 p:=by intro p hp;simp only[YR,dq,d7,lr]at hp;rcases hp with rfl|rfl|rfl|rfl<;>exact⟨by kernel_rfl,by kernel_rfl⟩
theorem apY:([36,3,3,5].all λt=>Tryz.prog.readableRec t&&decide (t<Tryz.prog.types.size))=true:=by kernel_rfl
theorem apZ:eL Tryz.prog bE.O:=Qb
theorem abt (os:Os) (started:os.Started) (H:Type) (enc:TypeId×Value→H) :
  ReturnsInHanded {} Tryz.checked os 3 .any (Rows.basicLocalsSpec.pre6 enc Tryz.prog Tryz.f3 Rows.basicLocalsRow.domain false) (Rows.basicLocalsSpec.post enc Tryz.prog Tryz.f3 false true false false):=by
 refine returnsInHanded_of_change (C:=Tryz.checked) avm started (by kernel_rfl) Tryz.func3
  (ChangeSpec.witness6 (enc:=enc) (C:=Tryz.checked) false ⟨#[],#[.agg #[.slice none 0 0,.slice none 0 0,.slice none 0 0,(.int .i64 0),(.int .i64 0),(.int .i64 0),(.int .i64 0),(.int .u64 0),.slice none 0 0,.slice none 0 0,.slice none 0 0,(.int .i64 0)],(.int .i64 0),(.int .i64 0),(.int .u8 0)],[]⟩ 20 (by kernel_rfl) (by kernel_rfl) (by kernel_rfl) (by kernel_rfl)) ?_
 intro W base args ds gs before hval hW _ _
 have hW':=hW
 obtain⟨p,q,hA,hV,rfl,_,_⟩:=hW
 have hlt:∀ x∈p++q,x.block<W.heap.size:=hW'.lt
 obtain⟨rfl,rfl⟩:=trodVars_none hV
 simp only[dv] at hW' hlt
 have hp:Tryz.f3.params.toList=[36,3,3,5]:=by rw[Tryz.params3]
 have hA':=hA
 rw[hp] at hA'
 have hlen:=AG hA'
 match ds,hlen,hA',hW' with
 |[d0,d1,d2,d3],_,hA',hW'=>
  refine (QB (rv:=some 40) (k:=40) (l:=YR) avn ajv aju apZ ⟨fun _ h=>h.elim,trivial⟩ apW YS ((K3 20000000).tI 3 _ rfl) N2 (aaf Tryz.params3 hval) hA' hlt).mono fun e W' ⟨he,hb⟩=>?_
  subst he
  refine⟨_,rfl,⟨_,_,_,[],p,[],hW',trodAll_mk1 (shut_bool Tryz.underlying4 _),?_,rfl,hb.frame _,fun h=>by cases h⟩⟩
  rw[hp]
  exact Gp apX hb apY hA' hlt
theorem holds3:Rows.BasicLocalsSaid:=OpenClaim.holds_of_wide 3 Tryz.f3 rfl rfl rfl rfl rfl rfl rfl ⟨rfl,rfl,rfl,rfl,rfl⟩ rfl rfl rfl rfl rfl (by kernel_rfl) Tryz.func3 abr (dE (by kernel_rfl)) (by unfold Func.isWrapper;rw[bi (by decide+kernel)];exact⟨rfl,rfl⟩) (λos started H enc _=>abt os started H enc)
#print axioms holds3
end Go.Proofs.YtnfdnnplfbfgaaaGreat
