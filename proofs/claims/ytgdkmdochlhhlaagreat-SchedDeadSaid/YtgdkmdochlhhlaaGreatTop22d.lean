/- Parts of the proof. -/
import Derived.Test.YtgdkmdochlhhlaaGreatSymOr
import Derived.Test.YtgdkmdochlhhlaaGreatFa22d
import Derived.Test.YtgdkmdochlhhlaaGreatLaw22dc
set_option linter.unusedVariables false
set_option linter.unusedSimpArgs false
set_option linter.defProp false
namespace Go.Proofs.YtgdkmdochlhhlaaGreat
open Go Go.bL Go.Sym Go.ChangeShapes Go.WideShapes Go.ChangeAt Go.RowKit
set_option maxRecDepth 100000
def aab:List Bn:=[(36,true,eZ),(3,false,(.int .i64)),(3,false,(.int .i64))]
theorem awG:ownKnob Tryz.prog.godebug=none:=by kernel_rfl
theorem ari:laidOutB Tryz.prog=true:=by kernel_rfl
theorem aac:∀p∈aab,LC Tryz.prog none 40 p:=by intro p hp;simp only[aab,dl,dE,km]at hp;rcases hp with rfl|rfl|rfl<;>exact⟨by kernel_rfl,by kernel_rfl⟩
theorem arj:([36,3,3].all λt=>Tryz.prog.readableRec t&&decide (t<Tryz.prog.types.size))=true:=by kernel_rfl
theorem ade (os:Os) (started:os.Started) (H:Type) (enc:TypeId×Value→H) :
  ReturnsInHanded {} Tryz.checked os 3 .any (Rows.schedDeadSpec.pre6 enc Tryz.prog Tryz.f3 Rows.schedDeadRow.domain false) (Rows.schedDeadSpec.post enc Tryz.prog Tryz.f3 false true false false):=by
 refine returnsInHanded_of_change (C:=Tryz.checked) awG started (by kernel_rfl) Tryz.func3
  (ChangeSpec.witness6 (enc:=enc) (C:=Tryz.checked) false ⟨#[],#[.agg #[.slice none 0 0,.slice none 0 0,.slice none 0 0,(.int .i64 0),(.int .i64 0),(.int .i64 0),(.int .i64 0),(.int .u64 0),.slice none 0 0,.slice none 0 0,.slice none 0 0,(.int .i64 0)],(.int .i64 0),(.int .i64 0)],[]⟩ 20 (by kernel_rfl) (by kernel_rfl) (by kernel_rfl) (by kernel_rfl)) ?_
 intro W base args ds gs before hval hW _ _
 have hW':=hW
 obtain⟨p,q,hA,hV,rfl,_,_⟩:=hW
 have hlt:∀ x∈p++q,x.block<W.heap.size:=hW'.lt
 obtain⟨rfl,rfl⟩:=trodVars_none hV
 simp only[dt] at hW' hlt
 have hp:Tryz.f3.params.toList=[36,3,3]:=by rw[Tryz.params3]
 have hA':=hA
 rw[hp] at hA'
 have hlen:=BE hA'
 match ds,hlen,hA',hW' with
 |[d0,d1,d2],_,hA',hW'=>
  refine (Se (rv:=none) (k:=40) (l:=aab) Ng Bp adL TE ⟨fun _ h=>h.elim,trivial⟩ (abW _) aac ((K3 20000000).ym 3 _ rfl) ZY (abX Tryz.params3 hval) hA' hlt).mono fun e W' ⟨he,hb⟩=>?_
  subst he
  refine⟨_,rfl,⟨_,_,_,[],p,[],hW',trodAll_mk1 (shut_bool Tryz.underlying4 _),?_,rfl,hb.frame _,fun h=>by cases h⟩⟩
  rw[hp]
  exact Ht ari hb arj hA' hlt
theorem holds3:Rows.SchedDeadSaid:=OpenClaim.holds_of_wide 3 Tryz.f3 rfl rfl rfl rfl rfl rfl rfl ⟨rfl,rfl,rfl,rfl,rfl⟩ rfl rfl rfl rfl rfl (by kernel_rfl) Tryz.func3 adb (dv (by kernel_rfl)) (by unfold Func.isWrapper;rw[bi (by decide+kernel)];exact⟨rfl,rfl⟩) (λos started H enc _=>ade os started H enc)
#print axioms holds3
end Go.Proofs.YtgdkmdochlhhlaaGreat
