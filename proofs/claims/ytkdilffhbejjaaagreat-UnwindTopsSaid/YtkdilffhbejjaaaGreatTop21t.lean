/- UnwindTops returns true, whatever it is given: no condition. -/
import Derived.Test.YtkdilffhbejjaaaGreatLaw21tut7
import Derived.Test.YtkdilffhbejjaaaGreatTab21t
set_option linter.unusedVariables false
set_option linter.unusedSimpArgs false
namespace Go.Proofs.YtkdilffhbejjaaaGreat
open Go Go.bM Go.Sym Go.ChangeShapes Go.WideShapes Go.ChangeAt Go.RowKit
set_option maxRecDepth 100000
def WT:List zO:=[(36,true,eV),(3,false,(.int .i64))]
theorem aqq:ownKnob Tryz.prog.godebug=none:=by kernel_rfl
theorem alB:laidOutB Tryz.prog=true:=by kernel_rfl
theorem aqr:Tryz.prog.follows .mixedOrders=true:=by kernel_rfl
theorem WU:∀p∈WT,Js Tryz.prog none 40 p:=by intro p hp;simp only[WT,dk,dC,jp]at hp;rcases hp with rfl|rfl<;>exact⟨by kernel_rfl,by kernel_rfl⟩
theorem alC:([36,3].all λt=>Tryz.prog.readableRec t&&decide (t<Tryz.prog.types.size))=true:=by kernel_rfl
theorem alD:eo Tryz.prog bJ.O:=OZ
theorem Zq (os:Os) (started:os.Started) (H:Type) (enc:TypeId×Value→H) :
  ReturnsInHanded {} Tryz.checked os 3 .any (Rows.unwindTopsSpec.pre6 enc Tryz.prog Tryz.f3 Rows.unwindTopsRow.domain false) (Rows.unwindTopsSpec.post enc Tryz.prog Tryz.f3 false true false false):=by
 refine returnsInHanded_of_change (C:=Tryz.checked) aqq started (by kernel_rfl) Tryz.func3
  (ChangeSpec.witness6 (enc:=enc) (C:=Tryz.checked) false ⟨#[],#[.agg #[.slice none 0 0,.slice none 0 0,.slice none 0 0,(.int .i64 0),(.int .i64 0),(.int .i64 0),(.int .i64 0),(.int .u64 0),.slice none 0 0,.slice none 0 0,.slice none 0 0,(.int .i64 0)],(.int .i64 0)],[]⟩ 20 (by kernel_rfl) (by kernel_rfl) (by kernel_rfl) (by kernel_rfl)) ?_
 intro W base args ds gs before hval hW _ _
 have hW':=hW
 obtain⟨p,q,hA,hV,rfl,_,_⟩:=hW
 have hlt:∀ x∈p++q,x.block<W.heap.size:=hW'.lt
 obtain⟨rfl,rfl⟩:=trodVars_none hV
 simp only[dt] at hW' hlt
 have hp:Tryz.f3.params.toList=[36,3]:=by rw[Tryz.params3]
 have hA':=hA
 rw[hp] at hA'
 have hlen:=zP hA'
 match ds,hlen,hA',hW' with
 |[d0,d1],_,hA',hW'=>
  refine (Pr (rv:=none) (k:=40) (l:=WT) aqr agu agt alD ⟨fun _ h=>h.elim,trivial⟩ (Yj _) WU ((K3 20000000).vE 3 _ rfl) WS (Yk Tryz.params3 hval) hA' hlt).mono fun e W' ⟨he,hb⟩=>?_
  subst he
  refine⟨_,rfl,⟨_,_,_,[],p,[],hW',trodAll_mk1 (shut_bool Tryz.underlying4 _),?_,rfl,hb.frame _,fun h=>by cases h⟩⟩
  rw[hp]
  exact Fo alB hb alC hA' hlt
theorem holds3:Rows.UnwindTopsSaid:=OpenClaim.holds_of_wide 3 Tryz.f3 rfl rfl rfl rfl rfl rfl rfl ⟨rfl,rfl,rfl,rfl,rfl⟩ rfl rfl rfl rfl rfl (by kernel_rfl) Tryz.func3 (by kernel_rfl) (dv (by kernel_rfl)) (by unfold Func.isWrapper;rw[be (by decide+kernel)];exact⟨rfl,rfl⟩) (λos started H enc _=>Zq os started H enc)
#print axioms holds3
end Go.Proofs.YtkdilffhbejjaaaGreat
