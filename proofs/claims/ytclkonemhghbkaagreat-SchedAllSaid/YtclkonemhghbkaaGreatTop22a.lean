/- Parts of the proof. -/
import Derived.Test.YtclkonemhghbkaaGreatLaw22asa1
import Derived.Test.YtclkonemhghbkaaGreatFa22a
import Derived.Test.YtclkonemhghbkaaGreatTab22a
set_option linter.unusedVariables false
set_option linter.unusedSimpArgs false
set_option linter.defProp false
namespace Go.Proofs.YtclkonemhghbkaaGreat
open Go Go.bK Go.Sym Go.ChangeShapes Go.WideShapes Go.ChangeAt Go.RowKit
set_option maxRecDepth 100000
def ZI:List Bi:=[(36,true,jJ)]
theorem avW:ownKnob Tryz.prog.godebug=none:=by kernel_rfl
theorem aqy:laidOutB Tryz.prog=true:=by kernel_rfl
theorem ZJ:∀p∈ZI,Ls Tryz.prog none 40 p:=by intro p hp;simp only[ZI,dj,dC,km]at hp;rcases hp with rfl;exact⟨by kernel_rfl,by kernel_rfl⟩
theorem aqz:([36].all λt=>Tryz.prog.readableRec t&&decide (t<Tryz.prog.types.size))=true:=by kernel_rfl
theorem acJ (os:Os) (started:os.Started) (H:Type) (enc:TypeId×Value→H) :
  ReturnsInHanded {} Tryz.checked os 3 .any (Rows.schedAllSpec.pre6 enc Tryz.prog Tryz.f3 Rows.schedAllRow.domain false) (Rows.schedAllSpec.post enc Tryz.prog Tryz.f3 false true false false):=by
 refine returnsInHanded_of_change (C:=Tryz.checked) avW started (by kernel_rfl) Tryz.func3
  (ChangeSpec.witness6 (enc:=enc) (C:=Tryz.checked) false ⟨#[],#[.agg #[.slice none 0 0,.slice none 0 0,.slice none 0 0,(.int .i64 0),(.int .i64 0),(.int .i64 0),(.int .i64 0),(.int .u64 0),.slice none 0 0,.slice none 0 0,.slice none 0 0,(.int .i64 0)]],[]⟩ 20 (by kernel_rfl) (by kernel_rfl) (by kernel_rfl) (by kernel_rfl)) ?_
 intro W base args ds gs before hval hW _ _
 have hW':=hW
 obtain⟨p,q,hA,hV,rfl,_,_⟩:=hW
 have hlt:∀ x∈p++q,x.block<W.heap.size:=hW'.lt
 obtain⟨rfl,rfl⟩:=trodVars_none hV
 simp only[dq] at hW' hlt
 have hp:Tryz.f3.params.toList=[36]:=by rw[Tryz.params3]
 have hA':=hA
 rw[hp] at hA'
 have hlen:=Bj hA'
 match ds,hlen,hA',hW' with
 |[d0],_,hA',hW'=>
  refine (R2 (rv:=none) (k:=40) (l:=ZI) MW Bk adj Tk ⟨fun _ h=>h.elim,trivial⟩ (abb _) ZJ ((K3 20000000).ye 3 _ rfl) ack (abc Tryz.params3 hval) hA' hlt).mono fun e W' ⟨he,hb⟩=>?_
  subst he
  refine⟨_,rfl,⟨_,_,_,[],p,[],hW',trodAll_mk1 (shut_bool Tryz.underlying4 _),?_,rfl,hb.frame _,fun h=>by cases h⟩⟩
  rw[hp]
  exact Hh aqy hb aqz hA' hlt
theorem holds3:Rows.SchedAllSaid:=OpenClaim.holds_of_wide 3 Tryz.f3 rfl rfl rfl rfl rfl rfl rfl ⟨rfl,rfl,rfl,rfl,rfl⟩ rfl rfl rfl rfl rfl (by kernel_rfl) Tryz.func3 acI (du (by kernel_rfl)) (by unfold Func.isWrapper;rw[be (by decide+kernel)];exact⟨rfl,rfl⟩) (λos started H enc _=>acJ os started H enc)
#print axioms holds3
end Go.Proofs.YtclkonemhghbkaaGreat
