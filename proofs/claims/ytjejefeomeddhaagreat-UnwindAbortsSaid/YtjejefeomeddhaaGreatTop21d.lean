/- UnwindAborts returns true, whatever it is given: no condition. -/
import Derived.Test.YtjejefeomeddhaaGreatDtz21d
import Derived.Test.YtjejefeomeddhaaGreatSymMU
import Derived.Test.YtjejefeomeddhaaGreatFa21d
import Derived.Test.YtjejefeomeddhaaGreatTab21d
set_option linter.unusedVariables false
set_option linter.unusedSimpArgs false
namespace Go.Proofs.YtjejefeomeddhaaGreat
open Go Go.Eng Go.Sym Go.ChangeShapes Go.WideShapes Go.ChangeAt Go.RowKit
set_option maxRecDepth 100000
def pars3:List Par:=[(2,false,.int .i64),(2,false,.int .i64)]
theorem own3:ownKnob Tryz.prog.godebug=none:=by kernel_rfl
theorem laid3:laidOutB Tryz.prog=true:=by kernel_rfl
theorem pars3_ok:∀ p∈pars3,parOK Tryz.prog none 40 p:=by
 intro p hp
 simp only[pars3,List.mem_cons,List.not_mem_nil,or_false] at hp
 rcases hp with rfl|rfl<;>exact⟨by kernel_rfl,by kernel_rfl⟩
theorem read3:([2,2].all fun t=>Tryz.prog.readableRec t&&decide (t<Tryz.prog.types.size))=true:=by kernel_rfl
theorem lifted3 (os:Os) (started:os.Started) (H:Type) (enc:TypeId×Value→H) :
  ReturnsInHanded {} Tryz.checked os 3 .any (Rows.unwindAbortsSpec.pre6 enc Tryz.prog Tryz.f3 Rows.unwindAbortsRow.domain false) (Rows.unwindAbortsSpec.post enc Tryz.prog Tryz.f3 false true false false):=by
 refine returnsInHanded_of_change (C:=Tryz.checked) own3 started (by kernel_rfl) Tryz.func3
  (ChangeSpec.witness6 (enc:=enc) (C:=Tryz.checked) false ⟨#[],#[(.int .i64 0),(.int .i64 0)],[]⟩ 20 (by kernel_rfl) (by kernel_rfl) (by kernel_rfl) (by kernel_rfl)) ?_
 intro W base args ds gs before hval hW _ _
 have hW':=hW
 obtain⟨p,q,hA,hV,rfl,_,_⟩:=hW
 have hlt:∀ x∈p++q,x.block<W.heap.size:=hW'.lt
 obtain⟨rfl,rfl⟩:=trodVars_none hV
 simp only[List.append_nil] at hW' hlt
 have hp:Tryz.f3.params.toList=[2,2]:=by rw[Tryz.params3]
 have hA':=hA
 rw[hp] at hA'
 letI:Rho:=rho2 0 0
 have hlen:=trodAll_len hA'
 match ds,hlen,hA',hW' with
 |[d0,d1],_,hA',hW'=>
  obtain⟨a,b,h1,h2,h3⟩:=ints2 (rv:=none) (k:=40) (fun _ h=>by cases h) pars3_ok (hval_of Tryz.params3 hval) hA'
  refine (law2_calls (fun a b=>@law_ans (rho2 a b)) ⟨fun _ h=>h.elim,trivial⟩ h1 h2 h3).mono fun e W' ⟨he,hb⟩=>?_
  subst he
  refine⟨_,rfl,⟨_,_,_,[],p,[],hW',trodAll_mk1 (shut_bool Tryz.underlying4 _),?_,rfl,hb.frame _,fun h=>by cases h⟩⟩
  rw[hp]
  exact args_stay laid3 hb read3 hA' hlt
theorem holds3:Rows.UnwindAbortsSaid:=
 OpenClaim.holds_of_wide 3 Tryz.f3 rfl rfl rfl rfl rfl rfl rfl ⟨rfl,rfl,rfl,rfl,rfl⟩ rfl rfl rfl rfl rfl (by kernel_rfl) Tryz.func3 closed3
  (of_decide_eq_true (by kernel_rfl)) (by unfold Func.isWrapper;rw[if_neg (by decide +kernel)];exact⟨rfl,rfl⟩)
  (fun os started H enc _=>lifted3 os started H enc)
#print axioms holds3
end Go.Proofs.YtjejefeomeddhaaGreat
