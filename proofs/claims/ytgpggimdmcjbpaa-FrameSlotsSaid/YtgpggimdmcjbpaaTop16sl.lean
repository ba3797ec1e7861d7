/- FrameSlots returns true, whatever it is given: no condition. -/
import Derived.Test.YtgpggimdmcjbpaaLaw16sl
import Derived.Test.YtgpggimdmcjbpaaSymO
namespace Go.Proofs.Ytgpggimdmcjbpaa
open Go Go.Eng Go.Sym Go.ChangeShapes Go.WideShapes Go.ChangeAt Go.RowKit
def pars4:List Par:=[(26,true,TImage),(3,false,(.int .i64)),(3,false,(.int .i64)),(3,false,(.int .i64))]
theorem own4:ownKnob Try.prog.godebug=none:=by kernel_rfl
theorem laid4:laidOutB Try.prog=true:=by kernel_rfl
theorem mix4:Try.prog.follows .mixedOrders=true:=by kernel_rfl
theorem pars4_ok:∀ p∈pars4,parOK Try.prog none 40 p:=by
 intro p hp
 simp only[pars4,List.mem_cons,List.not_mem_nil,or_false] at hp
 rcases hp with rfl|rfl|rfl|rfl<;>exact⟨by kernel_rfl,by kernel_rfl⟩
theorem read4:([26,3,3,3].all fun t=>Try.prog.readableRec t&&decide (t<Try.prog.types.size))=true:=by kernel_rfl
set_option maxRecDepth 100000 in
theorem lifted4 (os:Os) (started:os.Started) (H:Type) (enc:TypeId×Value→H) :
  ReturnsInHanded {} Try.checked os 4 .any (Rows.frameSlotsSpec.pre6 enc Try.prog Try.f4 Rows.frameSlotsRow.domain false) (Rows.frameSlotsSpec.post enc Try.prog Try.f4 false true false false):=by
 refine returnsInHanded_of_change (C:=Try.checked) own4 started (by kernel_rfl) Try.func4
  (ChangeSpec.witness6 (enc:=enc) (C:=Try.checked) false ⟨#[],#[.agg #[.slice none 0 0,.slice none 0 0,.slice none 0 0],(.int .i64 0),(.int .i64 0),(.int .i64 0)],[]⟩ 20 (by kernel_rfl) (by kernel_rfl) (by kernel_rfl) (by kernel_rfl)) ?_
 intro W base args ds gs before hval hW _ _
 have hW':=hW
 obtain⟨p,q,hA,hV,rfl,_,_⟩:=hW
 have hlt:∀ x∈p++q,x.block<W.heap.size:=hW'.lt
 obtain⟨rfl,rfl⟩:=trodVars_none hV
 simp only[List.append_nil] at hW' hlt
 have hp:Try.f4.params.toList=[26,3,3,3]:=by rw[Try.params4]
 have hA':=hA
 rw[hp] at hA'
 have hlen:=trodAll_len hA'
 match ds,hlen,hA',hW' with
 |[d0,d1,d2,d3],_,hA',hW'=>
  refine (law_calls (rv:=none) (k:=40) (l:=pars4) mix4 libOK tabOK (rv_none _) pars4_ok (ok4 6000) slots_law (hval_of Try.params4 hval) hA' hlt).mono fun e W' ⟨he,hb⟩=>?_
  subst he
  refine⟨_,rfl,⟨_,_,_,[],p,[],hW',trodAll_mk1 (shut_bool Try.underlying4 _),?_,rfl,hb.frame _,fun h=>by cases h⟩⟩
  rw[hp]
  exact args_stay laid4 hb read4 hA' hlt
theorem holds4:Rows.FrameSlotsSaid:=
 OpenClaim.holds_of_wide 4 Try.f4 rfl rfl rfl rfl rfl rfl rfl ⟨rfl,rfl,rfl,rfl,rfl⟩ rfl rfl rfl rfl rfl (by kernel_rfl) Try.func4 (by kernel_rfl)
  (of_decide_eq_true (by kernel_rfl)) (by unfold Func.isWrapper;rw[if_neg (by decide +kernel)];exact⟨rfl,rfl⟩)
  (fun os started H enc _=>lifted4 os started H enc)
#print axioms holds4
end Go.Proofs.Ytgpggimdmcjbpaa
