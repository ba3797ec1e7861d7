/- FrameNames returns true, whatever the world: no condition. -/
import Derived.Test.YtgpggimdmcjbpaaTab16n
import Derived.Laws.Rows
import Derived.ChangeSame
import Derived.JoinedOf
import Derived.JoinedAt
import Derived.JoinedStill
import Derived.RowKit
import Derived.ProofKit
namespace Go.Proofs.Ytgpggimdmcjbpaa
open Go Go.Eng Go.ChangeShapes Go.WideShapes Go.ChangeAt Go.RowKit
theorem names_walk (w:World):Calls Try.prog 5 #[] w fun e w'=>e=.returned (.bool true)∧Below w.heap.size w w':=
 bool_calls (by kernel_rfl) libOK tabOK run w
theorem own:ownKnob Try.prog.godebug=none:=by kernel_rfl
set_option maxRecDepth 100000 in
theorem names_lifted (os:Os) (started:os.Started) (H:Type) (enc:TypeId×Value→H) :
  ReturnsInHanded {} Try.checked os 5 .any (Rows.frameNamesSpec.pre6 enc Try.prog Try.f5 Rows.frameNamesRow.domain false) (Rows.frameNamesSpec.post enc Try.prog Try.f5 false true false false):=by
 refine returnsInHanded_of_change (C:=Try.checked) own started (by kernel_rfl) Try.func5
  (ChangeSpec.witness6 (enc:=enc) (C:=Try.checked) false ⟨#[],#[],[]⟩ 5 (by kernel_rfl) (by kernel_rfl) (by kernel_rfl) (by kernel_rfl)) ?_
 intro W base args ds gs before _ hW _ _
 have hW':=hW
 obtain⟨p,q,hA0,hV,rfl,_,_⟩:=hW
 have hA:DataW.TrodAll enc Try.prog W 0 (fun _=>true) true Try.f5.params.toList args.toList ds p:=hA0
 rw[Try.params5] at hA
 obtain⟨rfl,rfl,rfl⟩:=trodAll_none hA
 obtain⟨rfl,rfl⟩:=trodVars_none hV
 clear hA0
 simp only[List.append_nil] at hW'
 refine (names_walk W).mono fun e W' ⟨he,hb⟩=>?_
 subst he
 exact⟨_,rfl,⟨_,_,_,[],_,[],hW',trodAll_mk1 (shut_bool Try.underlying4 _),trodAll_mk0,rfl,hb.frame _,fun h=>by cases h⟩⟩
theorem names_holds:Rows.FrameNamesSaid:=
 OpenClaim.holds_of_wide 5 Try.f5 rfl rfl rfl rfl rfl rfl rfl ⟨rfl,rfl,rfl,rfl,rfl⟩ rfl rfl rfl rfl rfl (by kernel_rfl) Try.func5 (by kernel_rfl)
  (of_decide_eq_true (by kernel_rfl)) (by unfold Func.isWrapper;rw[if_neg (by decide +kernel)];exact⟨rfl,rfl⟩)
  (fun os started H enc _=>names_lifted os started H enc)
#print axioms names_holds
end Go.Proofs.Ytgpggimdmcjbpaa
