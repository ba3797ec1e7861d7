/- ImageNames returns true, whatever the world: no condition. -/
import Derived.Test.YtlfhlggkbcncoaaTab09nn
import Derived.Test.YtlfhlggkbcncoaaLaw09xnb
import Derived.Test.YtlfhlggkbcncoaaEngKn
import Derived.Laws.Rows
import Derived.ChangeSame
import Derived.JoinedOf
import Derived.JoinedAt
import Derived.JoinedStill
import Derived.RowKit
import Derived.ProofKit
namespace Go.Proofs.Ytlfhlggkbcncoaa
open Go Go.Eng Go.Sym Go.ChangeShapes Go.WideShapes Go.ChangeAt Go.RowKit
theorem mixN:Try.prog.follows .mixedOrders=true:=by kernel_rfl
noncomputable def imgA (n:Nat):AV:=.agg [.d (.sl []),.d (.sl []),.d (.sl (encL TFunc (big n)))]
theorem known17:∃ n cm ts nv,runF tab n 17 [imgA 8] [.lf] .lf 0=some (.d (.sc (.int .i64 0)),cm,ts,nv):=by
 obtain⟨vs,h1,h2⟩:=(ok17 2000).1 rfl (([],[],big 8):(List GType)×(List (List UInt8))×List Func) (0:Int) (check_8 (by omega))
 have e:fillP (c17 2000).args (unpack (c17 2000).ta (([],[],big 8):(List GType)×(List (List UInt8))×List Func))=some ([.agg [.sl TGType [] .d,.sl .str [] .d,.sl TFunc (big 8) .d]],[]):=rfl
 have h1:=e.symm.trans h1
 injection h1 with h1;injection h1 with h1 _;subst h1
 obtain⟨n0,rv,cm,ts,nv,h3,h4⟩:=h2 [imgA 8] ⟨⟨_,rfl,.inl rfl,.inl rfl,.inl rfl,trivial⟩,trivial⟩
 obtain⟨a',h6,h7⟩:=(h4 [(false,[.int .i64 0])] rfl).1 (.c (.int .i64 0)) rfl 0 0 0
 have ha:a'=.d (.sc (.int .i64 0)):=h7 ρ0 0 []
 subst ha
 have hr:=impR_sc h6
 subst hr
 exact⟨n0,cm,ts,nv,h3 n0 (Nat.le_refl _)⟩
theorem known24:∃ n cm ts nv,runF tab n 24 [imgA 9,.d (.sc (.int .i64 4))] [.lf] .lf 0=some (.d (.sc (.bool true)),cm,ts,nv):=by
 obtain⟨vs,h1,h2⟩:=(ok24 2000).1 rfl (([],[],big 9,4):(List GType)×(List (List UInt8))×(List Func)×Int) true (refused_9 (by omega))
 have e:fillP (c24 2000).args (unpack (c24 2000).ta (([],[],big 9,4):(List GType)×(List (List UInt8))×(List Func)×Int))=some ([.agg [.sl TGType [] .d,.sl .str [] .d,.sl TFunc (big 9) .d],.c (.int .i64 4)],[]):=rfl
 have h1:=e.symm.trans h1
 injection h1 with h1;injection h1 with h1 _;subst h1
 obtain⟨n0,rv,cm,ts,nv,h3,h4⟩:=h2 [imgA 9,.d (.sc (.int .i64 4))] ⟨⟨_,rfl,.inl rfl,.inl rfl,.inl rfl,trivial⟩,rfl,trivial⟩
 obtain⟨a',h6,h7⟩:=(h4 [(false,[.bool true])] rfl).1 (.c (.bool true)) rfl 0 0 0
 have ha:a'=.d (.sc (.bool true)):=h7 ρ0 0 []
 subst ha
 have hr:=impR_sc h6
 subst hr
 exact⟨n0,cm,ts,nv,h3 n0 (Nat.le_refl _)⟩
def argL (n:Nat):List AV:=[.d (.sc (.int .i64 n)),.agg [.d (.sc (.int .u8 1)),.d (.sc (.int .i64 15)),.d (.sc (.int .i64 (-9223372036854775808))),.d (.sc (.int .i64 0))]]
theorem known27 (k:Nat) (hk:k≤26):CallOK Try.prog (litData 27 (argL k) [.sl [],.sl [],.sl (encL TFunc (big k))]):=by
 obtain⟨vs,h1,h2⟩:=(ok27 2000).1 rfl (((k:Int),1,15,-9223372036854775808,0):Int×Int×Int×Int×Int) (([],[],big k):(List GType)×(List (List UInt8))×List Func) (large_ok (by omega) hk)
 have e:fillP (c27 2000).args (unpack (c27 2000).ta (((k:Int),1,15,-9223372036854775808,0):Int×Int×Int×Int×Int))=some ([.c (.int .i64 k),.agg [.int .u8 1,.int .i64 15,.int .i64 (-9223372036854775808),.int .i64 0]],[]):=rfl
 have h1:=e.symm.trans h1
 injection h1 with h1;injection h1 with h1 _;subst h1
 obtain⟨n0,rv,cm,ts,nv,h3,h4⟩:=h2 (argL k) ⟨rfl,⟨_,rfl,rfl,rfl,rfl,rfl,trivial⟩,trivial⟩
 obtain⟨a',h6,h7⟩:=(h4 [(true,[.sl TGType [] .d,.sl .str [] .d,.sl TFunc (big k) .d])] rfl).1 (.agg [.sl TGType [] .d,.sl .str [] .d,.sl TFunc (big k) .d]) rfl 0 0 0
 obtain⟨xs,rfl,hx⟩:=h7 ρ0 0 []
 have hd:datCells xs=some (([.sl [],.sl [],.sl (encL TFunc (big k))]:List D).map .d):=by
  match xs,hx with
  |[x,y,z],⟨hx,hy,hz,_⟩=>simp only[datCells,rc_dat hx,rc_dat hy,rc_dat hz];rfl
 exact litD_ok (runF_ok mixN libOK tabOK n0) (h3 n0 (Nat.le_refl _)) h6 hd rfl
noncomputable def orac:Go.Eng.Call:=altCall (guardCall (fun f args=>Nat.beq f 25&&eqL eqA args [.d (.sc (.int .i64 11))]) (thawCall (runF TB.tab 300))) (altCall (litData 27 (argL 8) [.sl [],.sl [],.sl (encL TFunc (big 8))]) (altCall (litData 27 (argL 9) [.sl [],.sl [],.sl (encL TFunc (big 9))]) (altCall (litCall 17 [imgA 8] (.int .i64 0)) (litCall 24 [imgA 9,.d (.sc (.int .i64 4))] (.bool true)))))
theorem orac_ok:CallOK Try.prog orac:=alt_ok (guard_ok (thaw_ok (runF_ok mixN TB.libOK TB.tabOK 300))) (alt_ok (known27 8 (by omega)) (alt_ok (known27 9 (by omega)) (alt_ok (by
 obtain⟨n,cm,ts,nv,h⟩:=known17
 exact lit_ok (runF_ok mixN libOK tabOK n) h rfl) (by
 obtain⟨n,cm,ts,nv,h⟩:=known24
 exact lit_ok (runF_ok mixN libOK tabOK n) h rfl))))
theorem run:(runFO orac TA.tab 20000 8 [] [.lf] .lf 0).map (·.1)=some (.d (.sc (.bool true))):=by kernel_rfl
theorem names_walk (w:World):Calls Try.prog 8 #[] w fun e w'=>e=.returned (.bool true)∧Below w.heap.size w w':=
 bool_callsO (runFO_ok orac_ok mixN TA.libOK TA.tabOK 20000) run w
theorem own:ownKnob Try.prog.godebug=none:=by kernel_rfl
set_option maxRecDepth 100000 in
theorem names_lifted (os:Os) (started:os.Started) (H:Type) (enc:TypeId×Value→H) :
  ReturnsInHanded {} Try.checked os 8 .any (Rows.imageNamesSpec.pre6 enc Try.prog Try.f8 Rows.imageNamesRow.domain false) (Rows.imageNamesSpec.post enc Try.prog Try.f8 false true false false):=by
 refine returnsInHanded_of_change (C:=Try.checked) own started (by kernel_rfl) Try.func8
  (ChangeSpec.witness6 (enc:=enc) (C:=Try.checked) false ⟨#[],#[],[]⟩ 8 (by kernel_rfl) (by kernel_rfl) (by kernel_rfl) (by kernel_rfl)) ?_
 intro W base args ds gs before _ hW _ _
 have hW':=hW
 obtain⟨p,q,hA0,hV,rfl,_,_⟩:=hW
 have hA:DataW.TrodAll enc Try.prog W 0 (fun _=>true) true Try.f8.params.toList args.toList ds p:=hA0
 rw[Try.params8] at hA
 obtain⟨rfl,rfl,rfl⟩:=trodAll_none hA
 obtain⟨rfl,rfl⟩:=trodVars_none hV
 clear hA0
 simp only[List.append_nil] at hW'
 refine (names_walk W).mono fun e W' ⟨he,hb⟩=>?_
 subst he
 exact⟨_,rfl,⟨_,_,_,[],_,[],hW',trodAll_mk1 (shut_bool Try.underlying4 _),trodAll_mk0,rfl,hb.frame _,fun h=>by cases h⟩⟩
theorem names_holds:Rows.ImageNamesSaid:=
 OpenClaim.holds_of_wide 8 Try.f8 rfl rfl rfl rfl rfl rfl rfl ⟨rfl,rfl,rfl,rfl,rfl⟩ rfl rfl rfl rfl rfl (by kernel_rfl) Try.func8 (by kernel_rfl)
  (of_decide_eq_true (by kernel_rfl)) (by unfold Func.isWrapper;rw[if_neg (by decide +kernel)];exact⟨rfl,rfl⟩)
  (fun os started H enc _=>names_lifted os started H enc)
#print axioms names_holds
end Go.Proofs.Ytlfhlggkbcncoaa
