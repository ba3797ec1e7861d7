/- SampleMakes returns true for all arguments: the tied card; what its row lists of the library is used. -/
import Derived.Test.YtgkllgjmfpjeoaaGreatDoorLaw12mkmk7
import Derived.Test.YtgkllgjmfpjeoaaGreatDoorSymLb
import Derived.Test.YtgkllgjmfpjeoaaGreatDoorTie
import Derived.Test.YtgkllgjmfpjeoaaGreatDoorCards
import Derived.Shelf.Vars
import Derived.Laws.Rows
import Derived.ChangeSame
import Derived.JoinedOf
import Derived.JoinedAt
import Derived.JoinedStill
import Derived.JoinedCond
import Derived.RowKit
import Derived.ProofKit
import Derived.OpenShut
import Derived.LaidMore
import Derived.LaidLaws
import Derived.Lay
import Derived.SevenTiedAt
import Derived.Stop.Joined
import Derived.HandedShaped
import Derived.Deep.DeepHandedRow
set_option linter.unusedVariables false
set_option linter.unusedSimpArgs false
namespace Go.Proofs.YtgkllgjmfpjeoaaGreatDoor
open Go Go.bJ Go.Sym Go.ChangeShapes Go.WideShapes Go.ChangeAt Go.RowKit
set_option maxRecDepth 100000
theorem ZA:(Tryz.prog.info? 9).map (λi=>(i.zero,i.size,i.bytes))=some (some (.string ByteArray.empty),1,16):=by kernel_rfl
theorem acJ:Tryz.prog.globalNamed "internal/strconv.uint64pow10"=some 5:=by kernel_rfl
theorem Xq:cM Tryz.prog (qW 20 KM):=OF Tryz.We ⟨_,Tryz.func20,by kernel_rfl,by kernel_rfl⟩ ZA λw hg c hc=>hg.sp c hc
theorem acK:cM Tryz.prog (qW 19 KN):=RM Tryz.Wf ⟨_,Tryz.func19,by kernel_rfl,by kernel_rfl⟩ ZA λw hg=>hg.len
theorem ahZ:cM Tryz.prog (qW 24 OH):=Wj Tryz.Wg ⟨_,Tryz.func24,by kernel_rfl,by kernel_rfl⟩ λw hg=>by obtain⟨cs,t,e,h1,h2⟩:=hg.pow;show World.var? Tryz.prog w "internal/strconv.uint64pow10"=_;unfold World.var?;rw[acJ];show(match w.heap[5]?with|some (.cells cs _ _)=>some cs|_=>none)=_;rw[h1,h2]
theorem ah0:cM Tryz.prog (qW 22 OG):=Wl (ρ:=Tryz.vR) {Tryz.IA with} Tryz.IA ⟨_,Tryz.func22,by kernel_rfl,by kernel_rfl⟩ λw hg=>hg.err
theorem Xr:cM Tryz.prog cl.O:=F0 acK (F0 Xq (F0 ah0 (F0 ahZ N7)))
theorem gSp:Tryz.prog.globalNamed "strings.asciiSpace"=some 0:=by kernel_rfl
theorem ah1:Tryz.prog.globalNamed "strconv.ErrSyntax"=some 2:=by kernel_rfl
theorem tSp:(Tryz.prog.globals[0]?).map (·.type)=some 93:=by kernel_rfl
theorem amn:(Tryz.prog.globals[5]?).map (·.type)=some 249:=by kernel_rfl
theorem amo:(Tryz.prog.globals[2]?).map (·.type)=some 72:=by kernel_rfl
theorem JK{W:World}{n:String}{g:Nat}{cs:Array Value}(hg:Tryz.prog.globalNamed n=some g)(h:W.var? Tryz.prog n=some cs):∃t e,W.heap[g]?=some (.cells cs t e):=by
 unfold World.var? at h;rw[hg]at h;have h:(match W.heap[g]?with|some (.cells cs _ _)=>some cs|_=>none)=some cs:=h;split at h;.rename_i cs' t e he;injection h with h;subst h;exact⟨t,e,he⟩
 .cases h
noncomputable def acL:Array (String×TypeId):=match Tryz.prog.underlying 72with|some (.interface ms)=>ms|_=>#[]
abbrev wK:=Rows.sampleMakesRow.laid
theorem acM{W:World}(h:laidMetH Tryz.prog wK W)(hS:W.ShapedOpen Tryz.prog):L9 W:=by
 rw[MakeChecks.laidMetH_plain _ _ _ (by kernel_rfl)]at h;obtain⟨ps,⟨_,_,_,_,_,_,_,_,_,_,⟨_,_,_,_,_,_,_,_,_,_,⟨g2,t2,c2,f2,p2,q2,hg2,ht2,hv2,CD,⟨_,_,_,_,_,_,_,_,_,_,⟨_,_,_,_,_,_,_,_,_,_,⟨g3,t3,c3,f3,p3,q3,hg3,ht3,hv3,hd3,⟨_,_,_,_,_,_,_,_,_,_,⟨g0,t0,c0,f0,p0,q0,hg0,ht0,hv0,hd0,_,_⟩,_⟩,_⟩,_⟩,_⟩,_⟩,_⟩,_⟩,_,_⟩:=h;obtain rfl:=Option.some.inj (acJ.symm.trans hg2);obtain rfl:=Option.some.inj (ah1.symm.trans hg3);obtain rfl:=Option.some.inj (gSp.symm.trans hg0);obtain rfl:=Option.some.inj (amn.symm.trans ht2);obtain rfl:=Option.some.inj (amo.symm.trans ht3);obtain rfl:=Option.some.inj (tSp.symm.trans ht0);refine⟨λc hc=>?_,?_,?_,Go.Proofs.cell_of_shapedOpen_int (zero:=#[.int .i64 0]) (t:=3) hS (of_decide_eq_true (by kernel_rfl)) (by kernel_rfl) rfl (by kernel_rfl) (by kernel_rfl) Tryz.underlying3⟩
 .have e:Rows.laid_strings_asciiSpace (H:=Unit)=Lib.tabData .u8 Lib.asciiSpaceTab:=by kernel_rfl
  have hd0:DataW.trod _ Tryz.prog W _ _ _ f0 93 c0.toList=some (Rows.laid_strings_asciiSpace,p0):=hd0;rw[e]at hd0;have hcs:=Lib.cells_of_tab (n:=256) (e:=5) (by kernel_rfl) Tryz.underlying5 (by kernel_rfl) (by kernel_rfl) hd0;have hT:Lib.TabIs Tryz.prog W "strings.asciiSpace" .u8 Lib.asciiSpaceTab:=by unfold Lib.TabIs;rw[hv0,<-hcs]
  rw[hT.cell gSp c (by rw[Lib.asciiSpaceTab_length];exact hc),Lib.asciiSpaceTab_at c hc]
 .have e:Rows.laid_internal_strconv_uint64pow10 (H:=Unit)=Lib.tabData .u64 Lib.pow10Tab:=by kernel_rfl
  have CD:DataW.trod _ Tryz.prog W _ _ _ f2 249 c2.toList=some (Rows.laid_internal_strconv_uint64pow10,p2):=CD;rw[e]at CD;have hcs:=Lib.cells_of_tab (n:=20) (e:=79) (by kernel_rfl) (by kernel_rfl) (by kernel_rfl) (by kernel_rfl) CD;obtain⟨t,e,h⟩:=JK acJ hv2;exact⟨c2,t,e,h,by rw[<-hcs]⟩
 .have hd3:DataW.trod _ Tryz.prog W _ _ _ f3 72 c3.toList=some (Rows.laid_strconv_ErrSyntax,p3):=hd3;obtain⟨f',u,v,hc,_,_⟩:=iface_of_trod (name:= "*errors.errorString") (ms:=acL) (by kernel_rfl) hd3;refine⟨u,v,?_⟩;rw[World.var?_cell ah1 hv3 0,show c3=#[.iface u v]from by rw[<-Array.toList_inj,hc]];rfl
theorem own:ownKnob Tryz.prog.godebug=none:=by kernel_rfl
theorem acN{W:World}(Xs:L9 W):∀b,wQ b->b<W.heap.size:=λb hb=>by obtain⟨m,_,_,hm,_⟩:=Xs.pow;have⟨this,_⟩:=Array.getElem?_eq_some_iff.mp hm;unfold wQ at hb;exact Nat.lt_of_lt_of_le hb this
def Nv:List yP:=[(22,false,(.sl (.int .i64))),(5,false,(.int .u8))]
theorem ah2:laidOutB Tryz.prog=true:=by kernel_rfl
theorem amr:Tryz.prog.follows .mixedOrders=true:=by kernel_rfl
theorem UU:∀p∈Nv,Iw Tryz.prog none 40 p:=by intro p hp;simp only[Nv,List.mem_cons,List.not_mem_nil,or_false]at hp;rcases hp with rfl|rfl<;>exact⟨by kernel_rfl,by kernel_rfl⟩
theorem ah3:([22,5].all λt=>Tryz.prog.readableRec t&&decide (t<Tryz.prog.types.size))=true:=by kernel_rfl
theorem ams:∀x,okL (jH Nv) x->F3 20000000 x=some true:=by intro x h;obtain⟨h1,_⟩:=Xp h;exact P0 (N:=20000000) (by omega) (l:=x.1) (o:=x.2) (acI h1)
theorem Xt (os:Os) (started:os.Started) (H:Type) (enc:TypeId×Value→H) :
  ReturnsInHanded {} Tryz.checked os 3 .any (fun w args=>(Rows.sampleMakesSpec.pre enc Tryz.prog Tryz.f3 Rows.sampleMakesRow.domain false w args∧laidMetH Tryz.prog wK w)∧sizedMet enc Tryz.prog Tryz.f3 (OpenSpec.ofChange Rows.sampleMakesSpec) false w args)
   (Rows.sampleMakesSpec.post enc Tryz.prog Tryz.f3 false true false false):=by
 refine returnsInHanded_of_calls own started (by kernel_rfl)
  (ChangeSpec.witness_shaped (enc := enc) (C := Tryz.checked) (os := os) (X := fun w _ => laidMetH Tryz.prog wK w) false (World.laidAll Tryz.prog os wK) #[.slice none 0 0, .int .u8 0] 8 (World.laidAll_os _ _ _)
   (World.shaped_of_ZipB (by kernel_rfl) (by kernel_rfl)) (by kernel_rfl) (by kernel_rfl) (by kernel_rfl)
   (by rw[MakeChecks.laidMetH_plain _ _ _ (by kernel_rfl)];exact laidMet_laidAll _ (by kernel_rfl) (by kernel_rfl))) ?_
 intro w tape i _ hsh _ hok hpre hholds
 obtain⟨_,_,_,fn',amt,_,_,_,_,ah4⟩:=hok
 have e:fn'=Tryz.f3:=Option.some.inj (amt.symm.trans Tryz.func3)
 subst e
 obtain⟨⟨⟨ds,gs,before,hw,hc⟩,hx⟩,hz⟩:=hpre
 have hW:DataW.Whole enc Tryz.prog Tryz.f3.params.toList Rows.sampleMakesSpec.vars false (w.forCall tape i) i.args.toList ds gs before:=DataW.Whole.of_heap (w':=w.forCall tape i) (by rfl) hw
 have hL:laidMetH Tryz.prog wK (w.forCall tape i):=hx.of_heap (by rfl)
 have Xs:=acM hL hsh
 have hval:∀ (j:Nat) t v,Tryz.f3.params[j]?=some t→i.args[j]?=some v→Value.okWide Tryz.prog (w.forCall tape i) .any w.heap.size t v:=ah4
 generalize w.forCall tape i=W at *
 generalize i.args=args at *
 have hW':=hW
 obtain⟨p,q,hA,hV,rfl,_,_⟩:=hW
 have hlt:∀ x∈p++q,x.block<W.heap.size:=hW'.lt
 obtain⟨rfl,rfl⟩:=trodVars_none hV
 simp only[List.append_nil] at hW' hlt
 have hp:Tryz.f3.params.toList=[22,5]:=by rw[Tryz.params3]
 have hA':=hA
 rw[hp] at hA'
 have hlen:=yQ hA'
 match ds,hlen,hA',hW' with
 |[d0,d1],_,hA',hW'=>
  refine (OD (rv:=none) (k:=40) (l:=Nv) amr aed ad8 Xr ⟨acN Xs,Xs⟩ (Wq _) UU ((K3 20000000).AT 3 _ rfl) ams (Wr Tryz.params3 hval) hA' hlt).mono fun e W' ⟨he,hb⟩=>?_
  subst he
  refine ChangeSpec.post_blind ⟨_,_,_,[],p,[],hW',trodAll_mk1 (shut_bool Tryz.underlying4 _),?_,rfl,hb.frame _,fun h=>by cases h⟩
  rw[hp]
  exact Ed ah2 hb ah3 hA' hlt
theorem Xu:joinedFacts Tryz.pinned.checked.prog 3 Tryz.f3 Rows.sampleMakesSpec Rows.sampleMakesRow=true:=by kernel_rfl
theorem inst3:Tryz.f3.isInstance Tryz.pinned.checked.prog Rows.sampleMakesRow.origin Rows.sampleMakesRow.targs:=of_decide_eq_true (by kernel_rfl)
theorem acO:Tryz.pinned.checked.prog.funcNamed Rows.sampleMakesRow.func=some 3:=by kernel_rfl
theorem ah6:Tryz.f3.isWrapper Tryz.pinned.checked.prog Rows.sampleMakesRow.wrapper Rows.sampleMakesRow.mainSum:=by unfold Func.isWrapper;first|(rw[if_pos (by decide+kernel)];kernel_rfl)|(rw[if_neg (by decide+kernel)];exact⟨rfl,rfl⟩)
theorem L5:Rows.SampleMakesSaid:=OpenClaim.holds_of_wide 3 Tryz.f3 rfl rfl rfl rfl rfl rfl rfl ⟨rfl,rfl,rfl,rfl,rfl⟩ rfl rfl rfl rfl rfl acO Tryz.func3 Xu inst3 ah6 (λos started H enc _=>Xt os started H enc)
theorem card_holds:Rows.SampleMakesCardSaid:=Claim7.holds_tied_plain_at .later [] _ _ _ _ L5 (λ_ h=>by cases h) (by kernel_rfl) (λ_ h=>by cases h) sampleMakes_row_tie rfl ⟨rfl,rfl⟩ (by kernel_rfl) rfl (λf fn hf hfn=>by obtain rfl:f=3:=Option.some.inj ((show Tryz.prog.funcNamed "wreckage/wreckagelaw12.SampleMakes"=some 3by kernel_rfl).symm.trans hf)|>.symm;obtain rfl:fn=Tryz.f3:=(Option.some.inj (Tryz.func3.symm.trans hfn)).symm;exact⟨by kernel_rfl,λj t ht=>by
 rw[Tryz.params3]at ht;have hm:t∈[22,5]:=by simpa using Array.mem_of_getElem? ht
 have hall:([22,5].all λu=>!Tryz.prog.wantsStandIn u)=true:=by kernel_rfl
 exact(show Tryz.prog.wantsStandIn t=false by simpa using List.all_eq_true.1 hall t hm)⟩) (by kernel_rfl)
#print axioms card_holds
end Go.Proofs.YtgkllgjmfpjeoaaGreatDoor
