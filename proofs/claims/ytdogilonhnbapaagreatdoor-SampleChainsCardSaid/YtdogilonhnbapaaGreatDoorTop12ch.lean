/- SampleChains returns true for all arguments: the tied card; what its row lists of the library is used. -/
import Derived.Test.YtdogilonhnbapaaGreatDoorLaw12chc12
import Derived.Test.YtdogilonhnbapaaGreatDoorSymLb
import Derived.Test.YtdogilonhnbapaaGreatDoorTie
import Derived.Test.YtdogilonhnbapaaGreatDoorCards
import Derived.Shelf.Vars
import Derived.Laws.Rows
import Derived.ChangeSame
import Derived.JoinedOf
import Derived.JoinedAt
import Derived.JoinedStill
import Derived.JoinedCond
import Derived.RowKit
import Derived.ProofKit
import Derived.OpenShut
import Derived.LaidMore
import Derived.LaidLaws
import Derived.Lay
import Derived.SevenTiedAt
import Derived.Stop.Joined
import Derived.HandedShaped
import Derived.Deep.DeepHandedRow
set_option linter.unusedVariables false
set_option linter.unusedSimpArgs false
namespace Go.Proofs.YtdogilonhnbapaaGreatDoor
open Go Go.bI Go.Sym Go.ChangeShapes Go.WideShapes Go.ChangeAt Go.RowKit
set_option maxRecDepth 100000
theorem abL:(Tryz.prog.info? 9).map (λi=>(i.zero,i.size,i.bytes))=some (some (.string ByteArray.empty),1,16):=by kernel_rfl
theorem afR:Tryz.prog.globalNamed "internal/strconv.uint64pow10"=some 2:=by kernel_rfl
theorem ZB:cI Tryz.prog (rC 15 LP):=PO Tryz.W8 ⟨_,Tryz.func15,by kernel_rfl,by kernel_rfl⟩ abL λw hg c hc=>hg.sp c hc
theorem afS:cI Tryz.prog (rC 17 LQ):=S4 Tryz.W9 ⟨_,Tryz.func17,by kernel_rfl,by kernel_rfl⟩ abL λw hg=>hg.len
theorem ajW:cI Tryz.prog (rC 7 PT):=Xd Tryz.Xa ⟨_,Tryz.func7,by kernel_rfl,by kernel_rfl⟩ λw hg=>by obtain⟨cs,t,e,h1,h2⟩:=hg.pow;show World.var? Tryz.prog w "internal/strconv.uint64pow10"=_;unfold World.var?;rw[afR];show(match w.heap[2]?with|some (.cells cs _ _)=>some cs|_=>none)=_;rw[h1,h2]
theorem ajX:cI Tryz.prog (rC 16 PR):=Xe (ρ:=Tryz.wB) {Tryz.Jt with} Tryz.Jt ⟨_,Tryz.func16,by kernel_rfl,by kernel_rfl⟩ λw hg=>hg.err
theorem ZC:cI Tryz.prog cw.O:=GJ ajW (GJ afS (GJ ZB (GJ ajX Ph)))
theorem gSp:Tryz.prog.globalNamed "strings.asciiSpace"=some 0:=by kernel_rfl
theorem ajY:Tryz.prog.globalNamed "strconv.ErrSyntax"=some 3:=by kernel_rfl
theorem tSp:(Tryz.prog.globals[0]?).map (·.type)=some 78:=by kernel_rfl
theorem an9:(Tryz.prog.globals[2]?).map (·.type)=some 153:=by kernel_rfl
theorem aoa:(Tryz.prog.globals[3]?).map (·.type)=some 55:=by kernel_rfl
theorem KA{W:World}{n:String}{g:Nat}{cs:Array Value}(hg:Tryz.prog.globalNamed n=some g)(h:W.var? Tryz.prog n=some cs):∃t e,W.heap[g]?=some (.cells cs t e):=by
 unfold World.var? at h;rw[hg]at h;have h:(match W.heap[g]?with|some (.cells cs _ _)=>some cs|_=>none)=some cs:=h;split at h;.rename_i cs' t e he;injection h with h;subst h;exact⟨t,e,he⟩
 .cases h
noncomputable def afT:Array (String×TypeId):=match Tryz.prog.underlying 55with|some (.interface ms)=>ms|_=>#[]
abbrev w9:=Rows.sampleChainsRow.laid
theorem afU{W:World}(h:laidMetH Tryz.prog w9 W)(hS:W.ShapedOpen Tryz.prog):Ng W:=by
 rw[MakeChecks.laidMetH_plain _ _ _ (by kernel_rfl)]at h;obtain⟨ps,⟨_,_,_,_,_,_,_,_,_,_,⟨_,_,_,_,_,_,_,_,_,_,⟨g2,t2,c2,f2,p2,q2,hg2,ht2,hv2,C9,⟨_,_,_,_,_,_,_,_,_,_,⟨_,_,_,_,_,_,_,_,_,_,⟨g3,t3,c3,f3,p3,q3,hg3,ht3,hv3,hd3,⟨_,_,_,_,_,_,_,_,_,_,⟨g0,t0,c0,f0,p0,q0,hg0,ht0,hv0,hd0,_,_⟩,_⟩,_⟩,_⟩,_⟩,_⟩,_⟩,_⟩,_,_⟩:=h;obtain rfl:=Option.some.inj (afR.symm.trans hg2);obtain rfl:=Option.some.inj (ajY.symm.trans hg3);obtain rfl:=Option.some.inj (gSp.symm.trans hg0);obtain rfl:=Option.some.inj (an9.symm.trans ht2);obtain rfl:=Option.some.inj (aoa.symm.trans ht3);obtain rfl:=Option.some.inj (tSp.symm.trans ht0);refine⟨λc hc=>?_,?_,?_,Go.Proofs.cell_of_shapedOpen_int (zero:=#[.int .i64 0]) (t:=3) hS (of_decide_eq_true (by kernel_rfl)) (by kernel_rfl) rfl (by kernel_rfl) (by kernel_rfl) Tryz.underlying3⟩
 .have e:Rows.laid_strings_asciiSpace (H:=Unit)=Lib.tabData .u8 Lib.asciiSpaceTab:=by kernel_rfl
  have hd0:DataW.trod _ Tryz.prog W _ _ _ f0 78 c0.toList=some (Rows.laid_strings_asciiSpace,p0):=hd0;rw[e]at hd0;have hcs:=Lib.cells_of_tab (n:=256) (e:=5) (by kernel_rfl) Tryz.underlying5 (by kernel_rfl) (by kernel_rfl) hd0;have hT:Lib.TabIs Tryz.prog W "strings.asciiSpace" .u8 Lib.asciiSpaceTab:=by unfold Lib.TabIs;rw[hv0,<-hcs]
  rw[hT.cell gSp c (by rw[Lib.asciiSpaceTab_length];exact hc),Lib.asciiSpaceTab_at c hc]
 .have e:Rows.laid_internal_strconv_uint64pow10 (H:=Unit)=Lib.tabData .u64 Lib.pow10Tab:=by kernel_rfl
  have C9:DataW.trod _ Tryz.prog W _ _ _ f2 153 c2.toList=some (Rows.laid_internal_strconv_uint64pow10,p2):=C9;rw[e]at C9;have hcs:=Lib.cells_of_tab (n:=20) (e:=50) (by kernel_rfl) (by kernel_rfl) (by kernel_rfl) (by kernel_rfl) C9;obtain⟨t,e,h⟩:=KA afR hv2;exact⟨c2,t,e,h,by rw[<-hcs]⟩
 .have hd3:DataW.trod _ Tryz.prog W _ _ _ f3 55 c3.toList=some (Rows.laid_strconv_ErrSyntax,p3):=hd3;obtain⟨f',u,v,hc,_,_⟩:=iface_of_trod (name:= "*errors.errorString") (ms:=afT) (by kernel_rfl) hd3;refine⟨u,v,?_⟩;rw[World.var?_cell ajY hv3 0,show c3=#[.iface u v]from by rw[<-Array.toList_inj,hc]];rfl
theorem own:ownKnob Tryz.prog.godebug=none:=by kernel_rfl
theorem afV{W:World}(ZD:Ng W):∀b,xk b->b<W.heap.size:=λb hb=>by obtain⟨m,hm⟩:=ZD.len;have:=World.block_lt_of_cell? _ _ hm;unfold xk at hb;exact Nat.lt_of_lt_of_le hb this
def OD:List wv:=[(22,false,(.sl (.int .i64))),(23,false,(.sl .bool))]
theorem ajZ:laidOutB Tryz.prog=true:=by kernel_rfl
theorem aoc:Tryz.prog.follows .mixedOrders=true:=by kernel_rfl
theorem VI:∀p∈OD,Jp Tryz.prog none 40 p:=by intro p hp;simp only[OD,List.mem_cons,List.not_mem_nil,or_false]at hp;rcases hp with rfl|rfl<;>exact⟨by kernel_rfl,by kernel_rfl⟩
theorem aj0:([22,23].all λt=>Tryz.prog.readableRec t&&decide (t<Tryz.prog.types.size))=true:=by kernel_rfl
theorem aod:∀x,okL (jI OD) x->F3 20000000 x=some true:=by intro x h;obtain⟨h1,_⟩:=ZA h;exact Nb (N:=20000000) (by omega) (l:=x.1) (rs:=x.2) (afQ h1)
theorem ZE (os:Os) (started:os.Started) (H:Type) (enc:TypeId×Value→H) :
  ReturnsInHanded {} Tryz.checked os 3 .any (fun w args=>(Rows.sampleChainsSpec.pre enc Tryz.prog Tryz.f3 Rows.sampleChainsRow.domain false w args∧laidMetH Tryz.prog w9 w)∧sizedMet enc Tryz.prog Tryz.f3 (OpenSpec.ofChange Rows.sampleChainsSpec) false w args)
   (Rows.sampleChainsSpec.post enc Tryz.prog Tryz.f3 false true false false):=by
 refine returnsInHanded_of_calls own started (by kernel_rfl)
  (ChangeSpec.witness_shaped (enc := enc) (C := Tryz.checked) (os := os) (X := fun w _ => laidMetH Tryz.prog w9 w) false (World.laidAll Tryz.prog os w9) #[.slice none 0 0, .slice none 0 0] 8 (World.laidAll_os _ _ _)
   (World.shaped_of_ZipB (by kernel_rfl) (by kernel_rfl)) (by kernel_rfl) (by kernel_rfl) (by kernel_rfl)
   (by rw[MakeChecks.laidMetH_plain _ _ _ (by kernel_rfl)];exact laidMet_laidAll _ (by kernel_rfl) (by kernel_rfl))) ?_
 intro w tape i _ hsh _ hok hpre hholds
 obtain⟨_,_,_,fn',aoe,_,_,_,_,aj1⟩:=hok
 have e:fn'=Tryz.f3:=Option.some.inj (aoe.symm.trans Tryz.func3)
 subst e
 obtain⟨⟨⟨ds,gs,before,hw,hc⟩,hx⟩,hz⟩:=hpre
 have hW:DataW.Whole enc Tryz.prog Tryz.f3.params.toList Rows.sampleChainsSpec.vars false (w.forCall tape i) i.args.toList ds gs before:=DataW.Whole.of_heap (w':=w.forCall tape i) (by rfl) hw
 have hL:laidMetH Tryz.prog w9 (w.forCall tape i):=hx.of_heap (by rfl)
 have ZD:=afU hL hsh
 have hval:∀ (j:Nat) t v,Tryz.f3.params[j]?=some t→i.args[j]?=some v→Value.okWide Tryz.prog (w.forCall tape i) .any w.heap.size t v:=aj1
 generalize w.forCall tape i=W at *
 generalize i.args=args at *
 have hW':=hW
 obtain⟨p,q,hA,hV,rfl,_,_⟩:=hW
 have hlt:∀ x∈p++q,x.block<W.heap.size:=hW'.lt
 obtain⟨rfl,rfl⟩:=trodVars_none hV
 simp only[List.append_nil] at hW' hlt
 have hp:Tryz.f3.params.toList=[22,23]:=by rw[Tryz.params3]
 have hA':=hA
 rw[hp] at hA'
 have hlen:=zm hA'
 match ds,hlen,hA',hW' with
 |[d0,d1],_,hA',hW'=>
  refine (PN (rv:=none) (k:=40) (l:=OD) aoc ahm ahi ZC ⟨afV ZD,ZD⟩ (Xj _) VI ((K3 20000000).Aj 3 _ rfl) aod (Xk Tryz.params3 hval) hA' hlt).mono fun e W' ⟨he,hb⟩=>?_
  subst he
  refine ChangeSpec.post_blind ⟨_,_,_,[],p,[],hW',trodAll_mk1 (shut_bool Tryz.underlying4 _),?_,rfl,hb.frame _,fun h=>by cases h⟩
  rw[hp]
  exact EO ajZ hb aj0 hA' hlt
theorem ZF:joinedFacts Tryz.pinned.checked.prog 3 Tryz.f3 Rows.sampleChainsSpec Rows.sampleChainsRow=true:=by kernel_rfl
theorem inst3:Tryz.f3.isInstance Tryz.pinned.checked.prog Rows.sampleChainsRow.origin Rows.sampleChainsRow.targs:=of_decide_eq_true (by kernel_rfl)
theorem afW:Tryz.pinned.checked.prog.funcNamed Rows.sampleChainsRow.func=some 3:=by kernel_rfl
theorem aj3:Tryz.f3.isWrapper Tryz.pinned.checked.prog Rows.sampleChainsRow.wrapper Rows.sampleChainsRow.mainSum:=by unfold Func.isWrapper;first|(rw[if_pos (by decide+kernel)];kernel_rfl)|(rw[if_neg (by decide+kernel)];exact⟨rfl,rfl⟩)
theorem Nc:Rows.SampleChainsSaid:=OpenClaim.holds_of_wide 3 Tryz.f3 rfl rfl rfl rfl rfl rfl rfl ⟨rfl,rfl,rfl,rfl,rfl⟩ rfl rfl rfl rfl rfl afW Tryz.func3 ZF inst3 aj3 (λos started H enc _=>ZE os started H enc)
theorem card_holds:Rows.SampleChainsCardSaid:=Claim7.holds_tied_plain_at .later [] _ _ _ _ Nc (λ_ h=>by cases h) (by kernel_rfl) (λ_ h=>by cases h) sampleChains_row_tie rfl ⟨rfl,rfl⟩ (by kernel_rfl) rfl (λf fn hf hfn=>by obtain rfl:f=3:=Option.some.inj ((show Tryz.prog.funcNamed "wreckage/wreckagelaw12.SampleChains"=some 3by kernel_rfl).symm.trans hf)|>.symm;obtain rfl:fn=Tryz.f3:=(Option.some.inj (Tryz.func3.symm.trans hfn)).symm;exact⟨by kernel_rfl,λj t ht=>by
 rw[Tryz.params3]at ht;have hm:t∈[22,23]:=by simpa using Array.mem_of_getElem? ht
 have hall:([22,23].all λu=>!Tryz.prog.wantsStandIn u)=true:=by kernel_rfl
 exact(show Tryz.prog.wantsStandIn t=false by simpa using List.all_eq_true.1 hall t hm)⟩) (by kernel_rfl)
#print axioms card_holds
end Go.Proofs.YtdogilonhnbapaaGreatDoor
