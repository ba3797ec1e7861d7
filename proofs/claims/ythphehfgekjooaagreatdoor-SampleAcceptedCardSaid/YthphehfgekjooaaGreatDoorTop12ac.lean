/- SampleAccepted returns true for all arguments: the tied card; what its row lists of the library is used. -/
import Derived.Test.YthphehfgekjooaaGreatDoorLaw12acac13
import Derived.Test.YthphehfgekjooaaGreatDoorSymLb
import Derived.Test.YthphehfgekjooaaGreatDoorTie
import Derived.Test.YthphehfgekjooaaGreatDoorCards
import Derived.Shelf.Vars
import Derived.Laws.Rows
import Derived.ChangeSame
import Derived.JoinedOf
import Derived.JoinedAt
import Derived.JoinedStill
import Derived.JoinedCond
import Derived.RowKit
import Derived.ProofKit
import Derived.OpenShut
import Derived.LaidMore
import Derived.LaidLaws
import Derived.Lay
import Derived.SevenTiedAt
import Derived.Stop.Joined
import Derived.HandedShaped
import Derived.Deep.DeepHandedRow
set_option linter.unusedVariables false
set_option linter.unusedSimpArgs false
namespace Go.Proofs.YthphehfgekjooaaGreatDoor
open Go Go.bq Go.Sym Go.ChangeShapes Go.WideShapes Go.ChangeAt Go.RowKit
set_option maxRecDepth 100000
theorem Y0:(Tryz.prog.info? 9).map (fun i=>(i.zero,i.size,i.bytes))=some (some (.string ByteArray.empty),1,16):=by kernel_rfl
theorem abX:Tryz.prog.globalNamed "internal/strconv.uint64pow10" = some 4:=by kernel_rfl
theorem WW:bX Tryz.prog (qu 22 KF):=Oj Tryz.U2 ⟨_,Tryz.func22,by kernel_rfl,by kernel_rfl⟩ Y0 fun w hg c hc=>hg.sp c hc
theorem abY:bX Tryz.prog (qu 21 KG):=Rn Tryz.U3 ⟨_,Tryz.func21,by kernel_rfl,by kernel_rfl⟩ Y0 fun w hg=>hg.len
theorem afo:bX Tryz.prog (qu 15 Om):=U8 Tryz.U4 ⟨_,Tryz.func15,by kernel_rfl,by kernel_rfl⟩ fun w hg=>by
 obtain⟨cs,t,e,h1,h2⟩:=hg.pow
 show World.var? Tryz.prog w "internal/strconv.uint64pow10" = _
 unfold World.var?
 rw[abX]
 show (match w.heap[4]? with|some (.cells cs _ _)=>some cs|_=>none)=_
 rw[h1,h2]
theorem afp:bX Tryz.prog (qu 24 Ol):=U9 (ρ:=Tryz.vo) { Tryz.Ij with } Tryz.Ij ⟨_,Tryz.func24,by kernel_rfl,by kernel_rfl⟩ fun w hg=>hg.err
theorem WX:bX Tryz.prog cx.O:=Fl abY (Fl WW (Fl afp (Fl afo NQ)))
theorem gSp:Tryz.prog.globalNamed "strings.asciiSpace" = some 0:=by kernel_rfl
theorem afq:Tryz.prog.globalNamed "strconv.ErrSyntax" = some 2:=by kernel_rfl
theorem tSp:(Tryz.prog.globals[0]?).map (·.type)=some 96:=by kernel_rfl
theorem aiY:(Tryz.prog.globals[4]?).map (·.type)=some 238:=by kernel_rfl
theorem aiZ:(Tryz.prog.globals[2]?).map (·.type)=some 71:=by kernel_rfl
theorem Jv {W:World} {n:String} {g:Nat} {cs:Array Value} (hg:Tryz.prog.globalNamed n=some g) (h:W.var? Tryz.prog n=some cs):∃ t e,W.heap[g]?=some (.cells cs t e):=by
 unfold World.var? at h
 rw[hg] at h
 have h:(match W.heap[g]? with|some (.cells cs _ _)=>some cs|_=>none)=some cs:=h
 split at h
 ·rename_i cs' t e he
  injection h with h;subst h
  exact⟨t,e,he⟩
 ·cases h
noncomputable def abZ:Array (String×TypeId):=match Tryz.prog.underlying 71 with|some (.interface ms)=>ms|_=>#[]
abbrev vS:=Rows.sampleAcceptedRow.laid
theorem ab0 {W:World} (h:laidMetH Tryz.prog vS W) (hS:W.ShapedOpen Tryz.prog):LY W:=by
 rw[MakeChecks.laidMetH_plain _ _ _ (by kernel_rfl)] at h
 obtain⟨ps,⟨_,_,_,_,_,_,_,_,_,_,⟨_,_,_,_,_,_,_,_,_,_,⟨g2,t2,c2,f2,p2,q2,hg2,ht2,hv2,Cc,⟨_,_,_,_,_,_,_,_,_,_,⟨_,_,_,_,_,_,_,_,_,_,⟨g3,t3,c3,f3,p3,q3,hg3,ht3,hv3,hd3,⟨_,_,_,_,_,_,_,_,_,_,⟨g0,t0,c0,f0,p0,q0,hg0,ht0,hv0,hd0,_,_⟩,_⟩,_⟩,_⟩,_⟩,_⟩,_⟩,_⟩,_,_⟩:=h
 obtain rfl:=Option.some.inj (abX.symm.trans hg2)
 obtain rfl:=Option.some.inj (afq.symm.trans hg3)
 obtain rfl:=Option.some.inj (gSp.symm.trans hg0)
 obtain rfl:=Option.some.inj (aiY.symm.trans ht2)
 obtain rfl:=Option.some.inj (aiZ.symm.trans ht3)
 obtain rfl:=Option.some.inj (tSp.symm.trans ht0)
 refine⟨fun c hc=>?_,?_,?_,Go.Proofs.cell_of_shapedOpen_int (zero:=#[.int .i64 0]) (t:=3) hS (of_decide_eq_true (by kernel_rfl)) (by kernel_rfl) rfl (by kernel_rfl) (by kernel_rfl) Tryz.underlying3⟩
 ·have e : Rows.laid_strings_asciiSpace (H := Unit) = Lib.tabData .u8 Lib.asciiSpaceTab := by kernel_rfl
  have hd0:DataW.trod _ Tryz.prog W _ _ _ f0 96 c0.toList=some (Rows.laid_strings_asciiSpace,p0):=hd0
  rw[e] at hd0
  have hcs:=Lib.cells_of_tab (n:=256) (e:=5) (by kernel_rfl) Tryz.underlying5 (by kernel_rfl) (by kernel_rfl) hd0
  have hT:Lib.TabIs Tryz.prog W "strings.asciiSpace" .u8 Lib.asciiSpaceTab:=by
   unfold Lib.TabIs
   rw[hv0,←hcs]
  rw[hT.cell gSp c (by rw[Lib.asciiSpaceTab_length];exact hc),Lib.asciiSpaceTab_at c hc]
 ·have e : Rows.laid_internal_strconv_uint64pow10 (H := Unit) = Lib.tabData .u64 Lib.pow10Tab := by kernel_rfl
  have Cc:DataW.trod _ Tryz.prog W _ _ _ f2 238 c2.toList=some (Rows.laid_internal_strconv_uint64pow10,p2):=Cc
  rw[e] at Cc
  have hcs:=Lib.cells_of_tab (n:=20) (e:=45) (by kernel_rfl) (by kernel_rfl) (by kernel_rfl) (by kernel_rfl) Cc
  obtain⟨t,e,h⟩:=Jv abX hv2
  exact⟨c2,t,e,h,by rw[←hcs]⟩
 ·have hd3 : DataW.trod _ Tryz.prog W _ _ _ f3 71 c3.toList = some (Rows.laid_strconv_ErrSyntax, p3) := hd3
  obtain⟨f',u,v,hc,_,_⟩:=iface_of_trod (name := "*errors.errorString") (ms:=abZ) (by kernel_rfl) hd3
  refine⟨u,v,?_⟩
  rw[World.var?_cell afq hv3 0,show c3 = #[.iface u v] from by rw[←Array.toList_inj,hc]]
  rfl
theorem own:ownKnob Tryz.prog.godebug=none:=by kernel_rfl
theorem ab1 {W:World} (WY:LY W):∀ b,vY b→b<W.heap.size:=fun b hb=>by
 obtain⟨m,hm⟩:=WY.len
 have:=World.block_lt_of_cell? _ _ hm
 unfold vY at hb
 exact Nat.lt_of_lt_of_le hb this
def Nc:List vl:=[(22,false,(.sl (.int .i64))),(22,false,(.sl (.int .i64))),(23,false,(.sl .bool))]
theorem afr:laidOutB Tryz.prog=true:=by kernel_rfl
theorem ai1:Tryz.prog.follows .mixedOrders=true:=by kernel_rfl
theorem TI:∀ p∈Nc,Ie Tryz.prog none 40 p:=by
 intro p hp
 simp only[Nc,List.mem_cons,List.not_mem_nil,or_false] at hp
 rcases hp with rfl|rfl|rfl<;>exact⟨by kernel_rfl,by kernel_rfl⟩
theorem afs:([22,22,23].all fun t=>Tryz.prog.readableRec t&&decide (t<Tryz.prog.types.size))=true:=by kernel_rfl
theorem ai2:∀ x,ZP (jg Nc) x→F3 20000000 x=some true:=by
 intro x h
 obtain⟨h1,h⟩:=M7 h
 obtain⟨h2,_⟩:=M7 h
 exact Gi (N:=20000000) (by omega) (l:=x.1) (c:=x.2.1) (rs:=x.2.2) (TH h1) (TH h2)
theorem WZ (os:Os) (started:os.Started) (H:Type) (enc:TypeId×Value→H) :
  ReturnsInHanded {} Tryz.checked os 3 .any (fun w args=>(Rows.sampleAcceptedSpec.pre enc Tryz.prog Tryz.f3 Rows.sampleAcceptedRow.domain false w args∧laidMetH Tryz.prog vS w)∧sizedMet enc Tryz.prog Tryz.f3 (OpenSpec.ofChange Rows.sampleAcceptedSpec) false w args)
   (Rows.sampleAcceptedSpec.post enc Tryz.prog Tryz.f3 false true false false):=by
 refine returnsInHanded_of_calls own started (by kernel_rfl)
  (ChangeSpec.witness_shaped (enc := enc) (C := Tryz.checked) (os := os) (X := fun w _ => laidMetH Tryz.prog vS w) false (World.laidAll Tryz.prog os vS) #[.slice none 0 0, .slice none 0 0, .slice none 0 0] 8 (World.laidAll_os _ _ _)
   (World.shaped_of_ZipB (by kernel_rfl) (by kernel_rfl)) (by kernel_rfl) (by kernel_rfl) (by kernel_rfl)
   (by rw[MakeChecks.laidMetH_plain _ _ _ (by kernel_rfl)];exact laidMet_laidAll _ (by kernel_rfl) (by kernel_rfl))) ?_
 intro w tape i _ hsh _ hok hpre hholds
 obtain⟨_,_,_,fn',ai3,_,_,_,_,aft⟩:=hok
 have e:fn'=Tryz.f3:=Option.some.inj (ai3.symm.trans Tryz.func3)
 subst e
 obtain⟨⟨⟨ds,gs,before,hw,hc⟩,hx⟩,hz⟩:=hpre
 have hW:DataW.Whole enc Tryz.prog Tryz.f3.params.toList Rows.sampleAcceptedSpec.vars false (w.forCall tape i) i.args.toList ds gs before:=DataW.Whole.of_heap (w':=w.forCall tape i) (by rfl) hw
 have hL:laidMetH Tryz.prog vS (w.forCall tape i):=hx.of_heap (by rfl)
 have WY:=ab0 hL hsh
 have hval:∀ (j:Nat) t v,Tryz.f3.params[j]?=some t→i.args[j]?=some v→Value.okWide Tryz.prog (w.forCall tape i) .any w.heap.size t v:=aft
 generalize w.forCall tape i=W at *
 generalize i.args=args at *
 have hW':=hW
 obtain⟨p,q,hA,hV,rfl,_,_⟩:=hW
 have hlt:∀ x∈p++q,x.block<W.heap.size:=hW'.lt
 obtain⟨rfl,rfl⟩:=trodVars_none hV
 simp only[List.append_nil] at hW' hlt
 have hp:Tryz.f3.params.toList=[22,22,23]:=by rw[Tryz.params3]
 have hA':=hA
 rw[hp] at hA'
 have hlen:=ye hA'
 match ds,hlen,hA',hW' with
 |[d0,d1,d2],_,hA',hW'=>
  refine (Oi (rv:=none) (k:=40) (l:=Nc) ai1 adI adD WX ⟨ab1 WY,WY⟩ (V6 _) TI ((K3 20000000).Gm 3 _ rfl) ai2 (V7 Tryz.params3 hval) hA' hlt).mono fun e W' ⟨he,hb⟩=>?_
  subst he
  refine ChangeSpec.post_blind ⟨_,_,_,[],p,[],hW',trodAll_mk1 (shut_bool Tryz.underlying4 _),?_,rfl,hb.frame _,fun h=>by cases h⟩
  rw[hp]
  exact DH afr hb afs hA' hlt
theorem W0:joinedFacts Tryz.pinned.checked.prog 3 Tryz.f3 Rows.sampleAcceptedSpec Rows.sampleAcceptedRow=true:=by kernel_rfl
theorem inst3:Tryz.f3.isInstance Tryz.pinned.checked.prog Rows.sampleAcceptedRow.origin Rows.sampleAcceptedRow.targs:=of_decide_eq_true (by kernel_rfl)
theorem ab2:Tryz.pinned.checked.prog.funcNamed Rows.sampleAcceptedRow.func=some 3:=by kernel_rfl
theorem afv:Tryz.f3.isWrapper Tryz.pinned.checked.prog Rows.sampleAcceptedRow.wrapper Rows.sampleAcceptedRow.mainSum:=by unfold Func.isWrapper;first|(rw[if_pos (by decide +kernel)];kernel_rfl)|(rw[if_neg (by decide +kernel)];exact⟨rfl,rfl⟩)
theorem LU:Rows.SampleAcceptedSaid:=
 OpenClaim.holds_of_wide 3 Tryz.f3 rfl rfl rfl rfl rfl rfl rfl ⟨rfl,rfl,rfl,rfl,rfl⟩ rfl rfl rfl rfl rfl ab2 Tryz.func3 W0 inst3 afv
  (fun os started H enc _=>WZ os started H enc)
theorem card_holds:Rows.SampleAcceptedCardSaid:=
 Claim7.holds_tied_plain_at .later [] _ _ _ _ LU (fun _ h=>by cases h) (by kernel_rfl) (fun _ h=>by cases h) sampleAccepted_row_tie rfl ⟨rfl,rfl⟩ (by kernel_rfl) rfl
  (fun f fn hf hfn => by
   obtain rfl:f=3:=Option.some.inj ((show Tryz.prog.funcNamed "wreckage/wreckagelaw12.SampleAccepted" = some 3 by kernel_rfl).symm.trans hf) |>.symm
   obtain rfl:fn=Tryz.f3:=(Option.some.inj (Tryz.func3.symm.trans hfn)).symm
   exact⟨by kernel_rfl,fun j t ht=>by
    rw[Tryz.params3] at ht
    have hm:t∈[22,22,23]:=by simpa using Array.mem_of_getElem? ht
    have hall:([22,22,23].all fun u=>!Tryz.prog.wantsStandIn u)=true:=by kernel_rfl
    exact (show Tryz.prog.wantsStandIn t=false by simpa using List.all_eq_true.1 hall t hm)⟩)
  (by kernel_rfl)
#print axioms card_holds
end Go.Proofs.YthphehfgekjooaaGreatDoor
