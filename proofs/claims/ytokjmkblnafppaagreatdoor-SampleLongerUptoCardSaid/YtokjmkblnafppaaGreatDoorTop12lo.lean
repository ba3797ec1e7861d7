/- SampleLonger returns true, for arguments of bulk at most 1048576: the card. -/
import Derived.Test.YtokjmkblnafppaaGreatDoorLaw12lo
import Derived.Test.YtokjmkblnafppaaGreatDoorEngLbA
import Derived.Test.YtokjmkblnafppaaGreatDoorTie
import Derived.Test.YtokjmkblnafppaaGreatDoorCards
import Derived.Shelf.Vars
import Derived.Laws.Rows
import Derived.ChangeSame
import Derived.JoinedOf
import Derived.JoinedAt
import Derived.JoinedStill
import Derived.JoinedCond
import Derived.RowKit
import Derived.ProofKit
import Derived.OpenShut
import Derived.LaidMore
import Derived.LaidLaws
import Derived.Lay
import Derived.SevenTiedAt
import Derived.Stop.Joined
import Derived.HandedShaped
import Derived.Deep.DeepHandedRow
set_option linter.unusedVariables false
set_option linter.unusedSimpArgs false
namespace Go.Proofs.YtokjmkblnafppaaGreatDoor
open Go Go.bI Go.Sym Go.ChangeShapes Go.WideShapes Go.ChangeAt Go.RowKit
set_option maxRecDepth 100000
theorem UO:(Tryz.prog.info? 9).map (fun i=>(i.zero,i.size,i.bytes))=some (some (.string ByteArray.empty),1,16):=by kernel_rfl
theorem YH:Tryz.prog.globalNamed "internal/strconv.uint64pow10" = some 4:=by kernel_rfl
theorem TS:cF Tryz.prog (pL 20 IQ):=L9 Tryz.R8 ⟨_,Tryz.func20,by kernel_rfl,by kernel_rfl⟩ UO fun w hg c hc=>hg.sp c hc
theorem YI:cF Tryz.prog (pL 19 IS):=Oz Tryz.R9 ⟨_,Tryz.func19,by kernel_rfl,by kernel_rfl⟩ UO fun w hg=>hg.len
theorem acY:cF Tryz.prog (pL 18 Gw):=Sd Tryz.Sa ⟨_,Tryz.func18,by kernel_rfl,by kernel_rfl⟩ fun w hg=>by
 obtain⟨cs,t,e,h1,h2⟩:=hg.pow
 show World.var? Tryz.prog w "internal/strconv.uint64pow10" = _
 unfold World.var?
 rw[YH]
 show (match w.heap[4]? with|some (.cells cs _ _)=>some cs|_=>none)=_
 rw[h1,h2]
theorem acZ:cF Tryz.prog (pL 22 Gv):=Se (ρ:=Tryz.uS) { Tryz.Gs with } Tryz.Gs ⟨_,Tryz.func22,by kernel_rfl,by kernel_rfl⟩ fun w hg=>hg.err
theorem TT:cF Tryz.prog aP.O:=D9 YI (D9 TS (D9 acZ (D9 acY Lx)))
theorem gSp:Tryz.prog.globalNamed "strings.asciiSpace" = some 0:=by kernel_rfl
theorem ac1:Tryz.prog.globalNamed "strconv.ErrSyntax" = some 2:=by kernel_rfl
theorem tSp:(Tryz.prog.globals[0]?).map (·.type)=some 76:=by kernel_rfl
theorem agL:(Tryz.prog.globals[4]?).map (·.type)=some 188:=by kernel_rfl
theorem agM:(Tryz.prog.globals[2]?).map (·.type)=some 67:=by kernel_rfl
theorem Hv {W:World} {n:String} {g:Nat} {cs:Array Value} (hg:Tryz.prog.globalNamed n=some g) (h:W.var? Tryz.prog n=some cs):∃ t e,W.heap[g]?=some (.cells cs t e):=by
 unfold World.var? at h
 rw[hg] at h
 have h:(match W.heap[g]? with|some (.cells cs _ _)=>some cs|_=>none)=some cs:=h
 split at h
 ·rename_i cs' t e he
  injection h with h;subst h
  exact⟨t,e,he⟩
 ·cases h
noncomputable def YJ:Array (String×TypeId):=match Tryz.prog.underlying 67 with|some (.interface ms)=>ms|_=>#[]
abbrev yR:=Rows.sampleLongerUptoRow.laid
theorem YK {W:World} (h:laidMetH Tryz.prog yR W) (hS:W.ShapedOpen Tryz.prog):JI W:=by
 rw[MakeChecks.laidMetH_plain _ _ _ (by kernel_rfl)] at h
 obtain⟨ps,⟨_,_,_,_,_,_,_,_,_,_,⟨_,_,_,_,_,_,_,_,_,_,⟨g2,t2,c2,f2,p2,q2,hg2,ht2,hv2,Br,⟨_,_,_,_,_,_,_,_,_,_,⟨_,_,_,_,_,_,_,_,_,_,⟨g3,t3,c3,f3,p3,q3,hg3,ht3,hv3,hd3,⟨_,_,_,_,_,_,_,_,_,_,⟨g0,t0,c0,f0,p0,q0,hg0,ht0,hv0,YR,_,_⟩,_⟩,_⟩,_⟩,_⟩,_⟩,_⟩,_⟩,_,_⟩:=h
 obtain rfl:=Option.some.inj (YH.symm.trans hg2)
 obtain rfl:=Option.some.inj (ac1.symm.trans hg3)
 obtain rfl:=Option.some.inj (gSp.symm.trans hg0)
 obtain rfl:=Option.some.inj (agL.symm.trans ht2)
 obtain rfl:=Option.some.inj (agM.symm.trans ht3)
 obtain rfl:=Option.some.inj (tSp.symm.trans ht0)
 refine⟨fun c hc=>?_,?_,?_,Go.Proofs.cell_of_shapedOpen_int (zero:=#[.int .i64 0]) (t:=3) hS (of_decide_eq_true (by kernel_rfl)) (by kernel_rfl) rfl (by kernel_rfl) (by kernel_rfl) Tryz.underlying3⟩
 ·have e : Rows.laid_strings_asciiSpace (H := Unit) = Lib.tabData .u8 Lib.asciiSpaceTab := by kernel_rfl
  have YR:DataW.trod _ Tryz.prog W _ _ _ f0 76 c0.toList=some (Rows.laid_strings_asciiSpace,p0):=YR
  rw[e] at YR
  have hcs:=Lib.cells_of_tab (n:=256) (e:=5) (by kernel_rfl) Tryz.underlying5 (by kernel_rfl) (by kernel_rfl) YR
  have hT:Lib.TabIs Tryz.prog W "strings.asciiSpace" .u8 Lib.asciiSpaceTab:=by
   unfold Lib.TabIs
   rw[hv0,←hcs]
  rw[hT.cell gSp c (by rw[Lib.asciiSpaceTab_length];exact hc),Lib.asciiSpaceTab_at c hc]
 ·have e : Rows.laid_internal_strconv_uint64pow10 (H := Unit) = Lib.tabData .u64 Lib.pow10Tab := by kernel_rfl
  have Br:DataW.trod _ Tryz.prog W _ _ _ f2 188 c2.toList=some (Rows.laid_internal_strconv_uint64pow10,p2):=Br
  rw[e] at Br
  have hcs:=Lib.cells_of_tab (n:=20) (e:=46) (by kernel_rfl) (by kernel_rfl) (by kernel_rfl) (by kernel_rfl) Br
  obtain⟨t,e,h⟩:=Hv YH hv2
  exact⟨c2,t,e,h,by rw[←hcs]⟩
 ·have hd3 : DataW.trod _ Tryz.prog W _ _ _ f3 67 c3.toList = some (Rows.laid_strconv_ErrSyntax, p3) := hd3
  obtain⟨f',u,v,hc,_,_⟩:=iface_of_trod (name := "*errors.errorString") (ms:=YJ) (by kernel_rfl) hd3
  refine⟨u,v,?_⟩
  rw[World.var?_cell ac1 hv3 0,show c3 = #[.iface u v] from by rw[←Array.toList_inj,hc]]
  rfl
theorem own:ownKnob Tryz.prog.godebug=none:=by kernel_rfl
theorem YL {W:World} (TU:JI W):∀ b,vl b→b<W.heap.size:=fun b hb=>by
 obtain⟨m,hm⟩:=TU.len
 have:=World.block_lt_of_cell? _ _ hm
 unfold vl at hb
 exact Nat.lt_of_lt_of_le hb this
theorem ac2 {H:Type} (d:DataW H):∀ b∈d.weights Tryz.prog 3,b≤Rows.uptoBulk d:=by
 intro b hb
 cases d with
 |lit l=>cases l<;>(simp[DataW.weights,Rows.uptoBulk] at hb ⊢)<;>omega
 |nil=>simp[DataW.weights] at hb
 |ptr d=>simp[DataW.weights,Tryz.underlying3] at hb
 |slice e s=>simp[DataW.weights,Tryz.underlying3] at hb
 |agg p=>simp[DataW.weights,Tryz.underlying3] at hb
 |iface t d=>simp[DataW.weights] at hb
 |map e=>simp[DataW.weights,Tryz.underlying3] at hb
 |held h=>simp[DataW.weights] at hb
theorem one_le {H:Type} (d:DataW H):1≤Rows.uptoBulk d:=by
 cases d with
 |lit l=>cases l<;>simp[Rows.uptoBulk]
 |_=>simp[Rows.uptoBulk]
theorem Qz {H:Type} : ∀ l:List (DataW H),l.length≤Rows.uptoBulkAll l∧∀ b∈DataW.weightsAll Tryz.prog 3 l,b≤Rows.uptoBulkAll l
 |[]=>⟨by simp[Rows.uptoBulkAll],by simp[DataW.weightsAll]⟩
 |d :: r=>by
  obtain⟨h1,h2⟩:=Qz r
  have h3:=one_le d
  refine⟨by simp only[List.length_cons,Rows.uptoBulkAll];omega,fun b hb=>?_⟩
  simp only[DataW.weightsAll,List.mem_append] at hb
  simp only[Rows.uptoBulkAll]
  rcases hb with hb|hb
  ·have:=ac2 d b hb;omega
  ·have:=h2 b hb;omega
theorem QA:Tryz.prog.bytesOf 3=8:=by kernel_rfl
theorem ac3 {H:Type} (d:DataW H):∀ b∈d.weights Tryz.prog 22,b≤8*Rows.uptoBulk d:=by
 intro b hb
 cases d with
 |lit l=>cases l<;>(simp[DataW.weights,Rows.uptoBulk] at hb ⊢)<;>omega
 |nil=>simp[DataW.weights] at hb
 |ptr d=>simp[DataW.weights,Tryz.underlying22] at hb
 |slice e s=>
  obtain⟨h1,h2⟩:=Qz e
  obtain⟨h3,h4⟩:=Qz s
  simp only[DataW.weights,Tryz.underlying22,QA,List.mem_cons,List.mem_append] at hb
  simp only[Rows.uptoBulk]
  rcases hb with rfl|hb|hb
  ·omega
  ·have:=h2 b hb;omega
  ·have:=h4 b hb;omega
 |agg p=>simp[DataW.weights,Tryz.underlying22] at hb
 |iface t d=>simp[DataW.weights] at hb
 |map e=>simp[DataW.weights,Tryz.underlying22] at hb
 |held h=>simp[DataW.weights] at hb
def vj:List uP:=[(22,false,(.sl (.int .i64))),(22,false,(.sl (.int .i64)))]
theorem agO (x:(tv (iZ vj)).den) (hf:R7 Tryz.prog 8388608 vj x):x.1.length≤1048576∧x.2.length≤1048576:=by
 obtain⟨⟨y,⟨rest,e⟩,h⟩,⟨z,⟨ac4,e2⟩,h2⟩,_⟩:=hf
 have e':([⟨.sl (.int .i64),x.1⟩,⟨.sl (.int .i64),x.2⟩]:List ff)=⟨.sl (.int .i64),y⟩ :: rest:=e
 have QC:([⟨.sl (.int .i64),x.2⟩]:List ff)=⟨.sl (.int .i64),z⟩ :: ac4:=e2
 injection e' with e' _
 injection e' with _ e'
 injection QC with QC _
 injection QC with _ QC
 have h:=h 3 Tryz.underlying22
 have h2:=h2 3 Tryz.underlying22
 rw[QA] at h h2
 rw[e',QC]
 exact⟨by omega,by omega⟩
theorem ac5:laidOutB Tryz.prog=true:=by kernel_rfl
theorem agP:Tryz.prog.follows .mixedOrders=true:=by kernel_rfl
theorem QB:∀ p∈vj,Gn Tryz.prog none 40 p:=by
 intro p hp
 simp only[vj,List.mem_cons,List.not_mem_nil,or_false] at hp
 rcases hp with rfl|rfl<;>exact⟨by kernel_rfl,by kernel_rfl⟩
theorem ac6:([22,22].all fun t=>Tryz.prog.readableRec t&&decide (t<Tryz.prog.types.size))=true:=by kernel_rfl
theorem agQ:∀ x,VH (iZ vj) x→R7 Tryz.prog 8388608 vj x→F3 20000000 x=some true:=fun x _ hf=>by
 obtain⟨h1,h2⟩:=agO x hf
 exact JD (N:=20000000) (by omega) (p:=x.1) (q:=x.2) (by omega) (by omega)
theorem YM (os:Os) {H:Type} (enc:TypeId×Value→H):∃ places,DataW.whole enc Tryz.prog ((World.laidAll Tryz.prog os yR).forCall (fun _ _=>0) ⟨#[],#[.slice none 0 0,.slice none 0 0],[]⟩).memory Tryz.f3.params.toList Rows.sampleLongerSpec.vars false #[Value.slice none 0 0,Value.slice none 0 0].toList 8=some ([.nil,.nil],[],places):=
 ⟨[],by kernel_rfl⟩
theorem ac7 (os:Os):Input.okWideB Tryz.checked.prog ((World.laidAll Tryz.prog os yR).forCall (fun _ _=>0) ⟨#[],#[.slice none 0 0,.slice none 0 0],[]⟩) 3 ⟨#[],#[.slice none 0 0,.slice none 0 0],[]⟩=true:=by kernel_rfl
theorem TV (os:Os) (started:os.Started) (H:Type) (enc:TypeId×Value→H) (F:Stop.Interp) :
  ReturnsInHanded {} Tryz.checked os 3 .any ((Rows.OpenSpec.upto Rows.sampleLongerSpec).preRow enc Tryz.prog Tryz.f3 Rows.sampleLongerUptoRow.domain false Rows.sampleLongerUptoRow.laid) (((Rows.OpenSpec.upto Rows.sampleLongerSpec).at F).post enc Tryz.prog Tryz.f3 false true false false):=by
 obtain⟨places,hx⟩:=YM os enc
 refine returnsInHanded_of_row (C:=Tryz.checked) (s:=Rows.OpenSpec.upto Rows.sampleLongerSpec) own started (by kernel_rfl) Tryz.func3
  ⟨World.laidAll Tryz.prog os yR, fun _ _ => 0, ⟨#[], #[.slice none 0 0, .slice none 0 0], []⟩, World.laidAll_os _ _ _, World.shaped_of_ZipB (by kernel_rfl) (by kernel_rfl), (Input.okWide_of_okWideB (base := 0) (ac7 os)).1, (Input.okWide_of_okWideB (ac7 os)).2,
   OpenSpec.preRow_of_cond 8 hx (by kernel_rfl) (fun k hk=>by cases hk;kernel_rfl) (by kernel_rfl) (by rw[MakeChecks.laidMetH_plain _ _ _ (by kernel_rfl)];exact laidMet_laidAll _ (by kernel_rfl) (by kernel_rfl)),by
    simp only[Assume.holds]
    exact⟨by simp,by simp,fun _=>Modest.zero,by simp,by simp⟩⟩ ?_
 intro W base args ds gs before hval hW _ wL _ hL hsh _
 have TU:=YK hL hsh
 have hW':=hW
 obtain⟨p,q,hA,hV,rfl,_,_⟩:=hW
 have hlt:∀ x∈p++q,x.block<W.heap.size:=hW'.lt
 obtain⟨rfl,rfl⟩:=trodVars_none hV
 simp only[List.append_nil] at hW' hlt
 have hp:Tryz.f3.params.toList=[22,22]:=by rw[Tryz.params3]
 have Zu:=hA
 rw[hp] at Zu
 have hlen:=xD Zu
 match ds,hlen,Zu,hW',wL with
 | [d0, d1], _, Zu, hW', wL =>
  have hb:=of_decide_eq_true (wL _ rfl)
  have hb:Rows.uptoBulk d0+(Rows.uptoBulk d1+0)≤1048576:=hb
  have hwt:(DataW.weightsEach Tryz.prog (vj.map (·.1)) [d0,d1]).all (fun b=>decide (b≤8388608))=true:=by
   rw[List.all_eq_true]
   intro b hbm
   have hbm:b∈d0.weights Tryz.prog 22++(d1.weights Tryz.prog 22++[]):=by simpa[DataW.weightsEach,vj] using hbm
   refine decide_eq_true ?_
   rcases List.mem_append.1 hbm with h|h
   ·have:=ac3 d0 b h;omega
   ·have:=ac3 d1 b (by simpa using h);omega
  refine (xY (rv:=none) (k:=40) (l:=vj) agP abe abd TT ⟨YL TU,TU⟩ (Sg _) QB (IW 20000000) agQ (Sh Tryz.params3 hval) Zu hlt hwt).mono fun e W' ⟨he,hb⟩=>?_
  subst he
  refine⟨_,rfl,⟨_,_,_,[],p,[],hW',trodAll_mk1 (shut_bool Tryz.underlying4 _),?_,rfl,hb.frame _,fun h=>by cases h⟩⟩
  rw[hp]
  exact CO ac5 hb ac6 Zu hlt
theorem TX:joinedFacts Tryz.pinned.checked.prog 3 Tryz.f3 (Rows.OpenSpec.upto Rows.sampleLongerSpec).bare Rows.sampleLongerUptoRow=true:=by kernel_rfl
theorem inst3:Tryz.f3.isInstance Tryz.pinned.checked.prog Rows.sampleLongerUptoRow.origin Rows.sampleLongerUptoRow.targs:=of_decide_eq_true (by kernel_rfl)
theorem YN:Tryz.pinned.checked.prog.funcNamed Rows.sampleLongerUptoRow.func=some 3:=by kernel_rfl
theorem ac9:Tryz.f3.isWrapper Tryz.pinned.checked.prog Rows.sampleLongerUptoRow.wrapper Rows.sampleLongerUptoRow.mainSum:=by unfold Func.isWrapper;first|(rw[if_pos (by decide +kernel)];kernel_rfl)|(rw[if_neg (by decide +kernel)];exact⟨rfl,rfl⟩)
theorem JE:Rows.SampleLongerUptoSaid:=
 OpenClaim.holds_of_cond 3 Tryz.f3 rfl rfl rfl rfl rfl rfl rfl ⟨rfl,rfl,rfl,rfl,rfl⟩ rfl rfl rfl rfl rfl YN Tryz.func3 TX inst3 ac9
  (fun os started H enc _ F=>by rw[OpenClaim.pre_eq_preRow];exact TV os started H enc F)
theorem card_holds:Rows.SampleLongerUptoCardSaid:=
 Claim7.holds_tied_plain_at .later [] _ _ _ _ JE (fun _ h=>by cases h) (by kernel_rfl) (fun _ h=>by cases h) sampleLongerUpto_row_tie rfl ⟨rfl,rfl⟩ (by kernel_rfl) rfl
  (fun f fn hf hfn => by
   obtain rfl:f=3:=Option.some.inj ((show Tryz.prog.funcNamed "wreckage/wreckagelaw12.SampleLonger" = some 3 by kernel_rfl).symm.trans hf) |>.symm
   obtain rfl:fn=Tryz.f3:=(Option.some.inj (Tryz.func3.symm.trans hfn)).symm
   exact⟨by kernel_rfl,fun j t ht=>by
    rw[Tryz.params3] at ht
    have hm:t∈[22,22]:=by simpa using Array.mem_of_getElem? ht
    have hall:([22,22].all fun u=>!Tryz.prog.wantsStandIn u)=true:=by kernel_rfl
    exact (show Tryz.prog.wantsStandIn t=false by simpa using List.all_eq_true.1 hall t hm)⟩)
  (by kernel_rfl)
#print axioms card_holds
end Go.Proofs.YtokjmkblnafppaaGreatDoor
