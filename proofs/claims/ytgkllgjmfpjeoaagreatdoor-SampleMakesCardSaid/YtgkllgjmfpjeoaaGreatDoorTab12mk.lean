/- A part of the proof: SymN, SymO, EngSort, EngCompact, SymP, Tab12mk. -/
import Derived.Test.YtgkllgjmfpjeoaaGreatDoorSymM
import Derived.Laws.Rows
import Derived.ChangeSame
import Derived.JoinedOf
import Derived.JoinedAt
import Derived.JoinedStill
import Derived.RowKit
import Derived.ProofKit
import GoSem.Claim
import GoSem.ClaimJoined
import GoSem.ClaimMapViews
import Derived.JoinedTies
import Derived.KernelRfl
import Derived.Test.YtgkllgjmfpjeoaaGreatDoorEngP
import Derived.Shelf.Sort.Plain
import Derived.Shelf.Slices.In.SortNone
import Derived.Shelf.Slices.CompactI
import Derived.Test.YtgkllgjmfpjeoaaGreatDoorSymK
import Derived.Test.YtgkllgjmfpjeoaaGreatDoorSymB
import Derived.Test.YtgkllgjmfpjeoaaGreatDoorRows
import Derived.Test.YtgkllgjmfpjeoaaGreatDoorLay12mk
import Derived.Test.YtgkllgjmfpjeoaaGreatDoorSymLb
set_option linter.unusedVariables false
set_option linter.unusedSimpArgs false
namespace Go.Sym
open Go Go.bJ
def Eg:Nat:=400
def ak.base(cl:Nat->Option tF)(HH QW:Nat->Nat->Option bp)(Ko:Nat->Nat->Option (Nat×Ty))(unr:Nat->Nat->Bool)(Mw:Nat->Nat->Option Ty):ak:={fns:=cl,AT:=λ_=>none,loops:=λ_ _ _=>none,HH,QW,Ko,unr,Mw}
def ak.iO(E:ak)(f:Nat)(c:Callee):ak:={E with AT:=λg=>match Nat.beq g f with|true=>some c|false=>E.AT g}
def ak.aa(E:ak)(N ctx i:Nat)(T:bq)(outs:bp):ak:={E with loops:=λctx' i' c=>match Nat.beq ctx' ctx&&Nat.beq i' i with|true=>some ⟨T,outs,Mx (AZ E Eg ctx i c T outs) N⟩|false=>E.loops ctx' i' c}
theorem Wm(cl:Tb)(HH QW:Nat->Nat->Option bp)(Ko:Nat->Nat->Option (Nat×Ty))(unr:Nat->Nat->Bool)(Mw:Nat->Nat->Option Ty):aD cl (ak.base cl HH QW Ko unr Mw):=⟨rfl,λ_ _ h=>(by cases h),λ_ _ _ _ h=>(by cases h)⟩
theorem aD.iO{cl:Tb}{E:ak}(h:aD cl E){f:Nat}{c:Callee}(hc:kj cl f c):aD cl (E.iO f c):=by
 refine⟨h.fns,λg d hd=>?_,h.loops⟩;simp only[ak.iO]at hd;split at hd;.rename_i he;rw[Nat.eq_of_beq_eq_true he];injection hd with hd;subst hd;exact hc
 .exact h.AT g d hd
theorem aD.aa{cl:Tb}{E:ak}(h:aD cl E)(N ctx i:Nat)(T:bq)(outs:bp):aD cl (E.aa N ctx i T outs):=by
 refine⟨h.fns,h.AT,λctx' i' c L hL=>?_⟩;simp only[ak.aa]at hL;split at hL;.injection hL with hL;subst hL;exact MM h Eg ctx i c T outs N
 .exact h.loops ctx' i' c L hL
theorem kj.plain{Fs:Tb}{f:Nat}{args:List tP}{ta tr:List Ty}{res:List (Bool×List gG)}{rk:Nat}{F G:(qQ ta).den->Option (qQ tr).den}(h:kj Fs f ⟨args,ta,res,tr,rk,F⟩)(e:G=F):kj Fs f ⟨args,ta,res,tr,rk,G⟩:=by subst e;exact h
def A0:List (Nat×tF)->Nat->Option tF|[],_=>none|(g,fn)::r,f=>match Nat.beq g f with|true=>some fn|false=>A0 r f
inductive vE(P:Program)(eB:Nat->Option TypeId)(md:Nat->bJ.Mode):List (Nat×tF)->Prop where|nil:vE P eB md []|cons{g:Nat}{fn:tF}{r:List (Nat×tF)}:CJ P eB md g=some fn->vE P eB md r->vE P eB md ((g,fn)::r)
theorem Q4{P:Program}{eB:Nat->Option TypeId}{md:Nat->bJ.Mode}{l:List (Nat×tF)}(h:vE P eB md l):∀f fn,A0 l f=some fn->CJ P eB md f=some fn:=by induction h with|nil=>intro f fn h;cases h|@cons g fn' r h1 _ ih=>
 intro f fn h;simp only[A0]at h;split at h;.rename_i hb;have e:=Nat.eq_of_beq_eq_true hb;subst e;injection h with h;subst h;exact h1
 .exact ih f fn h
def fixF{α β:Type}(step:Nat->(α->Option β)->α->Option β):Nat->α->Option β|0,_=>none|n+1,x=>step n (fixF step n) x
def ux(t:Nat):AC->Nat->Option AC
 |.seq a b,i=>match Nat.blt t (i+uo a)with|true=>ux t a i|false=>ux t b (i+uo a)
 |.cond _ a b,i=>match Nat.blt t (i+1+uo a)with|true=>ux t a (i+1)|false=>ux t b (i+1+uo a)
 |.block _ c,i=>ux t c (i+1)|.loop c,i=>match Nat.beq t i with|true=>some c|false=>ux t c (i+1)
 |_,_=>none
def aaw(fn:tF)(t:Nat):AC:=(ux t fn.body 0).getD .skip
def gG.tys:gG->List Ty|.int k=>[.int k]|.bool=>[.bool]|.er=>[.bool]|.str=>[.str]|.sl t _=>[.sl t]|.fK t _=>[t]|_=>[]
def gG.QF:gG->gG|.sl t _=>.sl t .bC|c=>c
def dQ(T:Ty):List gG:=(aZ T).map gG.QF
def tP.tys:tP->List Ty|.c x=>x.tys|.agg l=>l.flatMap gG.tys|.box l=>l.flatMap gG.tys|.gp _=>[]
def tc.tys:tc->List Ty|.c x=>x.tys|.agg l=>l.flatMap gG.tys|.gp _ l=>l.flatMap gG.tys
def Mv.tys:Mv->List Ty|.row _ t=>[.sl t]|.box _ l=>l.flatMap gG.tys|.set _=>[.sl .str]
def ad5(l:List (Nat×tc)):List Ty:=l.flatMap λx=>x.2.tys
def tm(slots:List (Nat×tc))(outer:List (List (Nat×tc)))(mem:List (Nat×Nat×Mv))(lvs:Nat)(aI:List Nat)(nv:Nat):bq:=⟨slots,outer,mem,lvs,aI,nv,ad5 slots++(outer.flatMap ad5++mem.flatMap λx=>x.2.2.tys)⟩
structure cH where
 a:List tP
 r:List (Bool×List gG)k:Nat
 b:List (Nat×Nat×Nat×Ty)u:List (Nat×Nat)e:List (Nat×Nat×Ty)c:List (Nat×Nat×bp)
abbrev sg(a:List tP)(r:List (Bool×List gG)):cH:=⟨a,r,0,[],[],[],[]⟩
def cH.ta(s:cH):List Ty:=s.a.flatMap tP.tys
def cH.tr(s:cH):List Ty:=s.r.flatMap λx=>x.2.flatMap gG.tys
def cH.AT(s:cH)(F:(qQ s.ta).den->Option (qQ s.tr).den):Callee:=⟨s.a,s.ta,s.r,s.tr,s.k,F⟩
def lk{β:Type}:List (Nat×Nat×β)->Nat->Nat->Option β|[],_,_=>none|(a,b,x)::r,c,i=>match Nat.beq a c&&Nat.beq b i with|true=>some x|false=>lk r c i
def lkU:List (Nat×Nat)->Nat->Nat->Bool|[],_,_=>false|(a,b)::r,c,i=>Nat.beq a c&&Nat.beq b i||lkU r c i
def ak.on(E:ak)(s:cH):ak:={E with HH:=lk s.c,Ko:=lk s.b,unr:=lkU s.u,Mw:=lk s.e}
def ak.fn(E:ak)(f:Nat)(s:cH):(qQ s.ta).den->Option (qQ s.tr).den:=XO E Eg f s.a s.ta s.r s.tr s.k
def ak.put(E:ak)(f:Nat)(s:cH)(F:(qQ s.ta).den->Option (qQ s.tr).den):ak:=E.iO f (s.AT F)
theorem aD.on{cl:Tb}{E:ak}(h:aD cl E)(s:cH):aD cl (E.on s):=⟨h.fns,h.AT,h.loops⟩
theorem aD.put{cl:Tb}{E E':ak}(h:aD cl E)(h':aD cl E')(f:Nat)(s:cH)(F:(qQ s.ta).den->Option (qQ s.tr).den)(e:F=E'.fn f s):aD cl (E.put f s F):=h.iO ((XS h' Eg f s.a s.ta s.r s.tr s.k).plain e)
def lp(E:ak)(c i:Nat)(fn:tF)(t:Nat)(T:bq)(O:bp):Nat->(qQ T.tys).den->Option (oa O).den:=Mx (AZ E Eg c i (aaw fn t) T O)
def Wn:List Nat->Nat->Bool|[],_=>false|a::r,f=>Nat.beq a f||Wn r f
def aax(l:List Nat)(tq:Nat->tF)(f:Nat):Option tF:=match Wn l f with|true=>some (tq f)|false=>none
theorem Wo{P:Program}{eB:Nat->Option TypeId}{md:Nat->bJ.Mode}{tq:Nat->tF}{l:List Nat}(hq:∀f,tq f=(CJ P eB md f).getD default)(h:l.all (λf=>(CJ P eB md f).isSome)=true):∀f fn,aax l tq f=some fn->CJ P eB md f=some fn:=by
 have key:∀l:List Nat,l.all (λf=>(CJ P eB md f).isSome)=true->∀f,Wn l f=true->(CJ P eB md f).isSome=true:=by intro l h f hm;induction l with|nil=>cases hm|cons a r ih=>
  simp only[List.all_cons,Bool.and_eq_true]at h;simp only[Wn,Bool.or_eq_true]at hm;rcases hm with hm|hm;.rw[<-Nat.eq_of_beq_eq_true hm];exact h.1
  .exact ih h.2 hm
 intro f fn hf;unfold aax at hf;split at hf;.rename_i hm;have:=key l h f hm;injection hf with hf;subst hf;rw[hq];cases he:CJ P eB md f with|none=>rw[he]at this;cases this|some x=>rfl
 .cases hf
abbrev RS(a:Int):Int:=IntKind.u8.wrap a
abbrev ap3(a:Int):Int:=IntKind.u16.wrap a
abbrev ap4(a:Int):Int:=IntKind.u32.wrap a
abbrev cv(a:Int):Int:=IntKind.u64.wrap a
abbrev wi8(a:Int):Int:=IntKind.i8.wrap a
abbrev ap5(a:Int):Int:=IntKind.i16.wrap a
abbrev ap6(a:Int):Int:=IntKind.i32.wrap a
abbrev av(a:Int):Int:=IntKind.i64.wrap a
def zC(k:IntKind)(a b:Int):Int:=k.wrap (BitVec.ofInt k.bits a&&&BitVec.ofInt k.bits b).toNat
def Eh(k:IntKind)(a b:Int):Int:=k.wrap (BitVec.ofInt k.bits a|||BitVec.ofInt k.bits b).toNat
def Wp(k:IntKind)(a b:Int):Int:=k.wrap (BitVec.ofInt k.bits a^^^BitVec.ofInt k.bits b).toNat
def oo(k:IntKind)(a b:Int):Int:=k.wrap (BitVec.ofInt k.bits a&&&~~~(BitVec.ofInt k.bits b)).toNat
end Go.Sym
namespace Go.Sym
open Go Go.bJ
theorem RT{d:fG}{r:List fG}:XU (d::r)↔d.t.ok d.v/\XU r:=by simp[XU]
theorem yQ{H:Type}{enc:TypeId×Value->H}{P:Program}{w:World}{base:Nat}{sp:Nat->Bool}{held:Bool}:∀{ts:List TypeId}{vs:List Value}{ds:List (DataW H)}{ps:List MemPlace},DataW.TrodAll enc P w base sp held ts vs ds ps->ds.length=ts.length|[],[],[],_,_=>rfl|_::_,_::_,_::_,_,h=>by obtain⟨p,q,_,h2,_⟩:=h;simp[yQ h2]|[],_::_,_,_,h=>h.elim|[],[],_::_,_,h=>h.elim|_::_,[],_,_,h=>h.elim|_::_,_::_,[],_,h=>h.elim
theorem Wq(P:Program):OC P none:=λ_ h=>by cases h
theorem Wr{P:Program}{W:World}{b:Nat}{args:Array Value}{params:Array TypeId}{l:List yP}(hp:params=(l.map (·.1)).toArray)(h:∀(j:Nat)t v,params[j]?=some t->args[j]?=some v->Value.okWide P W .any b t v):∀(j:Nat)(p:yP)v,l[j]?=some p->args[j]?=some v->Value.okWide P W .any b p.1 v:=λj p v hj hv=>h j p.1 v (by grind) hv
end Go.Sym
namespace Go.bJ
open Go Go.RowKit Go.Sort
theorem xx(x:Int):∀l,(z8 x l).Perm (x::l)
 |[]=>List.Perm.refl _|y::r=>by
  unfold z8;split;.exact List.Perm.refl _
  .exact((xx x r).cons y).trans (List.Perm.swap x y r)
theorem Bq:∀l,(jm l).Perm l|[]=>List.Perm.refl _|x::r=>by rw[jm];exact(xx x _).trans ((Bq r).cons x)
theorem yR(x:Int):∀l:List Int,l.Pairwise (·<=·)->(z8 x l).Pairwise (·<=·)
 |[],_=>by simp[z8]|y::r,h=>by
  rw[List.pairwise_cons]at h;unfold z8;split
  .rename_i hc;have hc:=of_decide_eq_true hc;rw[List.pairwise_cons];refine⟨λz hz=>?_,List.pairwise_cons.2 h⟩;rcases List.mem_cons.1 hz with rfl|hz;.exact hc
   .exact Int.le_trans hc (h.1 z hz)
  .rename_i hc;have hc:=of_decide_eq_false hc;rw[List.pairwise_cons];refine⟨λz hz=>?_,yR x r h.2⟩;rcases List.mem_cons.1 ((xx x r).mem_iff.1 hz)with rfl|hz;.omega
   .exact h.1 z hz
theorem vT:∀l:List Int,(jm l).Pairwise (·<=·)|[]=>List.Pairwise.nil|x::r=>yR x _ (vT r)
theorem F2(l:List Int):(l.mergeSort λx y=>decide (x<=y))=jm l:=by refine List.Perm.eq_of_pairwise (le:=λa b=>a<=b) (λa b _ _ h1 h2=>Int.le_antisymm h1 h2) ?_ (vT l) ((List.mergeSort_perm _ _).trans (Bq l).symm);have:=List.pairwise_mergeSort (le:=λx y:Int=>decide (x<=y)) (λa b c h1 h2=>by simp only[decide_eq_true_eq]at*;omega) (λa b=>by simp only[Bool.or_eq_true,decide_eq_true_eq];omega) l;exact this.imp λh=>of_decide_eq_true h
theorem II{w:World}{b off n:Nat}{zs:List Int}{os:Array Obj}(hz:∀C e,w.heap[b]?=some (.cells C e (0,0))->off+zs.length<=C.size)(hb:b<w.heap.size):Mi w (grow (putRow (Value.int .i64) (Go.Sort.ahead w n) b off zs.toArray) os) b off zs:=by
 refine⟨rfl,rfl,rfl,?_,λk hk hne=>?_,λC e hC=>?_⟩;.simp[grow,putRow,mapBlock,Go.Sort.ahead]
 .simp only[grow,putRow,mapBlock,Go.Sort.ahead];rw[Array.getElem?_append_left (by simpa using hk),Array.getElem?_modify,if_neg (Ne.symm hne)]
 .refine⟨putCells (Value.int .i64) off zs.toArray C,?_,by simp[putCells],λj z hj=>?_⟩;.simp only[grow,putRow,mapBlock,Go.Sort.ahead];rw[Array.getElem?_append_left (by simpa using hb),Array.getElem?_modify,if_pos rfl,hC];rfl
  .have hlt:=(List.getElem?_eq_some_iff.1 hj).1;have hs:=hz C e hC;have hlt2:off+j<C.size:=by omega
   simp only[putCells];rw[Array.getElem?_mapIdx,Array.getElem?_eq_getElem hlt2];simp only[Option.map_some];rw[if_pos ⟨by omega,by simpa using hlt⟩];rw[show off+j-off=j by omega];have:zs.toArray[j]! =z:=by rw[getElem!_pos zs.toArray j (by simpa using hlt)];have:=(List.getElem?_eq_some_iff.1 hj).2;simpa using this
   rw[this]
theorem OI{P:Program}{ρ:Go.Shelf.Ren}(L:Go.Proofs.Lays.n189 P ρ)(hf:∃fn,P.funcs[ρ.f 189]?=some fn/\fn.body.isSome=true/\(fn.name== "runtime.NumGoroutine")=false):J1 P (ρ.f 189):=by
 refine⟨hf,λp cap w=>Go.Proofs.Any.slices_Sort_int_none L p cap w,λb off cap zs w C e hC hz h0 hlt=>?_⟩;have hb:b<w.heap.size:=(Array.getElem?_eq_some_iff.1 hC).1;have hH:Go.Sort.Holds (Value.int .i64) w b off zs.toArray:=by
  intro j hj;have hj:j<zs.length:=by simpa using hj
  have h1:=hz j zs[j] (List.getElem?_eq_getElem hj);refine⟨?_,?_⟩;.rw[getElem!_pos zs.toArray j (by simpa using hj)];simp[World.cell?,hC,h1]
  .simp[World.frozen?,hC]
 refine Calls.mono (Go.Proofs.Any.slices_Sort_int L b off cap zs w hH hb hlt) ?_;rintro en w'⟨rfl,n,os,rfl⟩;refine⟨rfl,?_⟩;rw[F2];refine II (λC' e' OJ=>?_) hb;rw[hC]at OJ;injection OJ with OJ;injection OJ with OJ _ _;subst OJ;rw[mT];have:=hz (zs.length-1) zs[zs.length-1] (List.getElem?_eq_getElem (by omega));have:=(Array.getElem?_eq_some_iff.1 this).1;omega
end Go.bJ
namespace Go.bJ
open Go Go.RowKit Go.Sort
def jV(x:Int):List Int->List Int|[]=>[]|y::r=>if y≠x then y::jV y r else jV y r
theorem uy(x:Int):∀r,jo (x::r)=x::jV x r
 |[]=>rfl|y::r=>by
  rw[jo];by_cases h:x=y;.subst h;rw[decide_eq_true rfl,uy x r,jV,if_neg (by simp)]
  .rw[decide_eq_false h,uy y r,jV,if_pos (Ne.symm h)]
theorem Br:∀(r:List Int)(x:Int),((List.range r.length).filter λj=>Lib.keeps (x::r).toArray (j+1)).map (λj=>(x::r).toArray[j+1]!)=jV x r
 |[],_=>rfl|y::r,x=>by
  have ih:=Br r y;have h0:Lib.keeps (x::y::r).toArray (0+1)=decide (y≠x):=by simp[Lib.keeps]
  have hs:∀j,Lib.keeps (x::y::r).toArray (j+1+1)=Lib.keeps (y::r).toArray (j+1):=by intro j;simp[Lib.keeps]
  have hg:∀j,(x::y::r).toArray[j+1+1]! =(y::r).toArray[j+1]!:=by intro j;simp
  have MN:(((List.range r.length).map Nat.succ).filter λj=>Lib.keeps (x::y::r).toArray (j+1)).map (λj=>(x::y::r).toArray[j+1]!)=jV y r:=by rw[List.filter_map,List.map_map,<-ih];have e1:((λj=>Lib.keeps (x::y::r).toArray (j+1))∘Nat.succ)=λj=>Lib.keeps (y::r).toArray (j+1):=funext λj=>hs j;have e2:((λj=>(x::y::r).toArray[j+1]!)∘Nat.succ)=λj=>(y::r).toArray[j+1]!:=funext λj=>hg j;rw[e1,e2]
  rw[List.length_cons,List.range_succ_eq_map,List.filter_cons];rw[h0,jV];by_cases h:y≠x;.rw[if_pos h,if_pos (decide_eq_true h),List.map_cons,MN];simp
  .rw[if_neg h,if_neg (by simpa using h),MN]
theorem KS:∀zs:List Int,Lib.compact zs=jo zs|[]=>rfl|x::r=>by rw[uy,<-Br r x];unfold Lib.compact Lib.compactUpTo;rw[List.length_cons,List.range_succ_eq_map,List.filter_cons];rw[if_pos (by simp[Lib.keeps])];rw[List.map_cons,List.filter_map,List.map_map];rfl
theorem Ga{P:Program}{ρ:Go.Shelf.Ren}(L:Go.Proofs.Lays2.n20 P ρ)(hf:∃fn,P.funcs[ρ.f 20]?=some fn/\fn.body.isSome=true/\(fn.name== "runtime.NumGoroutine")=false):wS P (ρ.f 20):=by
 refine⟨hf,λp cap w=>Go.Proofs.Any.slices_Compact_int_empty L p cap w,λb off cap zs w C e hC hz h0 hlt hcap=>?_⟩;have hb:b<w.heap.size:=(Array.getElem?_eq_some_iff.1 hC).1;have hH:Go.Sort.Holds (Value.int .i64) w b off zs.toArray:=by
  intro j hj;have hj:j<zs.length:=by simpa using hj
  have h1:=hz j zs[j] (List.getElem?_eq_getElem hj);refine⟨?_,?_⟩;.rw[getElem!_pos zs.toArray j (by simpa using hj)];simp[World.cell?,hC,h1]
  .simp[World.frozen?,hC]
 refine Calls.mono (Go.Proofs.Any.slices_Compact_int L b off cap zs w hH (by omega) hcap) ?_;rintro en w'⟨rfl,q,rfl⟩;rw[KS];refine⟨rfl,?_⟩;have hle:=mU zs;have:=II (w:=w) (b:=b) (off:=off) (n:=q) (zs:=jo zs++List.replicate (zs.length-(jo zs).length) 0) (os:=#[]) (λC' e' OJ=>by rw[hC]at OJ;injection OJ with OJ;injection OJ with OJ _ _;subst OJ;have h2:=hz (zs.length-1) zs[zs.length-1] (List.getElem?_eq_getElem (by omega));have h2:=(Array.getElem?_eq_some_iff.1 h2).1;simp only[List.length_append,List.length_replicate];omega) hb;rw[grow_empty]at this;refine⟨this.os,this.tape,this.output,this.size,this.other,λC e hC=>?_⟩;obtain⟨C',h1,h2,h3⟩:=this.row C e hC;refine⟨C',h1,h2,λj z hj=>h3 j z ?_⟩;rw[List.getElem?_append_left (List.getElem?_eq_some_iff.1 hj).1];exact hj
end Go.bJ
namespace Go.Sym
open Go Go.bJ
def ajf:Callee:=⟨[],[],[(false,[.bool])],[.bool],0,λ_=>some true⟩
end Go.Sym
namespace Go.Proofs.YtgkllgjmfpjeoaaGreatDoor
open Go Go.bJ Go.Sym
def md:Nat->bJ.Mode:=λf=>match f with|10=>⟨[(4,262148),(5,262148),(68,1)],false⟩|23=>⟨[],true⟩|168=>⟨[],true⟩|109=>⟨[],true⟩|199=>⟨[(27,2),(44,2),(65,2),(104,2)],false⟩|200=>⟨[(3,6),(17,1)],false⟩|220=>⟨[(13,1)],false⟩|213=>⟨[(9,1)],false⟩|215=>⟨[],true⟩|221=>⟨[],true⟩|214=>⟨[],true⟩|173=>⟨[],true⟩|205=>⟨[(6,13435273221)],true⟩|163=>⟨[(2,65540)],false⟩|98=>⟨[],true⟩|99=>⟨[],true⟩|162=>⟨[],true⟩|97=>⟨[],true⟩|166=>⟨[(20,65537)],false⟩|100=>⟨[],true⟩|103=>⟨[],true⟩|167=>⟨[(28,1)],false⟩|102=>⟨[(24,3),(40,1),(10,1)],true⟩|65=>⟨[(13,1)],false⟩|70=>⟨[(2,65540),(38,1)],false⟩|66=>⟨[(13,65537)],false⟩|110=>⟨[(6,2)],true⟩|108=>⟨[],true⟩|112=>⟨[(6,2)],true⟩|113=>⟨[(11,2)],false⟩|170=>⟨[(6,2)],true⟩|67=>⟨[(37,2),(86,2),(119,2),(126,2),(133,2),(139,2),(152,2),(165,2),(182,2),(218,2)],false⟩|116=>⟨[(19,131071)],false⟩|68=>⟨[(45,3),(105,1),(28,1),(25,1),(91,1),(31,1)],false⟩|121=>⟨[],true⟩|69=>⟨[(74,1),(39,1)],false⟩|12=>⟨[(11,1)],false⟩|4=>⟨[(44,9),(46,9),(48,9),(50,9),(52,9),(54,9),(56,9),(58,9),(11,262145)],false⟩|49=>⟨[(50,1)],true⟩|132=>⟨[(2,65540),(19,1),(3,65540),(12,1)],false⟩|129=>⟨[(2,65540),(5,65537)],false⟩|131=>⟨[(6,65537)],false⟩|130=>⟨[(7,65537)],false⟩|135=>⟨[(9,65537)],false⟩|74=>⟨[(13,65537)],false⟩|76=>⟨[(10,1)],false⟩|78=>⟨[(27,1),(24,1)],false⟩|79=>⟨[(20,1)],false⟩|52=>⟨[(11,458755)],false⟩|146=>⟨[(19,10)],false⟩|31=>⟨[(34,10),(9,458755),(9,458755)],false⟩|_=>⟨[],false⟩
def eB:Nat->Option TypeId:=λf=>match f with|46=>some 48|47=>some 44|206=>some 1000000|207=>some 1000001|_=>none
def ad6:List Nat:=[38,39,21,10,23,11,13,211,168,109,219,212,202,199,200,159,220,213,201,160,215,221,214,203,173,174,175,176,177,123,124,122,125,216,204,161,96,205,163,98,99,162,97,164,165,166,100,64,43,44,101,103,167,102,65,70,104,105,106,66,107,208,169,111,110,108,112,113,114,170,115,67,171,172,119,116,117,118,68,120,121,69,71,45,25,12,4,26,27,28,48,29,30,72,49,210,181,182,178,209,179,126,194,180,127,143,144,185,136,183,128,73,132,129,131,130,133,184,134,135,74,50,75,137,76,80,186,138,187,188,189,190,191,192,139,77,193,18,145,81,140,78,141,142,79,51,52,32,33,34,17,146,82,53,31,14,5,6,15,7,16,8,9,3]
@[irreducible]noncomputable def tq(f:Nat):tF:=(CJ Tryz.prog eB md f).getD default
def Gb:Go.bJ.Call:=lR (qW 19 KN) (lR (qW 20 KM) (lR (qW 22 OG) (lR (qW 24 OH) (Q6))))
noncomputable def cl:Tb:=⟨aax ad6 tq,Gb⟩
theorem ad7(f:Nat):tq f=(CJ Tryz.prog eB md f).getD default:=by kernel_rfl
set_option maxRecDepth 100000in theorem Ws:ad6.all (λf=>(CJ Tryz.prog eB md f).isSome)=true:=by kernel_rfl
theorem ad8:∀f fn,cl f=some fn->CJ Tryz.prog eB md f=some fn:=Wo ad7 Ws
theorem ad9(xs:List AV)(v:AV)(h:KN xs=some v):cl.O 19 xs [.lf] .lf 0=some (v,[.lf],.lf,0):=by show Gb 19 xs [.lf] .lf 0=_;simp[Gb,lR,qW,Ee,h]
theorem aea(xs:List AV)(v:AV)(h:KM xs=some v):cl.O 20 xs [.lf] .lf 0=some (v,[.lf],.lf,0):=by show Gb 20 xs [.lf] .lf 0=_;simp[Gb,lR,qW,Ee,h]
theorem aeb(xs:List AV)(v:AV)(h:OG xs=some v):cl.O 22 xs [.lf] .lf 0=some (v,[.lf],.lf,0):=by show Gb 22 xs [.lf] .lf 0=_;simp[Gb,lR,qW,Ee,h]
theorem aec(xs:List AV)(v:AV)(h:OH xs=some v):cl.O 24 xs [.lf] .lf 0=some (v,[.lf],.lf,0):=by show Gb 24 xs [.lf] .lf 0=_;simp[Gb,lR,qW,Ee,h]
theorem Wt:kP Tryz.prog 46 48:=⟨λ_ _=>⟨_,Tryz.func46,by kernel_rfl,by kernel_rfl,by kernel_rfl,by kernel_rfl⟩,λh=>absurd h (by decide),λh=>absurd h (by decide)⟩
theorem Wu:kP Tryz.prog 47 44:=⟨λ_ _=>⟨_,Tryz.func47,by kernel_rfl,by kernel_rfl,by kernel_rfl,by kernel_rfl⟩,λh=>absurd h (by decide),λh=>absurd h (by decide)⟩
theorem RU:kP Tryz.prog 206 1000000:=⟨λh=>absurd rfl h,λ_=>OI Tryz.Wh ⟨_,Tryz.func206,by kernel_rfl,by kernel_rfl⟩,λh=>absurd h (by decide)⟩
theorem RW:kP Tryz.prog 207 1000001:=⟨λ_ h=>absurd rfl h,λh=>absurd h (by decide),λ_=>Ga Tryz.aat ⟨_,Tryz.func207,by kernel_rfl,by kernel_rfl⟩⟩
theorem aed:∀f T,eB f=some T->kP Tryz.prog f T:=by
 intro f T h;unfold eB at h;split at h;.injection h with h;subst h;exact Wt
 .injection h with h;subst h;exact Wu
 .injection h with h;subst h;exact RU
 .injection h with h;subst h;exact RW
 .cases h
end Go.Proofs.YtgkllgjmfpjeoaaGreatDoor
