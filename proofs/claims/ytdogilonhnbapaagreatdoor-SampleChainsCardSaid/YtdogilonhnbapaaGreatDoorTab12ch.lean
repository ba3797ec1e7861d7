/- A part of the proof: SymN, SymO, EngSort, EngCompact, SymP, Tab12ch. -/
import Derived.Test.YtdogilonhnbapaaGreatDoorSymM
import Derived.Laws.Rows
import Derived.ChangeSame
import Derived.JoinedOf
import Derived.JoinedAt
import Derived.JoinedStill
import Derived.RowKit
import Derived.ProofKit
import GoSem.Claim
import GoSem.ClaimJoined
import GoSem.ClaimMapViews
import Derived.JoinedTies
import Derived.KernelRfl
import Derived.Test.YtdogilonhnbapaaGreatDoorEngQ
import Derived.Shelf.Sort.Plain
import Derived.Shelf.Slices.In.SortNone
import Derived.Shelf.Slices.CompactI
import Derived.Test.YtdogilonhnbapaaGreatDoorSymK
import Derived.Test.YtdogilonhnbapaaGreatDoorSymB
import Derived.Test.YtdogilonhnbapaaGreatDoorRows
import Derived.Test.YtdogilonhnbapaaGreatDoorLay12ch
import Derived.Test.YtdogilonhnbapaaGreatDoorSymLb
set_option linter.unusedVariables false
set_option linter.unusedSimpArgs false
namespace Go.Sym
open Go Go.bI
def ET:Nat:=400
def aq.base(cw:Nat->Option tV)(IF Sb:Nat->Nat->Option bt)(Ln:Nat->Nat->Option (Nat×Ty))(unr:Nat->Nat->Bool)(NH:Nat->Nat->Option Ty):aq:={fns:=cw,Aj:=λ_=>none,loops:=λ_ _ _=>none,IF,Sb,Ln,unr,NH}
def aq.iR(E:aq)(f:Nat)(c:Callee):aq:={E with Aj:=λg=>match Nat.beq g f with|true=>some c|false=>E.Aj g}
def aq.aa(E:aq)(N ctx i:Nat)(T:bw)(outs:bt):aq:={E with loops:=λctx' i' c=>match Nat.beq ctx' ctx&&Nat.beq i' i with|true=>some ⟨T,outs,NI (By E ET ctx i c T outs) N⟩|false=>E.loops ctx' i' c}
theorem Xf(cw:Tb)(IF Sb:Nat->Nat->Option bt)(Ln:Nat->Nat->Option (Nat×Ty))(unr:Nat->Nat->Bool)(NH:Nat->Nat->Option Ty):aF cw (aq.base cw IF Sb Ln unr NH):=⟨rfl,λ_ _ h=>(by cases h),λ_ _ _ _ h=>(by cases h)⟩
theorem aF.iR{cw:Tb}{E:aq}(h:aF cw E){f:Nat}{c:Callee}(hc:kr cw f c):aF cw (E.iR f c):=by
 refine⟨h.fns,λg d hd=>?_,h.loops⟩;simp only[aq.iR]at hd;split at hd;.rename_i he;rw[Nat.eq_of_beq_eq_true he];injection hd with hd;subst hd;exact hc
 .exact h.Aj g d hd
theorem aF.aa{cw:Tb}{E:aq}(h:aF cw E)(N ctx i:Nat)(T:bw)(outs:bt):aF cw (E.aa N ctx i T outs):=by
 refine⟨h.fns,h.Aj,λctx' i' c L hL=>?_⟩;simp only[aq.aa]at hL;split at hL;.injection hL with hL;subst hL;exact NX h ET ctx i c T outs N
 .exact h.loops ctx' i' c L hL
theorem kr.plain{Fs:Tb}{f:Nat}{args:List pL}{ta tr:List Ty}{res:List (Bool×List gf)}{rk:Nat}{F G:(rj ta).den->Option (rj tr).den}(h:kr Fs f ⟨args,ta,res,tr,rk,F⟩)(e:G=F):kr Fs f ⟨args,ta,res,tr,rk,G⟩:=by subst e;exact h
def Bz:List (Nat×tV)->Nat->Option tV|[],_=>none|(g,fn)::r,f=>match Nat.beq g f with|true=>some fn|false=>Bz r f
inductive vV(P:Program)(eD:Nat->Option TypeId)(md:Nat->bI.Mode):List (Nat×tV)->Prop where|nil:vV P eD md []|cons{g:Nat}{fn:tV}{r:List (Nat×tV)}:Dd P eD md g=some fn->vV P eD md r->vV P eD md ((g,fn)::r)
theorem Sk{P:Program}{eD:Nat->Option TypeId}{md:Nat->bI.Mode}{l:List (Nat×tV)}(h:vV P eD md l):∀f fn,Bz l f=some fn->Dd P eD md f=some fn:=by induction h with|nil=>intro f fn h;cases h|@cons g fn' r h1 _ ih=>
 intro f fn h;simp only[Bz]at h;split at h;.rename_i hb;have e:=Nat.eq_of_beq_eq_true hb;subst e;injection h with h;subst h;exact h1
 .exact ih f fn h
def fixF{α β:Type}(step:Nat->(α->Option β)->α->Option β):Nat->α->Option β|0,_=>none|n+1,x=>step n (fixF step n) x
def uN(t:Nat):AC->Nat->Option AC
 |.seq a b,i=>match Nat.blt t (i+uH a)with|true=>uN t a i|false=>uN t b (i+uH a)
 |.cond _ a b,i=>match Nat.blt t (i+1+uH a)with|true=>uN t a (i+1)|false=>uN t b (i+1+uH a)
 |.block _ c,i=>uN t c (i+1)|.loop c,i=>match Nat.beq t i with|true=>some c|false=>uN t c (i+1)
 |_,_=>none
def acP(fn:tV)(t:Nat):AC:=(uN t fn.body 0).getD .skip
def gf.tys:gf->List Ty|.int k=>[.int k]|.bool=>[.bool]|.er=>[.bool]|.str=>[.str]|.sl t _=>[.sl t]|.fJ t _=>[t]|_=>[]
def gf.RT:gf->gf|.sl t _=>.sl t .bA|c=>c
def dZ(T:Ty):List gf:=(bq T).map gf.RT
def pL.tys:pL->List Ty|.c x=>x.tys|.agg l=>l.flatMap gf.tys|.box l=>l.flatMap gf.tys|.gm _=>[]
def rI.tys:rI->List Ty|.c x=>x.tys|.agg l=>l.flatMap gf.tys|.gm _ l=>l.flatMap gf.tys
def NG.tys:NG->List Ty|.row _ t=>[.sl t]|.box _ l=>l.flatMap gf.tys|.set _=>[.sl .str]
def ahf(l:List (Nat×rI)):List Ty:=l.flatMap λx=>x.2.tys
def tm(slots:List (Nat×rI))(outer:List (List (Nat×rI)))(mem:List (Nat×Nat×NG))(lvs:Nat)(aG:List Nat)(nv:Nat):bw:=⟨slots,outer,mem,lvs,aG,nv,ahf slots++(outer.flatMap ahf++mem.flatMap λx=>x.2.2.tys)⟩
structure cO where
 a:List pL
 r:List (Bool×List gf)k:Nat
 b:List (Nat×Nat×Nat×Ty)u:List (Nat×Nat)e:List (Nat×Nat×Ty)c:List (Nat×Nat×bt)
abbrev sg(a:List pL)(r:List (Bool×List gf)):cO:=⟨a,r,0,[],[],[],[]⟩
def cO.ta(s:cO):List Ty:=s.a.flatMap pL.tys
def cO.tr(s:cO):List Ty:=s.r.flatMap λx=>x.2.flatMap gf.tys
def cO.Aj(s:cO)(F:(rj s.ta).den->Option (rj s.tr).den):Callee:=⟨s.a,s.ta,s.r,s.tr,s.k,F⟩
def lk{β:Type}:List (Nat×Nat×β)->Nat->Nat->Option β|[],_,_=>none|(a,b,x)::r,c,i=>match Nat.beq a c&&Nat.beq b i with|true=>some x|false=>lk r c i
def lkU:List (Nat×Nat)->Nat->Nat->Bool|[],_,_=>false|(a,b)::r,c,i=>Nat.beq a c&&Nat.beq b i||lkU r c i
def aq.on(E:aq)(s:cO):aq:={E with IF:=lk s.c,Ln:=lk s.b,unr:=lkU s.u,NH:=lk s.e}
def aq.fn(E:aq)(f:Nat)(s:cO):(rj s.ta).den->Option (rj s.tr).den:=Si E ET f s.a s.ta s.r s.tr s.k
def aq.put(E:aq)(f:Nat)(s:cO)(F:(rj s.ta).den->Option (rj s.tr).den):aq:=E.iR f (s.Aj F)
theorem aF.on{cw:Tb}{E:aq}(h:aF cw E)(s:cO):aF cw (E.on s):=⟨h.fns,h.Aj,h.loops⟩
theorem aF.put{cw:Tb}{E E':aq}(h:aF cw E)(h':aF cw E')(f:Nat)(s:cO)(F:(rj s.ta).den->Option (rj s.tr).den)(e:F=E'.fn f s):aF cw (E.put f s F):=h.iR ((Z2 h' ET f s.a s.ta s.r s.tr s.k).plain e)
def lp(E:aq)(c i:Nat)(fn:tV)(t:Nat)(T:bw)(O:bt):Nat->(rj T.tys).den->Option (oA O).den:=NI (By E ET c i (acP fn t) T O)
def Xg:List Nat->Nat->Bool|[],_=>false|a::r,f=>Nat.beq a f||Xg r f
def acQ(l:List Nat)(tq:Nat->tV)(f:Nat):Option tV:=match Xg l f with|true=>some (tq f)|false=>none
theorem Xh{P:Program}{eD:Nat->Option TypeId}{md:Nat->bI.Mode}{tq:Nat->tV}{l:List Nat}(hq:∀f,tq f=(Dd P eD md f).getD default)(h:l.all (λf=>(Dd P eD md f).isSome)=true):∀f fn,acQ l tq f=some fn->Dd P eD md f=some fn:=by
 have key:∀l:List Nat,l.all (λf=>(Dd P eD md f).isSome)=true->∀f,Xg l f=true->(Dd P eD md f).isSome=true:=by intro l h f hm;induction l with|nil=>cases hm|cons a r ih=>
  simp only[List.all_cons,Bool.and_eq_true]at h;simp only[Xg,Bool.or_eq_true]at hm;rcases hm with hm|hm;.rw[<-Nat.eq_of_beq_eq_true hm];exact h.1
  .exact ih h.2 hm
 intro f fn hf;unfold acQ at hf;split at hf;.rename_i hm;have:=key l h f hm;injection hf with hf;subst hf;rw[hq];cases he:Dd P eD md f with|none=>rw[he]at this;cases this|some x=>rfl
 .cases hf
abbrev KC(a:Int):Int:=IntKind.u8.wrap a
abbrev aqv(a:Int):Int:=IntKind.u16.wrap a
abbrev aqw(a:Int):Int:=IntKind.u32.wrap a
abbrev cx(a:Int):Int:=IntKind.u64.wrap a
abbrev wi8(a:Int):Int:=IntKind.i8.wrap a
abbrev aqx(a:Int):Int:=IntKind.i16.wrap a
abbrev aqy(a:Int):Int:=IntKind.i32.wrap a
abbrev av(a:Int):Int:=IntKind.i64.wrap a
def z8(k:IntKind)(a b:Int):Int:=k.wrap (BitVec.ofInt k.bits a&&&BitVec.ofInt k.bits b).toNat
def EU(k:IntKind)(a b:Int):Int:=k.wrap (BitVec.ofInt k.bits a|||BitVec.ofInt k.bits b).toNat
def Xi(k:IntKind)(a b:Int):Int:=k.wrap (BitVec.ofInt k.bits a^^^BitVec.ofInt k.bits b).toNat
def oF(k:IntKind)(a b:Int):Int:=k.wrap (BitVec.ofInt k.bits a&&&~~~(BitVec.ofInt k.bits b)).toNat
end Go.Sym
namespace Go.Sym
open Go Go.bI
theorem S8{d:eW}{r:List eW}:Z4 (d::r)↔d.t.ok d.v/\Z4 r:=by simp[Z4]
theorem zm{H:Type}{enc:TypeId×Value->H}{P:Program}{w:World}{base:Nat}{sp:Nat->Bool}{held:Bool}:∀{ts:List TypeId}{vs:List Value}{ds:List (DataW H)}{ps:List MemPlace},DataW.TrodAll enc P w base sp held ts vs ds ps->ds.length=ts.length|[],[],[],_,_=>rfl|_::_,_::_,_::_,_,h=>by obtain⟨p,q,_,h2,_⟩:=h;simp[zm h2]|[],_::_,_,_,h=>h.elim|[],[],_::_,_,h=>h.elim|_::_,[],_,_,h=>h.elim|_::_,_::_,[],_,h=>h.elim
theorem Xj(P:Program):PM P none:=λ_ h=>by cases h
theorem Xk{P:Program}{W:World}{b:Nat}{args:Array Value}{params:Array TypeId}{l:List wv}(hp:params=(l.map (·.1)).toArray)(h:∀(j:Nat)t v,params[j]?=some t->args[j]?=some v->Value.okWide P W .any b t v):∀(j:Nat)(p:wv)v,l[j]?=some p->args[j]?=some v->Value.okWide P W .any b p.1 v:=λj p v hj hv=>h j p.1 v (by grind) hv
end Go.Sym
namespace Go.bI
open Go Go.RowKit Go.Sort
theorem xQ(x:Int):∀l,(AJ x l).Perm (x::l)
 |[]=>List.Perm.refl _|y::r=>by
  unfold AJ;split;.exact List.Perm.refl _
  .exact((xQ x r).cons y).trans (List.Perm.swap x y r)
theorem BZ:∀l,(jo l).Perm l|[]=>List.Perm.refl _|x::r=>by rw[jo];exact(xQ x _).trans ((BZ r).cons x)
theorem zn(x:Int):∀l:List Int,l.Pairwise (·<=·)->(AJ x l).Pairwise (·<=·)
 |[],_=>by simp[AJ]|y::r,h=>by
  rw[List.pairwise_cons]at h;unfold AJ;split
  .rename_i hc;have hc:=of_decide_eq_true hc;rw[List.pairwise_cons];refine⟨λz hz=>?_,List.pairwise_cons.2 h⟩;rcases List.mem_cons.1 hz with rfl|hz;.exact hc
   .exact Int.le_trans hc (h.1 z hz)
  .rename_i hc;have hc:=of_decide_eq_false hc;rw[List.pairwise_cons];refine⟨λz hz=>?_,zn x r h.2⟩;rcases List.mem_cons.1 ((xQ x r).mem_iff.1 hz)with rfl|hz;.omega
   .exact h.1 z hz
theorem wD:∀l:List Int,(jo l).Pairwise (·<=·)|[]=>List.Pairwise.nil|x::r=>zn x _ (wD r)
theorem GM(l:List Int):(l.mergeSort λx y=>decide (x<=y))=jo l:=by refine List.Perm.eq_of_pairwise (le:=λa b=>a<=b) (λa b _ _ h1 h2=>Int.le_antisymm h1 h2) ?_ (wD l) ((List.mergeSort_perm _ _).trans (BZ l).symm);have:=List.pairwise_mergeSort (le:=λx y:Int=>decide (x<=y)) (λa b c h1 h2=>by simp only[decide_eq_true_eq]at*;omega) (λa b=>by simp only[Bool.or_eq_true,decide_eq_true_eq];omega) l;exact this.imp λh=>of_decide_eq_true h
theorem Jz{w:World}{b off n:Nat}{zs:List Int}{os:Array Obj}(hz:∀C e,w.heap[b]?=some (.cells C e (0,0))->off+zs.length<=C.size)(hb:b<w.heap.size):Ns w (grow (putRow (Value.int .i64) (Go.Sort.ahead w n) b off zs.toArray) os) b off zs:=by
 refine⟨rfl,rfl,rfl,?_,λk hk hne=>?_,λC e hC=>?_⟩;.simp[grow,putRow,mapBlock,Go.Sort.ahead]
 .simp only[grow,putRow,mapBlock,Go.Sort.ahead];rw[Array.getElem?_append_left (by simpa using hk),Array.getElem?_modify,if_neg (Ne.symm hne)]
 .refine⟨putCells (Value.int .i64) off zs.toArray C,?_,by simp[putCells],λj z hj=>?_⟩;.simp only[grow,putRow,mapBlock,Go.Sort.ahead];rw[Array.getElem?_append_left (by simpa using hb),Array.getElem?_modify,if_pos rfl,hC];rfl
  .have hlt:=(List.getElem?_eq_some_iff.1 hj).1;have hs:=hz C e hC;have hlt2:off+j<C.size:=by omega
   simp only[putCells];rw[Array.getElem?_mapIdx,Array.getElem?_eq_getElem hlt2];simp only[Option.map_some];rw[if_pos ⟨by omega,by simpa using hlt⟩];rw[show off+j-off=j by omega];have:zs.toArray[j]! =z:=by rw[getElem!_pos zs.toArray j (by simpa using hlt)];have:=(List.getElem?_eq_some_iff.1 hj).2;simpa using this
   rw[this]
theorem PU{P:Program}{ρ:Go.Shelf.Ren}(L:Go.Proofs.Lays.n189 P ρ)(hf:∃fn,P.funcs[ρ.f 189]?=some fn/\fn.body.isSome=true/\(fn.name== "runtime.NumGoroutine")=false):KQ P (ρ.f 189):=by
 refine⟨hf,λp cap w=>Go.Proofs.Any.slices_Sort_int_none L p cap w,λb off cap zs w C e hC hz h0 hlt=>?_⟩;have hb:b<w.heap.size:=(Array.getElem?_eq_some_iff.1 hC).1;have hH:Go.Sort.Holds (Value.int .i64) w b off zs.toArray:=by
  intro j hj;have hj:j<zs.length:=by simpa using hj
  have h1:=hz j zs[j] (List.getElem?_eq_getElem hj);refine⟨?_,?_⟩;.rw[getElem!_pos zs.toArray j (by simpa using hj)];simp[World.cell?,hC,h1]
  .simp[World.frozen?,hC]
 refine Calls.mono (Go.Proofs.Any.slices_Sort_int L b off cap zs w hH hb hlt) ?_;rintro en w'⟨rfl,n,os,rfl⟩;refine⟨rfl,?_⟩;rw[GM];refine Jz (λC' e' PV=>?_) hb;rw[hC]at PV;injection PV with PV;injection PV with PV _ _;subst PV;rw[mW];have:=hz (zs.length-1) zs[zs.length-1] (List.getElem?_eq_getElem (by omega));have:=(Array.getElem?_eq_some_iff.1 this).1;omega
end Go.bI
namespace Go.bI
open Go Go.RowKit Go.Sort
def jT(x:Int):List Int->List Int|[]=>[]|y::r=>if y≠x then y::jT y r else jT y r
theorem uO(x:Int):∀r,jq (x::r)=x::jT x r
 |[]=>rfl|y::r=>by
  rw[jq];by_cases h:x=y;.subst h;rw[decide_eq_true rfl,uO x r,jT,if_neg (by simp)]
  .rw[decide_eq_false h,uO y r,jT,if_pos (Ne.symm h)]
theorem B0:∀(r:List Int)(x:Int),((List.range r.length).filter λj=>Lib.keeps (x::r).toArray (j+1)).map (λj=>(x::r).toArray[j+1]!)=jT x r
 |[],_=>rfl|y::r,x=>by
  have ih:=B0 r y;have h0:Lib.keeps (x::y::r).toArray (0+1)=decide (y≠x):=by simp[Lib.keeps]
  have hs:∀j,Lib.keeps (x::y::r).toArray (j+1+1)=Lib.keeps (y::r).toArray (j+1):=by intro j;simp[Lib.keeps]
  have hg:∀j,(x::y::r).toArray[j+1+1]! =(y::r).toArray[j+1]!:=by intro j;simp
  have BQ:(((List.range r.length).map Nat.succ).filter λj=>Lib.keeps (x::y::r).toArray (j+1)).map (λj=>(x::y::r).toArray[j+1]!)=jT y r:=by rw[List.filter_map,List.map_map,<-ih];have e1:((λj=>Lib.keeps (x::y::r).toArray (j+1))∘Nat.succ)=λj=>Lib.keeps (y::r).toArray (j+1):=funext λj=>hs j;have e2:((λj=>(x::y::r).toArray[j+1]!)∘Nat.succ)=λj=>(y::r).toArray[j+1]!:=funext λj=>hg j;rw[e1,e2]
  rw[List.length_cons,List.range_succ_eq_map,List.filter_cons];rw[h0,jT];by_cases h:y≠x;.rw[if_pos h,if_pos (decide_eq_true h),List.map_cons,BQ];simp
  .rw[if_neg h,if_neg (by simpa using h),BQ]
theorem LV:∀zs:List Int,Lib.compact zs=jq zs|[]=>rfl|x::r=>by rw[uO,<-B0 r x];unfold Lib.compact Lib.compactUpTo;rw[List.length_cons,List.range_succ_eq_map,List.filter_cons];rw[if_pos (by simp[Lib.keeps])];rw[List.map_cons,List.filter_map,List.map_map];rfl
theorem GN{P:Program}{ρ:Go.Shelf.Ren}(L:Go.Proofs.Lays2.n20 P ρ)(hf:∃fn,P.funcs[ρ.f 20]?=some fn/\fn.body.isSome=true/\(fn.name== "runtime.NumGoroutine")=false):xl P (ρ.f 20):=by
 refine⟨hf,λp cap w=>Go.Proofs.Any.slices_Compact_int_empty L p cap w,λb off cap zs w C e hC hz h0 hlt hcap=>?_⟩;have hb:b<w.heap.size:=(Array.getElem?_eq_some_iff.1 hC).1;have hH:Go.Sort.Holds (Value.int .i64) w b off zs.toArray:=by
  intro j hj;have hj:j<zs.length:=by simpa using hj
  have h1:=hz j zs[j] (List.getElem?_eq_getElem hj);refine⟨?_,?_⟩;.rw[getElem!_pos zs.toArray j (by simpa using hj)];simp[World.cell?,hC,h1]
  .simp[World.frozen?,hC]
 refine Calls.mono (Go.Proofs.Any.slices_Compact_int L b off cap zs w hH (by omega) hcap) ?_;rintro en w'⟨rfl,q,rfl⟩;rw[LV];refine⟨rfl,?_⟩;have hle:=mX zs;have:=Jz (w:=w) (b:=b) (off:=off) (n:=q) (zs:=jq zs++List.replicate (zs.length-(jq zs).length) 0) (os:=#[]) (λC' e' PV=>by rw[hC]at PV;injection PV with PV;injection PV with PV _ _;subst PV;have h2:=hz (zs.length-1) zs[zs.length-1] (List.getElem?_eq_getElem (by omega));have h2:=(Array.getElem?_eq_some_iff.1 h2).1;simp only[List.length_append,List.length_replicate];omega) hb;rw[grow_empty]at this;refine⟨this.os,this.tape,this.output,this.size,this.other,λC e hC=>?_⟩;obtain⟨C',h1,h2,h3⟩:=this.row C e hC;refine⟨C',h1,h2,λj z hj=>h3 j z ?_⟩;rw[List.getElem?_append_left (List.getElem?_eq_some_iff.1 hj).1];exact hj
end Go.bI
namespace Go.Sym
open Go Go.bI
def alY:Callee:=⟨[],[],[(false,[.bool])],[.bool],0,λ_=>some true⟩
end Go.Sym
namespace Go.Proofs.YtdogilonhnbapaaGreatDoor
open Go Go.bI Go.Sym
def md:Nat->bI.Mode:=λf=>match f with|163=>⟨[],true⟩|106=>⟨[],true⟩|192=>⟨[(27,2),(44,2),(65,2),(104,2)],false⟩|193=>⟨[(3,6),(17,1)],false⟩|213=>⟨[(13,1)],false⟩|206=>⟨[(9,1)],false⟩|208=>⟨[],true⟩|214=>⟨[],true⟩|207=>⟨[],true⟩|168=>⟨[],true⟩|198=>⟨[(6,12976521221)],true⟩|158=>⟨[(2,65540)],false⟩|95=>⟨[],true⟩|96=>⟨[],true⟩|157=>⟨[],true⟩|94=>⟨[],true⟩|161=>⟨[(20,65537)],false⟩|97=>⟨[],true⟩|100=>⟨[],true⟩|162=>⟨[(28,1)],false⟩|99=>⟨[(24,3),(40,1),(10,1)],true⟩|61=>⟨[(13,1)],false⟩|66=>⟨[(2,65540),(38,1)],false⟩|62=>⟨[(13,65537)],false⟩|107=>⟨[(6,2)],true⟩|105=>⟨[],true⟩|109=>⟨[(6,2)],true⟩|110=>⟨[(11,2)],false⟩|165=>⟨[(6,2)],true⟩|63=>⟨[(37,2),(86,2),(119,2),(126,2),(133,2),(139,2),(152,2),(165,2),(182,2),(218,2)],false⟩|113=>⟨[(19,131071)],false⟩|64=>⟨[(45,3),(105,1),(28,1),(25,1),(91,1),(31,1)],false⟩|118=>⟨[],true⟩|65=>⟨[(74,1),(39,1)],false⟩|10=>⟨[(11,1)],false⟩|4=>⟨[(72,9)],false⟩|42=>⟨[(50,1)],true⟩|129=>⟨[(2,65540),(19,1),(3,65540),(12,1)],false⟩|126=>⟨[(2,65540),(5,65537)],false⟩|128=>⟨[(6,65537)],false⟩|127=>⟨[(7,65537)],false⟩|132=>⟨[(9,65537)],false⟩|70=>⟨[(13,65537)],false⟩|72=>⟨[(10,1)],false⟩|74=>⟨[(27,1),(24,1)],false⟩|75=>⟨[(20,1)],false⟩|45=>⟨[(11,458755)],false⟩|144=>⟨[(19,10)],false⟩|24=>⟨[(34,10),(9,458755),(9,458755)],false⟩|_=>⟨[],false⟩
def eD:Nat->Option TypeId:=λf=>match f with|39=>some 36|40=>some 40|199=>some 1000000|200=>some 1000001|_=>none
def ahg:List Nat:=[34,35,18,9,8,204,163,106,212,205,195,192,193,154,213,206,194,155,208,214,207,196,168,169,170,171,172,120,121,119,122,209,197,156,93,198,158,95,96,157,94,159,160,161,97,60,36,37,98,100,162,99,61,66,101,102,103,62,104,201,164,108,107,105,109,110,111,165,112,63,166,167,116,113,114,115,64,117,118,65,67,38,19,10,4,20,21,22,41,23,68,42,203,176,177,173,202,174,123,189,175,124,141,142,180,133,178,125,69,129,126,128,127,130,179,131,132,70,43,71,134,72,76,181,135,182,183,184,185,186,187,136,73,188,138,143,77,137,74,139,140,75,44,45,25,26,27,13,144,78,46,24,11,5,12,6,3]
@[irreducible]noncomputable def tq(f:Nat):tV:=(Dd Tryz.prog eD md f).getD default
def GO:Go.bI.Call:=lW (rC 7 PT) (lW (rC 17 LQ) (lW (rC 15 LP) (lW (rC 16 PR) (Sm))))
noncomputable def cw:Tb:=⟨acQ ahg tq,GO⟩
theorem ahh(f:Nat):tq f=(Dd Tryz.prog eD md f).getD default:=by kernel_rfl
set_option maxRecDepth 100000in theorem Xl:ahg.all (λf=>(Dd Tryz.prog eD md f).isSome)=true:=by kernel_rfl
theorem ahi:∀f fn,cw f=some fn->Dd Tryz.prog eD md f=some fn:=Xh ahh Xl
theorem alZ(xs:List AV)(v:AV)(h:PT xs=some v):cw.O 7 xs [.lf] .lf 0=some (v,[.lf],.lf,0):=by show GO 7 xs [.lf] .lf 0=_;simp[GO,lW,rC,ER,h]
theorem ahj(xs:List AV)(v:AV)(h:LQ xs=some v):cw.O 17 xs [.lf] .lf 0=some (v,[.lf],.lf,0):=by show GO 17 xs [.lf] .lf 0=_;simp[GO,lW,rC,ER,h]
theorem ahk(xs:List AV)(v:AV)(h:LP xs=some v):cw.O 15 xs [.lf] .lf 0=some (v,[.lf],.lf,0):=by show GO 15 xs [.lf] .lf 0=_;simp[GO,lW,rC,ER,h]
theorem ahl(xs:List AV)(v:AV)(h:PR xs=some v):cw.O 16 xs [.lf] .lf 0=some (v,[.lf],.lf,0):=by show GO 16 xs [.lf] .lf 0=_;simp[GO,lW,rC,ER,h]
theorem Xm:kU Tryz.prog 39 36:=⟨λ_ _=>⟨_,Tryz.func39,by kernel_rfl,by kernel_rfl,by kernel_rfl,by kernel_rfl⟩,λh=>absurd h (by decide),λh=>absurd h (by decide)⟩
theorem Xn:kU Tryz.prog 40 40:=⟨λ_ _=>⟨_,Tryz.func40,by kernel_rfl,by kernel_rfl,by kernel_rfl,by kernel_rfl⟩,λh=>absurd h (by decide),λh=>absurd h (by decide)⟩
theorem S9:kU Tryz.prog 199 1000000:=⟨λh=>absurd rfl h,λ_=>PU Tryz.Xb ⟨_,Tryz.func199,by kernel_rfl,by kernel_rfl⟩,λh=>absurd h (by decide)⟩
theorem Ta:kU Tryz.prog 200 1000001:=⟨λ_ h=>absurd rfl h,λh=>absurd h (by decide),λ_=>GN Tryz.acM ⟨_,Tryz.func200,by kernel_rfl,by kernel_rfl⟩⟩
theorem ahm:∀f T,eD f=some T->kU Tryz.prog f T:=by
 intro f T h;unfold eD at h;split at h;.injection h with h;subst h;exact Xm
 .injection h with h;subst h;exact Xn
 .injection h with h;subst h;exact S9
 .injection h with h;subst h;exact Ta
 .cases h
end Go.Proofs.YtdogilonhnbapaaGreatDoor
