/- Parts of the proof. -/
import Derived.Test.YtclkonemhghbkaaGreatSymGM
import Derived.Test.YtclkonemhghbkaaGreatTab22a
import Derived.Test.YtclkonemhghbkaaGreatLaw22ac
import Derived.Test.YtclkonemhghbkaaGreatRows
import Derived.JoinedOf
import Derived.ProofKit
set_option linter.unusedSimpArgs false
set_option linter.unusedVariables false
set_option linter.defProp false
namespace Go.bK
open Go
def HF:AV->Bool|.d _=>true|.own _ .bG=>true|_=>false
def HG:AV->Bool|.agg cs=>cs.all HF|x=>HF x
def E1{X:Cx}{x:AV}{v:Value}(h:HF x=true)(hv:VC X x v):VC X.inner x v:=by cases x with
 |d x=>exact hv|own els o=>cases o with|bG=>obtain⟨a,b,o,sz,cap,h1,h2,h3,h4⟩:=hv;exact⟨a,b,o,sz,cap,h1,h2,h3,h4.mono (λ_ _ h=>h) λq hq _=>Ii hq⟩|_=>cases h
 |_=>cases h
def HH{X:Cx}:∀{xs:List AV}{vs:List Value},xs.all HF=true->aC (VC X) xs vs->aC (VC X.inner) xs vs|[],[],_,_=>trivial|x::xs,v::vs,h,hv=>by simp only[dv,al]at h;exact⟨E1 h.1 hv.1,HH h.2 hv.2⟩|[],_::_,_,hv=>hv.elim|_::_,[],_,hv=>hv.elim
def Zy{X:Cx}{x:AV}{v:Value}(h:HG x=true)(hv:V1 X x v):V1 X.inner x v:=by cases x with|agg cs=>obtain⟨vs,rfl,hv⟩:=hv;exact⟨vs,rfl,HH h hv⟩|d x=>exact E1 (x:=.d x) h hv|own els o=>exact E1 (x:=.own els o) h hv|_=>cases h
def MN{X:Cx}:∀{xs:List AV}{vs:List Value},xs.all HG=true->aC (V1 X) xs vs->aC (V1 X.inner) xs vs|[],[],_,_=>trivial|x::xs,v::vs,h,hv=>by simp only[dv,al]at h;exact⟨Zy h.1 hv.1,MN h.2 hv.2⟩|[],_::_,_,hv=>hv.elim|_::_,[],_,hv=>hv.elim
end Go.bK
namespace Go.Sym
open Go Go.bK
def vg{α:Type}(f:List D->Option (α×List D)):List (List D)->Option (List α)|[]=>some []|e::r=>match f e,vg f r with|some (x,[]),some xs=>some (x::xs)|_,_=>none
def aie(k:IntKind):List D->Option (Int×List D)
 |.sc (.int k' a)::r=>match decEq k k' with|.isTrue _=>some (a,r)|.isFalse _=>none
 |_=>none
def Zz:List D->Option (Bool×List D)|.sc (.bool b)::r=>some (b,r)|_=>none
def aif:List D->Option (List UInt8×List D)|.sc (.string s)::r=>some (s.data.toList,r)|_=>none
def dSl{α:Type}(f:List D->Option (α×List D)):List D->Option (List α×List D)
 |.sl els::r=>match vg f els with|some l=>some (l,r)|none=>none
 |_=>none
def ZA{α β:Type}(f:List D->Option (α×List D))(g:List D->Option (β×List D))(r:List D):Option ((α×β)×List D):=match f r with
 |some (x,r')=>match g r' with|some (y,r'')=>some ((x,y),r'')|none=>none
 |none=>none
def E3:(t:Ty)->List D->Option (t.den×List D)|.int k=>aie k|.bool=>Zz|.str=>aif|.sl t=>dSl (E3 t)|.unit=>λr=>some ((),r)|.prod a b=>ZA (E3 a) (E3 b)|.val=>λ_=>none|.sum _ _=>λ_=>none
def acm:ig->AV->Option fS
 |.int k,.d (.sc (.int k' a))=>match decEq k k' with|.isTrue _=>some ⟨.int k,a⟩|.isFalse _=>none
 |.bool,.d (.sc (.bool b))=>some ⟨.bool,b⟩|.str,.d (.sc (.string s))=>some ⟨.str,s.data.toList⟩|.sl t .d,.d (.sl els)=>(vg (E3 t) els).map λl=>⟨.sl t,l⟩|.sl t .bG,.d (.sl els)=>(vg (E3 t) els).map λl=>⟨.sl t,l⟩|.sl t .bG,.own els .bG=>(vg (E3 t) els).map λl=>⟨.sl t,l⟩|_,_=>none
def QO:List ig->List AV->Option (List fS)
 |[],[]=>some []|c::cs,a::aK=>match acm c a,QO cs aK with|some d,some ds=>some (d::ds)|_,_=>none
 |_,_=>none
def Tj:List vm->List AV->Option (List fS)
 |[],[]=>some []|.c c::ps,a::aK=>match acm c a,Tj ps aK with|some d,some ds=>some (d::ds)|_,_=>none
 |.agg l::ps,.agg cs::aK=>match QO l cs,Tj ps aK with|some d,some ds=>some (d++ds)|_,_=>none
 |_,_=>none
def ZB:Cell->Option AV|.int k a=>some (.d (.sc (.int k a)))|.bool b=>some (.d (.sc (.bool b)))|.str s=>some (.d (.sc (.string ⟨s.toArray⟩)))|.nil false=>some (.d (.sl []))|.sl t l .d=>some (.d (.sl (bD t l)))|_=>none
def MO:List Cell->Option (List AV)|[]=>some []|x::r=>match ZB x,MO r with|some y,some ys=>some (y::ys)|_,_=>none
def aih:Bool×List Cell->Option AV|(true,cs)=>(MO cs).map .agg|(false,[x])=>ZB x|_=>none
def vH:List (Bool×List Cell)->Option (List AV)|[]=>some []|x::r=>match aih x,vH r with|some y,some ys=>some (y::ys)|_,_=>none
def aii:V2->Option AV|.c x=>ZB x|.agg cs=>(MO cs).map .agg|.fk vs=>(vH vs).map .fk|_=>none
def aij(c:Callee)(aK:List AV):Option AV:=match Tj c.args aK with|none=>none|some ds=>match pack c.ta ds with|none=>none|some a=>match c.F a with|none=>none|some y=>match nR c.res (unpack c.tr y)with|some (ws,[])=>(qC ws).bind aii|_=>none
def Ao{α:Type}{f:List D->Option (α×List D)}{g:α->List D}(h:∀e x r,f e=some (x,r)->e=g x++r):∀{els:List (List D)}{l:List α},vg f els=some l->els=l.map g
 |[],l,he=>by cases he;rfl|e::r,l,he=>by
  simp only[vg]at he;split at he;.rename_i x xs h1 h2;cases he;rw[h e x [] h1,Ao h h2,dq];rfl
  .cases he
def QS(s:ByteArray):(⟨s.data.toList.toArray⟩:ByteArray)=s:=by cases s;simp
def Ct:∀(t:Ty){ds:List D}{x:t.den}{r:List D},E3 t ds=some (x,r)->ds=fu t x++r
 |.int k,ds,x,r,h=>by
  change aie k ds=some (x,r)at h;unfold aie at h;split at h<;>(try cases h);split at h;.rename_i e _;subst e;cases h;rfl
  .cases h|.bool,ds,x,r,h=>by change Zz ds=some (x,r)at h;unfold Zz at h;split at h<;>(try cases h);rfl|.str,ds,x,r,h=>by change aif ds=some (x,r)at h;unfold aif at h;split at h<;>(try cases h);simp only[fu,QS];rfl|.sl t,ds,x,r,h=>by
  change dSl (E3 t) ds=some (x,r)at h;unfold dSl at h;split at h<;>(try cases h);split at h;.rename_i l hl;cases h;have:=Ao (g:=fu t) (λe x r h=>Ct t h) hl;subst this;rfl
  .cases h|.unit,ds,x,r,h=>by change some ((),ds)=some (x,r)at h;cases h;rfl|.prod a b,ds,x,r,h=>by
  change ZA (E3 a) (E3 b) ds=some (x,r)at h;unfold ZA at h;split at h
  .rename_i y r' h1;split at h;.rename_i z r'' h2;cases h;rw[Ct a h1,Ct b h2];simp[fu]
   .cases h
  .cases h|.val,ds,x,r,h=>by cases h|.sum a b,ds,x,r,h=>by cases h
def Jy{t:Ty}{els:List (List D)}{l:List t.den}(h:vg (E3 t) els=some l):els=bD t l:=Ao (λ_ _ _ h=>Ct t h) h
def QT{c:ig}{a:AV}{d:fS}(h:acm c a=some d):(∃x,(∀rest,c.fill (d::rest)=some (x,rest))/\RC ρ0 0 [] x a)/\HF a=true:=by
 unfold acm at h;split at h
 .split at h;.rename_i e _;subst e;cases h;exact⟨⟨_,λ_=>rfl,rfl⟩,rfl⟩
  .cases h
 .cases h;exact⟨⟨_,λ_=>rfl,rfl⟩,rfl⟩
 .cases h;exact⟨⟨_,λ_=>rfl,by simp only[RC,QS]⟩,rfl⟩
 .obtain⟨l,hl,rfl⟩:=aJ h;exact⟨⟨_,λ_=>rfl,.inl (by rw[Jy hl])⟩,rfl⟩
 .obtain⟨l,hl,rfl⟩:=aJ h;exact⟨⟨_,λ_=>rfl,.inl (by rw[Jy hl])⟩,rfl⟩
 .obtain⟨l,hl,rfl⟩:=aJ h;exact⟨⟨_,λ_=>rfl,.inr ⟨_,by rw[Jy hl]⟩⟩,rfl⟩
 .cases h
def MP:∀{cs:List ig}{aK:List AV}{ds:List fS},QO cs aK=some ds->(∃xs,(∀rest,dH cs (ds++rest)=some (xs,rest))/\aC (RC ρ0 0 []) xs aK)/\aK.all HF=true
 |[],[],ds,h=>by cases h;exact⟨⟨[],λ_=>rfl,trivial⟩,rfl⟩|c::cs,a::aK,ds,h=>by
  simp only[QO]at h;split at h;.rename_i d ds' h1 h2;cases h;obtain⟨⟨x,g1,g2⟩,g3⟩:=QT h1;obtain⟨⟨xs,g4,g5⟩,g6⟩:=MP h2;exact⟨⟨x::xs,λrest=>by simp only[dH,nn,g1,g4],g2,g5⟩,by simp[g3,g6]⟩
  .cases h|[],_::_,_,h=>by cases h|_::_,[],_,h=>by cases h
def Jz:∀{ps:List vm}{aK:List AV}{ds:List fS},Tj ps aK=some ds->(∃vs,(∀rest,dQ ps (ds++rest)=some (vs,rest))/\aC (RV ρ0 0 []) vs aK)/\aK.all HG=true
 |[],aK,ds,h=>by
  unfold Tj at h;split at h<;>first|(cases h;done)|skip
  .cases h;exact⟨⟨[],λ_=>rfl,trivial⟩,rfl⟩
  all_goals simp_all|p::ps,aK,ds,h=>by
  unfold Tj at h;split at h;.simp_all
  .rename_i c ps' a as' e;cases e;split at h;.rename_i d ds' h1 h2;cases h;obtain⟨⟨x,g1,g2⟩,g3⟩:=QT h1;obtain⟨⟨xs,g4,g5⟩,g6⟩:=Jz h2;refine⟨⟨.c x::xs,λrest=>by simp only[dQ,tA.fill,nn,g1,g4],g2,g5⟩,?_⟩;simp only[dv,g6,lc];cases a<;>first|exact g3|cases g3
   .cases h
  .rename_i l ps' cs as' e;cases e;split at h;.rename_i d ds' h1 h2;cases h;obtain⟨⟨x,g1,g2⟩,g3⟩:=MP h1;obtain⟨⟨xs,g4,g5⟩,g6⟩:=Jz h2;exact⟨⟨.agg x::xs,λrest=>by simp only[dQ,tA.fill,bi,g1,g4],⟨_,rfl,g2⟩,g5⟩,by simp[HG,g3,g6]⟩
   .cases h
  .cases h
def HI:AV->Bool|.own ..=>false|_=>true
def xe:AV->Bool|.agg cs=>cs.all HI|x=>HI x
def ZC:AV->Bool|.fk vs=>vs.all xe|x=>xe x
def E4{cm:List (Tr bq)}{k lv sl ak:Nat}{x y:AV}{u:List (List (List D))}(h:bE cm 0 0 k lv sl ak x=some (y,u)):xe y=true/\HI y=true/\fU y=true:=by
 unfold bE at h;repeat'(split at h)
 all_goals first|(cases h;done)|(cases h;exact⟨rfl,rfl,rfl⟩)|(simp_all[oC];done)
def HJ{cm:List (Tr bq)}{lv sl ak:Nat}:∀{k:Nat}{xs ys:List AV}{u:List (List (List D))},dM cm 0 0 lv sl ak k xs=some (ys,u)->ys.all HI=true
 |_,[],ys,u,h=>by cases h;rfl|k,x::xs,ys,u,h=>by
  simp only[dM]at h;split at h;.rename_i y u1 ys' us h1 h2;cases h;simp[(E4 h1).2.1,HJ h2]
  .cases h
def MQ{cm:List (Tr bq)}{k lv sl ak:Nat}{x y:AV}{u:List (List (List D))}(h:lH cm 0 0 lv sl ak k x=some (y,u)):xe y=true/\fU y=true:=by
 unfold lH at h;split at h;.obtain⟨z,hz,he⟩:=aJ h;cases he;exact⟨HJ (u:=z.2) hz,rfl⟩
 .exact⟨(E4 h).1,(E4 h).2.2⟩
def MS{cm:List (Tr bq)}{lv sl ak:Nat}:∀{k:Nat}{xs ys:List AV}{u:List (List (List D))},fT cm 0 0 lv sl ak k xs=some (ys,u)->ys.all xe=true
 |_,[],ys,u,h=>by cases h;rfl|k,x::xs,ys,u,h=>by
  simp only[fT]at h;split at h;.rename_i y u1 ys' us h1 h2;cases h;simp[(MQ h1).1,MS h2]
  .cases h
def ZD{cm:List (Tr bq)}{lv sl ak:Nat}{x y:AV}{u:List (List (List D))}(h:gU cm 0 0 lv sl ak x=some (y,u)):ZC y=true:=by
 unfold gU at h;split at h;.obtain⟨z,hz,he⟩:=aJ h;cases he;exact MS (u:=z.2) hz
 .have:=MQ h;cases y<;>first|exact this.1|cases this.2
def JA{ρ:bH}{B:Nat}{m:List (Tr E2)}{x:Cell}{a b:AV}(h:ZB x=some b)(hx:RC ρ B m x a)(ho:HI a=true):a=b:=by
 unfold ZB at h;split at h<;>(try cases h);.exact hx
 .exact hx
 .exact hx
 .rcases hx with rfl|⟨_,_,rfl⟩;.rfl
  .cases ho
 .rcases hx with rfl|⟨_,_,rfl⟩;.rfl
  .cases ho
def E5{ρ:bH}{B:Nat}{m:List (Tr E2)}:∀{xs:List Cell}{aK bs:List AV},MO xs=some bs->aC (RC ρ B m) xs aK->aK.all HI=true->aK=bs
 |[],[],bs,h,_,_=>by cases h;rfl|x::xs,a::aK,bs,h,hx,ho=>by
  simp only[MO]at h;split at h;.rename_i y ys h1 h2;cases h;simp only[dv,al]at ho;rw[JA h1 hx.1 ho.1,E5 h2 hx.2 ho.2]
  .cases h|[],_::_,_,_,h,_=>h.elim|_::_,[],_,_,h,_=>h.elim
def acn{ρ:bH}{B:Nat}{m:List (Tr E2)}{x:Bool×List Cell}{a b:AV}(h:aih x=some b)(hx:R1 ρ B m x a)(ho:xe a=true):a=b:=by
 unfold aih at h;split at h;.obtain⟨z,hz,rfl⟩:=aJ h;obtain⟨aK,rfl,h2⟩:=hx;rw[E5 hz h2 ho]
 .obtain⟨c,e,h2⟩:=hx;cases e;refine JA h h2 ?_;cases a<;>first|exact ho|rfl
 .cases h
def QU{ρ:bH}{B:Nat}{m:List (Tr E2)}:∀{xs:List (Bool×List Cell)}{aK bs:List AV},vH xs=some bs->aC (R1 ρ B m) xs aK->aK.all xe=true->aK=bs
 |[],[],bs,h,_,_=>by cases h;rfl|x::xs,a::aK,bs,h,hx,ho=>by
  simp only[vH]at h;split at h;.rename_i y ys h1 h2;cases h;simp only[dv,al]at ho;rw[acn h1 hx.1 ho.1,QU h2 hx.2 ho.2]
  .cases h|[],_::_,_,_,h,_=>h.elim|_::_,[],_,_,h,_=>h.elim
def aco{ρ:bH}{B:Nat}{m:List (Tr E2)}{w:V2}{a b:AV}(h:aii w=some b)(hx:RV ρ B m w a)(ho:ZC a=true):a=b:=by
 unfold aii at h;split at h;.refine JA h hx ?_;cases a<;>first|exact ho|rfl
 .obtain⟨z,hz,rfl⟩:=aJ h;obtain⟨aK,rfl,h2⟩:=hx;rw[E5 hz h2 ho]
 .obtain⟨z,hz,rfl⟩:=aJ h;obtain⟨aK,rfl,h2⟩:=hx;rw[QU hz h2 ho]
 .cases h
def eqV:Value->Value->Bool|.bool a,.bool b=>a==b|.int k a,.int k' b=>decide (k=k')&&decide (a=b)|.string a,.string b=>decide (a.data.toList=b.data.toList)|_,_=>false
def eqL{α:Type}(f:α->α->Bool):List α->List α->Bool|[],[]=>true|a::l,b::m=>f a b&&eqL f l m|_,_=>false
def eqD:Nat->D->D->Bool|0,_,_=>false|k+1,x,y=>match x,y with|.sc v,.sc w=>eqV v w|.sl a,.sl b=>eqL (eqL (eqD k)) a b|.er,.er=>true|_,_=>false
def eqC:AV->AV->Bool|.d x,.d y=>eqD 9 x y|_,_=>false
def QV:AV->AV->Bool|.agg a,.agg b=>eqL eqC a b|x,y=>eqC x y
def ail:∀{a b:Value},eqV a b=true->a=b:=by
 intro a b h;unfold eqV at h;split at h;.rw[eq_of_beq h]
 .rw[al]at h;rw[du h.1,du h.2]
 .rename_i a b;have:=du h;have:a=b:=by cases a with|mk a=>cases b with|mk b=>congr 1;exact Array.toList_inj.1 this
  rw[this]
 .cases h
def E6{α:Type}{f:α->α->Bool}(hf:∀a b,f a b=true->a=b):∀{l m:List α},eqL f l m=true->l=m|[],[],_=>rfl|a::l,b::m,h=>by simp only[eqL,al]at h;rw[hf a b h.1,E6 hf h.2]|[],_::_,h=>by cases h|_::_,[],h=>by cases h
def ZE:∀(k:Nat)(a b:D),eqD k a b=true->a=b
 |0,_,_,h=>by cases h|k+1,a,b,h=>by
  unfold eqD at h;split at h;.rw[ail h]
  .rw[E6 (λ_ _ h=>E6 (λa b h=>ZE k a b h) h) h]
  .rfl
  .cases h
def ZF:∀(a b:AV),eqC a b=true->a=b:=by
 intro a b h;unfold eqC at h;split at h;.rw[ZE _ _ _ h]
 .cases h
def aim:∀(a b:AV),QV a b=true->a=b:=by
 intro a b h;unfold QV at h;split at h;.rw[E6 ZF h]
 .exact ZF _ _ h
def dG(P:Program)(f:Nat)(aK:List AV)(a:AV):Prop:=∀(mem:List (Tr bq))(aI:Tr Unit)(nv:Nat)(X:Cx)(bR:Array Value),aF X mem aI->aC (V1 X) aK bR.toList->(∃fn,P.funcs[f]?=some fn/\fn.body.isSome=true/\(fn.name== "runtime.NumGoroutine")=false)/\Calls P f bR X.w λe w'=>∃Y v,e=.returned v/\Y.w=w'/\Ext X Y/\VR Y a v/\aF Y [.lf] .lf/\nv<=nv/\∀u L,Y.ρ u=some L->X.ρ u=some L\/(nv<=u/\u<nv)
def MT(o:Nat->List AV->Option AV):Go.bK.Call:=λf aK _ _ nv=>(o f aK).map λa=>(a,[.lf],.lf,nv)
def qq{P:Program}{o:Nat->List AV->Option AV}(h:∀f aK a,o f aK=some a->dG P f aK a):cB P (MT o):=by intro f args mem aI nv r mem' kC BU he X bR hmem _ hargs;obtain⟨a,ha,e⟩:=aJ he;simp only[eJ]at e;obtain⟨rfl,rfl,rfl,rfl⟩:=e;exact h f args a ha mem aI nv X bR hmem hargs
def ZG{P:Program}{call:Go.bK.Call}(hc:cB P call){f:Nat}{aK:List AV}{a rv:AV}{cm:List (Tr bq)}{ts:Tr Unit}{n:Nat}(hrun:call f aK [.lf] .lf 0=some (rv,cm,ts,n))(himp:gU cm 0 0 0 0 0 rv=some (a,[]))(hp:aK.all HG=true):dG P f aK a:=by
 intro mem aI nv X bR hmem hargs;obtain⟨hfn,lu⟩:=hc f aK [.lf] .lf 0 _ _ _ _ hrun X.inner bR (Ga hmem) (λ_ _=>rfl) (MN hp hargs);refine⟨hfn,lu.mono ?_⟩;rintro e w'⟨Y,u,rfl,rfl,hx,hv,hm,_,_⟩;have mD:∀b,X.old b->X.inner.old b:=λb hb=>hmem.low b hb;let W:Cx:={w:=Y.w,F:=λb o=>Y.F b o\/(¬Y.old b/\b<Y.w.heap.size),ρ:=X.ρ,old:=X.old};have hyo:Y.old=X.inner.old:=hx.base;have apU:Go.bK.Good Y cm 0 0 W:=⟨rfl,λ_ _ h=>.inl h,λh=>absurd h (by omega),λ_ cy cU e L _ hg hz hL hc o=>by obtain⟨M,hM,h2⟩:=hm.dh (.inl ⟨cy,cU,e,rfl,hg,rfl,hz⟩);rw[hL]at hM;injection hM with hM;subst hM;exact .inr ⟨(h2 hc).2,(h2 hc).1⟩⟩;have hres:VR W a u:=by
  rcases Ik hm himp hv with⟨_,hb⟩|⟨_,_,_,_,h1,_⟩|h1;.exact hb W apU
  .cases h1
  .simp at h1
 refine⟨W,_,rfl,rfl,⟨rfl,hx.below.mono mD,λb o hb=>.inl (hx.TE b o hb),λb o hb=>hx.keep b o hb,λ_ _ h=>h,λb o hb=>?_⟩,hres,KA (λb o hb=>?_) ⟨λb hb=>?_,hmem.pX.gb,FK (λb hb=>hx.below.block b (mD b (hmem.pX.gb b hb))) hmem.pX.gk⟩,bc _,λu L h=>.inl h⟩
 .rcases hb with hb|hb;.exact(hx.new b o hb).imp id λh q=>h (mD b q)
  .exact .inr λq=>hb.1 (hyo▸mD b q)
 .rcases hb with hb|hb;.exact hm.nG b o hb
  .exact hb.2
 .exact iv (hmem.low b hb) hx.below.size
def acp{P:Program}{T:Tb}(hO:∀n,cB P (fX T n)){f:Nat}{c:Callee}(U9:ru T f c)(BY:Nat.beq c.rk 65535=false){aK:List AV}{a:AV}(ha:aij c aK=some a):dG P f aK a:=by
 unfold aij at ha;split at ha;.cases ha
 rename_i ds hds;split at ha;.cases ha
 rename_i x hx;split at ha;.cases ha
 rename_i y hy;split at ha;case h_2=>cases ha
 rename_i ws yj;obtain⟨w,hw,hea⟩:=aV ha;obtain⟨⟨vs,Qe,Qb⟩,hpl⟩:=Jz hds;obtain⟨vs',h1,h2⟩:=U9 x y hy;rw[dN hx]at h1;have hf0:=Qe [];rw[dq,h1]at hf0;cases hf0;obtain⟨n0,rv,cm,ts,n,h3,h4⟩:=h2 aK Qb;obtain⟨a',himp,h7⟩:=(h4 ws yj).1 (by intro q;rw[q]at BY;cases BY) w hw 0 0 0;have haa:a'=a:=aco hea (h7 ρ0 0 []) (ZD himp);subst haa;exact ZG (hO n0) (h3 n0 (bc _)) himp hpl
def acq(call:Go.bK.Call)(f:Nat)(aK:List AV):Option AV:=match call f aK [.lf] .lf 0with
 |some (rv,cm,_,_)=>match gU cm 0 0 0 0 0 rv with|some (a,[])=>some a|_=>none
 |none=>none
def dz{P:Program}{call:Go.bK.Call}{f:Nat}(hO:cB P call){aK:List AV}{a:AV}(ha:acq call f aK=some a)(hp:aK.all HG=true):dG P f aK a:=by
 unfold acq at ha;split at ha
 .rename_i rv cm ts nv hr;split at ha;.rename_i himp;cases ha;exact ZG hO hr himp hp
  .cases ha
 .cases ha
structure tB where
 f:Nat
 aK:List AV
 a:AV
def lits:List tB->Nat->List AV->Option AV|[],_,_=>none|k::r,f,aK=>match Nat.beq k.f f&&eqL QV k.aK aK with|true=>some k.a|false=>lits r f aK
def qt{P:Program}:∀{l:List tB},(∀k∈l,dG P k.f k.aK k.a)->∀f aK a,lits l f aK=some a->dG P f aK a
 |[],_,_,_,_,h=>by cases h|k::r,hk,f,aK,a,h=>by
  unfold lits at h;split at h;.rename_i hq;rw[al]at hq;have h1:=am hq.1;have h2:=E6 aim hq.2;cases h;rw[<-h1,<-h2];exact hk k ca
  .exact qt (λk hk'=>hk k (ci _ hk')) f aK a h
def orA(x y:Nat->List AV->Option AV)(f:Nat)(aK:List AV):Option AV:=match x f aK with|some a=>some a|none=>y f aK
def xg{P:Program}{x y:Nat->List AV->Option AV}(hx:∀f aK a,x f aK=some a->dG P f aK a)(hy:∀f aK a,y f aK=some a->dG P f aK a):∀f aK a,orA x y f aK=some a->dG P f aK a:=by
 intro f aK a h;unfold orA at h;split at h;.rename_i he;cases h;exact hx _ _ _ he
 .exact hy _ _ _ h
def MU{p:Nat->Bool}:∀{l:List Nat}{f:Nat},l.all p=true->BZ l f=true->p f=true
 |[],_,_,h=>by cases h|a::r,f,h,hm=>by
  simp only[dv,al]at h;simp only[BZ,gc]at hm;rcases hm with hm|hm;.rw[<-am hm];exact h.1
  .exact MU h.2 hm
def rI{P:Program}{dw:Nat->Option TypeId}{md:Nat->bK.Mode}{tq:Nat->qu}{l l':List Nat}(hq:∀f,tq f=(Fe P dw md f).getD default)(h:l.all (λf=>(Fe P dw md f).isSome&&(KF P dw md f).isNone)=true)(hs:l'.all (BZ l)=true):Rw P dw md (zL l' tq):=by
 have key:∀f∈l',(Fe P dw md f).isSome=true/\(KF P dw md f).isNone=true:=λf hf=>by have:=MU h (eQ.1 hs f hf);simpa[al]using this
 refine Qg hq (eQ.2 λf hf=>(key f hf).1) (eQ.2 λf hf=>?_);have:=(key f hf).2;unfold Lt;split;.rename_i d he;rw[he]at this;cases this
 .rfl
end Go.Sym
namespace Go.Proofs.YtclkonemhghbkaaGreat
set_option linter.unusedVariables false
open Go Go.bK Go.Sym
set_option maxRecDepth 100000
noncomputable section
abbrev dI(n:Int):D:=.sc (.int .i64 n)
abbrev dB(n:Int):D:=.sc (.int .u8 n)
abbrev dU(n:Int):D:=.sc (.int .u64 n)
def bS(l:List Int):List (List D):=l.map λn=>[dB n]
def mdA:Nat->bK.Mode:=λf=>match f with|4=>⟨[(19,0),(32,0)],false⟩|12=>⟨[(65,4294967297),(42,4294967307),(37,4294967297),(59,4294967297)],false⟩|27=>⟨[(27,1)],false⟩|28=>⟨[(50,1)],false⟩|35=>⟨[(38,0),(80,0),(67,0)],false⟩|36=>⟨[(12,0),(24,0)],false⟩|57=>⟨[(9,458755),(34,10)],false⟩|59=>⟨[],true⟩|67=>⟨[(45,4294967296),(2,13),(29,7696581394432)],true⟩|69=>⟨[(42,0),(110,0),(88,0),(97,0),(79,0)],false⟩|71=>⟨[(35,4294967297),(12,4294967307),(7,4294967297),(29,4294967297)],true⟩|72=>⟨[(41,0)],false⟩|102=>⟨[(45,4294967296),(40,4294967297),(17,4294967307),(12,4294967297),(34,4294967297)],true⟩|103=>⟨[],true⟩|104=>⟨[(94,65537),(90,65537),(3,13),(65,7)],true⟩|105=>⟨[(6,65540),(165,65537),(141,65537),(117,65537),(93,65537),(151,65537),(103,65537),(31,65537),(16,65537),(3,13)],true⟩|106=>⟨[(133,10),(195,4295360513),(176,4295360513),(3,13),(174,7),(193,7)],true⟩|115=>⟨[(65,0),(24,0),(2,13),(42,13518495463505920),(46,13518495463505920)],false⟩|121=>⟨[(19,1),(9,65538)],false⟩|144=>⟨[(4,65540),(51,7)],true⟩|145=>⟨[],true⟩|146=>⟨[(12,65537)],true⟩|147=>⟨[],true⟩|148=>⟨[(13,65537),(8,65537)],true⟩|150=>⟨[(25,10)],true⟩|151=>⟨[],true⟩|152=>⟨[],true⟩|158=>⟨[(23,1),(6,393220)],false⟩|175=>⟨[(32,0),(93,0),(37,0),(66,0)],false⟩|176=>⟨[(19,0),(30,0),(39,0),(48,0),(57,0),(72,0)],true⟩|177=>⟨[(35,4295360513),(31,4294967307),(12,4295032834),(29,4295032834),(30,2)],true⟩|191=>⟨[(8,1),(5,1)],false⟩|248=>⟨[(65,3298534883328),(79,3298534883328),(220,3298534883328),(226,3298534883328),(241,3298534883328),(5,13)],true⟩|249=>⟨[(126,10)],true⟩|255=>⟨[(54,1),(45,2),(46,11)],true⟩|259=>⟨[(2,393220),(5,1),(3,1)],false⟩|315=>⟨[(27,10)],true⟩|316=>⟨[],true⟩|317=>⟨[(8,1)],false⟩|323=>⟨[],true⟩|333=>⟨[],true⟩|335=>⟨[],true⟩|_=>⟨[],false⟩
def tqA(f:Nat):qu:=(Fe Tryz.prog dw mdA f).getD default
def Ap(f:Nat):tqA f=(Fe Tryz.prog dw mdA f).getD default:=rfl
def MV(f:Nat)(l:List AV):Option AV:=match(G7 20000000).E.ye f with
 |some c=>match Nat.beq c.rk 65535with|true=>none|false=>aij c l
 |none=>none
def MW:Tryz.prog.follows .mixedOrders=true:=by kernel_rfl
def kO(f:Nat)(l:List AV)(a:AV)(h:MV f l=some a):dG Tryz.prog f l a:=by
 unfold MV at h;split at h
 .rename_i c hc;split at h;.cases h
  .rename_i hk;exact acp (T:=bP NQ) (λn=>lU Ru MW Bk adj n) (((G7 20000000).ok NQ).ye f c hc) hk h
 .cases h
def bA:List Nat:=[6,8,9,10,11,13,24,27,28,29,31,36,50,51,59,60,62,66,67,68,71,80,81,89,92,93,102,103,104,105,106,120,121,144,145,146,147,148,150,151,152,158,173,174,176,177,190,191,211,230,246,247,248,249,255,259,315,316,317,318,319,321,323,324,325,333,334,335]
def cA:List Nat:=[4,6,8,9,10,11,12,13,14,24,26,27,28,29,31,35,36,50,51,52,53,54,55,56,57,59,60,62,66,67,68,69,71,72,80,81,89,92,93,95,102,103,104,105,106,115,120,121,144,145,146,147,148,150,151,152,158,173,174,175,176,177,190,191,211,230,246,247,248,249,255,259,315,316,317,318,319,321,323,324,325,333,334,335]
def aA:cA.all (λf=>(Fe Tryz.prog dw mdA f).isSome&&(KF Tryz.prog dw mdA f).isNone)=true:=by kernel_rfl
def TL:Tb:=⟨zL [26,28,52,53,54,55,56,57,62,95] tqA,MT MV⟩
def ZQ(n:Nat):cB Tryz.prog (fX TL n):=lU (qq kO) MW Bk (rI (l:=cA) Ap aA (by kernel_rfl)) n
def MX:List AV:=[(.d (.sl [[dB 2,dI 0,dI 0,(.sl [])],[dB 1,dI 0,dI 0,(.sl [])],[dB 3,dI 0,dI 0,(.sl [])],[dB 4,dI 0,dI 0,(.sl [])],[dB 5,dI 0,dI 0,(.sl [[(.sc (.string ⟨#[110]⟩)),dI 0],[(.sc (.string ⟨#[111,110]⟩)),dI 1],[(.sc (.string ⟨#[97,116]⟩)),dI 3]])],[dB 6,dI 0,dI 3,(.sl [])],[dB 7,dI 0,dI 0,(.sl [])],[dB 4,dI 4,dI 0,(.sl [])]])),(.d (.sl [[(.sc (.string ⟨#[108,97,116,101]⟩))],[(.sc (.string ⟨#[116,97,115,107]⟩))],[(.sc (.string ⟨#[98,111,111,109]⟩))]])),(.d (.sl [[(.sc (.string ⟨#[109,97,105,110]⟩)),dI 0,dI (-1),(.sl [[(.sc (.string ⟨#[110]⟩)),dI 0],[(.sc (.string ⟨#[111,110]⟩)),dI 1],[(.sc (.string ⟨#[115]⟩)),dI 2],[(.sc (.string ⟨#[112]⟩)),dI 3],[(.sc (.string ⟨#[114]⟩)),dI 4],[(.sc (.string ⟨#[97]⟩)),dI 5],[(.sc (.string ⟨#[108]⟩)),dI 6],[(.sc (.string ⟨#[107]⟩)),dI 0],[(.sc (.string ⟨#[113]⟩)),dI 7]]),(.sl [[dB 1,dI 0,dI 5,dI 0],[dB 3,dI 1,dI 1,dI 0],[dB 2,dI 2,dI 0,dI 0],[dB 15,dI 3,dI 0,dI 0],[dB 4,dI 4,dI 0,dI 0],[dB 4,dI 5,dI 0,dI 0],[dB 1,dI 7,dI 2,dI 0],[dB 18,dI 6,dI 7,dI 0],[dB 15,dI 8,dI 0,dI 0],[dB 12,dI 1,dI 1,dI 0],[dB 23,dI 1,dI 12,dI 0],[dB 32,dI 7,dI 0,dI 0],[dB 34,dI (-1),dI 0,dI 0]]),(.sl [[dI 0,dU 0]]),(.sl [[dI 0,dU 0],[dI 1,dU 1],[dI 2,dU 3],[dI 3,dU 7],[dI 4,dU 15],[dI 5,dU 31],[dI 6,dU 63],[dI 7,dU 191],[dI 8,dU 255],[dI 9,dU 511],[dI 12,dU 0]])],[(.sc (.string ⟨#[119,111,114,107]⟩)),dI 1,dI 0,(.sl [[(.sc (.string ⟨#[110]⟩)),dI 0],[(.sc (.string ⟨#[107]⟩)),dI 0],[(.sc (.string ⟨#[111,110]⟩)),dI 1]]),(.sl [[dB 1,dI 1,dI 1,dI 0],[dB 10,dI 2,dI 0,dI 1],[dB 23,dI 2,dI 8,dI 0],[dB 7,dI 1,dI 0,dI 1],[dB 24,dI 1,dI 0,dI 0],[dB 25,dI 1,dI 1,dI 0],[dB 6,dI 1,dI 1,dI 0],[dB 34,dI 1,dI 0,dI 0],[dB 34,dI 0,dI 0,dI 0],[dB 34,dI (-1),dI 0,dI 0]]),(.sl [[dI 0,dU 0],[dI 5,dU 8],[dI 6,dU 0]]),(.sl [[dI 0,dU 1],[dI 1,dU 3],[dI 2,dU 7],[dI 9,dU 0]])],[(.sc (.string ⟨#[108,97,116,101]⟩)),dI 1,dI (-1),(.sl [[(.sc (.string ⟨#[110]⟩)),dI 0],[(.sc (.string ⟨#[111,110]⟩)),dI 1],[(.sc (.string ⟨#[107]⟩)),dI 0]]),(.sl [[dB 29,dI 1,dI 2,dI 0],[dB 23,dI 1,dI 4,dI 0],[dB 10,dI 1,dI 0,dI 2],[dB 23,dI 1,dI 5,dI 0],[dB 34,dI (-1),dI 0,dI 0],[dB 28,dI 0,dI 0,dI 0],[dB 34,dI (-1),dI 0,dI 0]]),(.sl [[dI 0,dU 0]]),(.sl [[dI 0,dU 1],[dI 1,dU 7],[dI 6,dU 0]])],[(.sc (.string ⟨#[116,97,115,107]⟩)),dI 1,dI (-1),(.sl [[(.sc (.string ⟨#[107]⟩)),dI 0],[(.sc (.string ⟨#[111,110]⟩)),dI 1]]),(.sl [[dB 31,dI 0,dI 0,dI 0],[dB 33,dI 1,dI 0,dI 0],[dB 23,dI 1,dI 4,dI 0],[dB 32,dI 0,dI 0,dI 0],[dB 34,dI (-1),dI 0,dI 0]]),(.sl [[dI 0,dU 0]]),(.sl [[dI 0,dU 1],[dI 2,dU 3],[dI 4,dU 0]])],[(.sc (.string ⟨#[102,97,105,108]⟩)),dI 1,dI (-1),(.sl [[(.sc (.string ⟨#[110]⟩)),dI 0]]),(.sl [[dB 28,dI 0,dI 0,dI 0],[dB 34,dI (-1),dI 0,dI 0]]),(.sl [[dI 0,dU 0]]),(.sl [[dI 0,dU 1],[dI 1,dU 0]])],[(.sc (.string ⟨#[108,101,97,118,101]⟩)),dI 0,dI (-1),(.sl []),(.sl [[dB 30,dI 0,dI 0,dI 0],[dB 34,dI (-1),dI 0,dI 0]]),(.sl [[dI 0,dU 0]]),(.sl [[dI 0,dU 0]])],[(.sc (.string ⟨#[113,117,105,101,116]⟩)),dI 0,dI (-1),(.sl [[(.sc (.string ⟨#[111,110]⟩)),dI 1],[(.sc (.string ⟨#[110]⟩)),dI 0]]),(.sl [[dB 29,dI 0,dI 1,dI 0],[dB 34,dI (-1),dI 0,dI 0]]),(.sl [[dI 0,dU 0]]),(.sl [[dI 0,dU 0]])],[(.sc (.string ⟨#[97,103,97,105,110]⟩)),dI 1,dI (-1),(.sl [[(.sc (.string ⟨#[110]⟩)),dI 0],[(.sc (.string ⟨#[111,110]⟩)),dI 1],[(.sc (.string ⟨#[107]⟩)),dI 0]]),(.sl [[dB 29,dI 1,dI 2,dI 0],[dB 28,dI 0,dI 0,dI 0],[dB 34,dI (-1),dI 0,dI 0]]),(.sl [[dI 0,dU 0]]),(.sl [[dI 0,dU 1],[dI 1,dU 7],[dI 2,dU 0]])]]))]
def M4:List AV:=[(.d (.sl [[dB 2,dI 0,dI 0,(.sl [])],[dB 1,dI 0,dI 0,(.sl [])],[dB 3,dI 0,dI 0,(.sl [])],[dB 4,dI 0,dI 0,(.sl [])],[dB 5,dI 0,dI 0,(.sl [[(.sc (.string ⟨#[110]⟩)),dI 0],[(.sc (.string ⟨#[111,110]⟩)),dI 1],[(.sc (.string ⟨#[97,116]⟩)),dI 3]])],[dB 6,dI 0,dI 3,(.sl [])],[dB 7,dI 0,dI 0,(.sl [])],[dB 4,dI 4,dI 0,(.sl [])]])),(.d (.sl [[(.sc (.string ⟨#[108,97,116,101]⟩))],[(.sc (.string ⟨#[116,97,115,107]⟩))],[(.sc (.string ⟨#[98,111,111,109]⟩))]])),(.d (.sl [[(.sc (.string ⟨#[109,97,105,110]⟩)),dI 0,dI (-1),(.sl [[(.sc (.string ⟨#[110]⟩)),dI 0],[(.sc (.string ⟨#[111,110]⟩)),dI 1],[(.sc (.string ⟨#[115]⟩)),dI 2],[(.sc (.string ⟨#[112]⟩)),dI 3],[(.sc (.string ⟨#[114]⟩)),dI 4],[(.sc (.string ⟨#[97]⟩)),dI 5],[(.sc (.string ⟨#[108]⟩)),dI 6],[(.sc (.string ⟨#[107]⟩)),dI 0],[(.sc (.string ⟨#[113]⟩)),dI 7]]),(.sl [[dB 1,dI 0,dI 5,dI 0],[dB 3,dI 1,dI 1,dI 0],[dB 2,dI 2,dI 0,dI 0],[dB 15,dI 3,dI 0,dI 0],[dB 4,dI 4,dI 0,dI 0],[dB 4,dI 5,dI 0,dI 0],[dB 1,dI 7,dI 2,dI 0],[dB 18,dI 6,dI 7,dI 0],[dB 15,dI 8,dI 0,dI 0],[dB 24,dI 7,dI 0,dI 0],[dB 27,dI 3,dI 0,dI 0],[dB 34,dI (-1),dI 0,dI 0]]),(.sl [[dI 0,dU 0],[dI 10,dU 8],[dI 11,dU 0]]),(.sl [[dI 0,dU 0],[dI 1,dU 1],[dI 2,dU 3],[dI 3,dU 7],[dI 4,dU 15],[dI 5,dU 31],[dI 6,dU 63],[dI 7,dU 191],[dI 8,dU 255],[dI 9,dU 511],[dI 11,dU 0]])],[(.sc (.string ⟨#[119,111,114,107]⟩)),dI 1,dI 0,(.sl [[(.sc (.string ⟨#[110]⟩)),dI 0],[(.sc (.string ⟨#[107]⟩)),dI 0],[(.sc (.string ⟨#[111,110]⟩)),dI 1]]),(.sl [[dB 1,dI 1,dI 1,dI 0],[dB 10,dI 2,dI 0,dI 1],[dB 23,dI 2,dI 8,dI 0],[dB 7,dI 1,dI 0,dI 1],[dB 24,dI 1,dI 0,dI 0],[dB 25,dI 1,dI 1,dI 0],[dB 6,dI 1,dI 1,dI 0],[dB 34,dI 1,dI 0,dI 0],[dB 34,dI 0,dI 0,dI 0],[dB 34,dI (-1),dI 0,dI 0]]),(.sl [[dI 0,dU 0],[dI 5,dU 8],[dI 6,dU 0]]),(.sl [[dI 0,dU 1],[dI 1,dU 3],[dI 2,dU 7],[dI 9,dU 0]])],[(.sc (.string ⟨#[108,97,116,101]⟩)),dI 1,dI (-1),(.sl [[(.sc (.string ⟨#[110]⟩)),dI 0],[(.sc (.string ⟨#[111,110]⟩)),dI 1],[(.sc (.string ⟨#[107]⟩)),dI 0]]),(.sl [[dB 29,dI 1,dI 2,dI 0],[dB 23,dI 1,dI 4,dI 0],[dB 10,dI 1,dI 0,dI 2],[dB 23,dI 1,dI 5,dI 0],[dB 34,dI (-1),dI 0,dI 0],[dB 28,dI 0,dI 0,dI 0],[dB 34,dI (-1),dI 0,dI 0]]),(.sl [[dI 0,dU 0]]),(.sl [[dI 0,dU 1],[dI 1,dU 7],[dI 6,dU 0]])],[(.sc (.string ⟨#[116,97,115,107]⟩)),dI 1,dI (-1),(.sl [[(.sc (.string ⟨#[107]⟩)),dI 0],[(.sc (.string ⟨#[111,110]⟩)),dI 1]]),(.sl [[dB 31,dI 0,dI 0,dI 0],[dB 33,dI 1,dI 0,dI 0],[dB 23,dI 1,dI 4,dI 0],[dB 32,dI 0,dI 0,dI 0],[dB 34,dI (-1),dI 0,dI 0]]),(.sl [[dI 0,dU 0]]),(.sl [[dI 0,dU 1],[dI 2,dU 3],[dI 4,dU 0]])],[(.sc (.string ⟨#[102,97,105,108]⟩)),dI 1,dI (-1),(.sl [[(.sc (.string ⟨#[110]⟩)),dI 0]]),(.sl [[dB 28,dI 0,dI 0,dI 0],[dB 34,dI (-1),dI 0,dI 0]]),(.sl [[dI 0,dU 0]]),(.sl [[dI 0,dU 1],[dI 1,dU 0]])],[(.sc (.string ⟨#[108,101,97,118,101]⟩)),dI 0,dI (-1),(.sl []),(.sl [[dB 30,dI 0,dI 0,dI 0],[dB 34,dI (-1),dI 0,dI 0]]),(.sl [[dI 0,dU 0]]),(.sl [[dI 0,dU 0]])],[(.sc (.string ⟨#[113,117,105,101,116]⟩)),dI 0,dI (-1),(.sl [[(.sc (.string ⟨#[111,110]⟩)),dI 1],[(.sc (.string ⟨#[110]⟩)),dI 0]]),(.sl [[dB 29,dI 0,dI 1,dI 0],[dB 34,dI (-1),dI 0,dI 0]]),(.sl [[dI 0,dU 0]]),(.sl [[dI 0,dU 0]])],[(.sc (.string ⟨#[97,103,97,105,110]⟩)),dI 1,dI (-1),(.sl [[(.sc (.string ⟨#[110]⟩)),dI 0],[(.sc (.string ⟨#[111,110]⟩)),dI 1],[(.sc (.string ⟨#[107]⟩)),dI 0]]),(.sl [[dB 29,dI 1,dI 2,dI 0],[dB 28,dI 0,dI 0,dI 0],[dB 34,dI (-1),dI 0,dI 0]]),(.sl [[dI 0,dU 0]]),(.sl [[dI 0,dU 1],[dI 1,dU 7],[dI 2,dU 0]])]]))]
def li0:tB:=⟨16,[.agg MX],.d (dI 0)⟩
def li1:tB:=⟨26,[(.d (.sl [[dI 6],[dI 31]]))],.agg MX⟩
def li2:tB:=⟨91,[.agg MX],.d (dI 0)⟩
def li3:tB:=⟨46,[.agg MX],.d (dI 0)⟩
def li4:tB:=⟨16,[.agg M4],.d (dI 0)⟩
def li5:tB:=⟨26,[(.d (.sl [[dI 27]]))],.agg M4⟩
def li6:tB:=⟨91,[.agg M4],.d (dI 0)⟩
def li7:tB:=⟨46,[.agg M4],.d (dI 0)⟩
def liA:List tB:=[li0,li1,li2,li3,li4,li5,li6,li7]
end
end Go.Proofs.YtclkonemhghbkaaGreat
namespace Go.Proofs.YtclkonemhghbkaaGreat
set_option linter.unusedVariables false
open Go Go.bK Go.Sym
set_option maxRecDepth 100000
noncomputable section
def la0:dG Tryz.prog li0.f li0.aK li0.a:=kO _ _ _ (by kernel_rfl)
def la1:dG Tryz.prog li1.f li1.aK li1.a:=dz (ZQ 20000) (by kernel_rfl) (by kernel_rfl)
def la2:dG Tryz.prog li2.f li2.aK li2.a:=kO _ _ _ (by kernel_rfl)
def la3:dG Tryz.prog li3.f li3.aK li3.a:=kO _ _ _ (by kernel_rfl)
end
end Go.Proofs.YtclkonemhghbkaaGreat
namespace Go.Proofs.YtclkonemhghbkaaGreat
set_option linter.unusedVariables false
open Go Go.bK Go.Sym
set_option maxRecDepth 100000
noncomputable section
def la4:dG Tryz.prog li4.f li4.aK li4.a:=kO _ _ _ (by kernel_rfl)
def la5:dG Tryz.prog li5.f li5.aK li5.a:=dz (ZQ 20000) (by kernel_rfl) (by kernel_rfl)
def la6:dG Tryz.prog li6.f li6.aK li6.a:=kO _ _ _ (by kernel_rfl)
def la7:dG Tryz.prog li7.f li7.aK li7.a:=kO _ _ _ (by kernel_rfl)
end
end Go.Proofs.YtclkonemhghbkaaGreat
namespace Go.Proofs.YtclkonemhghbkaaGreat
set_option linter.unusedVariables false
open Go Go.bK Go.Sym
set_option maxRecDepth 100000
noncomputable section
def E7:∀k∈liA,dG Tryz.prog k.f k.aK k.a:=by
 intro k hk;simp only[liA,dj,dC,km]at hk;rcases hk with rfl|rfl|rfl|rfl|rfl|rfl|rfl|rfl;.exact la0
 .exact la1
 .exact la2
 .exact la3
 .exact la4
 .exact la5
 .exact la6
 .exact la7
def TA0:Tb:=⟨zL ([69,175]++bA) tqA,MT (orA (lits liA) MV)⟩
def apV(n:Nat):cB Tryz.prog (fX TA0 n):=lU (qq (xg (qt E7) kO)) MW Bk (rI (l:=cA) Ap aA (by kernel_rfl)) n
def TA1:Tb:=⟨zL ([35,115]++bA) tqA,vo (KD [69,175] (KB (fX TA0 20000))) (MT (orA (lits liA) MV))⟩
def avG(n:Nat):cB Tryz.prog (fX TA1 n):=lU (II (IJ (cS (apV 20000))) (qq (xg (qt E7) kO))) MW Bk (rI (l:=cA) Ap aA (by kernel_rfl)) n
def TS:Tb:=⟨zL ([12,72]++bA) tqA,vo (KD [35,115] (KB (fX TA1 20000))) (vo (KD [69,175] (KB (fX TA0 20000))) (MT (orA (lits liA) MV)))⟩
def Cu(n:Nat):cB Tryz.prog (fX TS n):=lU (II (IJ (cS (avG 20000))) (II (IJ (cS (apV 20000))) (qq (xg (qt E7) kO)))) MW Bk (rI (l:=cA) Ap aA (by kernel_rfl)) n
def ms0:List AV:=MX++[.d (dI 1000),.d (dI 2048),.d (dI 4096),.d (dI 4),.d (dU 65536),(.d (.sl (bS [108,97,116,101,0,0,0,0,116,97,115,107,0,0,0,0,98,111,111,109,0,0,0,0]))),(.d (.sl [[dU 16777216,(.sl (bS [0,0,0,0,0,0,0,0,0,0,0,0,0,0,0,0,0,0,0,0,0,0,0,0,0,0,0,0,0,0,0,0,0,0,0,0,0,0,0,0,0,0,0,0,0,0,0,0,0,0,0,0,0,0,0,0,0,0,0,0,0,0,0,0,0,0,0,0,0,0,0,0,0,0,0,0,0,0,0,0,0,0,0,0,0,0,0,0,0,0,0,0,0,0,0,0,0,0,0,0,0,0,0,0,0,0,0,0,0,0,0,0,0,0,0,0,0,0,0,0,0,0,0,0,0,0,0,0,0,0,0,0,0,0,0,0,0,0,0,0,0,0,0,0,0,0,0,0,0,0,0,0]))]])),(.d (.sl [[dB 1,dU 256,dU 16777368,dU 0,dU 0,dI 0]])),.d (dI 0)]
def ms1:List AV:=MX++[.d (dI 1000),.d (dI 2048),.d (dI 4096),.d (dI 4),.d (dU 65536),(.d (.sl (bS [108,97,116,101,0,0,0,0,116,97,115,107,0,0,0,0,98,111,111,109,0,0,0,0]))),(.d (.sl [[dU 16777216,(.sl (bS [0,0,0,0,0,0,0,0,0,0,0,0,0,0,0,0,0,0,0,0,0,0,0,0,5,0,0,0,0,0,0,0,0,0,0,0,0,0,0,0,0,0,0,0,0,0,0,0,0,0,0,0,0,0,0,0,0,0,0,0,0,0,0,0,0,0,0,0,0,0,0,0,0,0,0,0,0,0,0,0,0,0,0,0,0,0,0,0,0,0,0,0,0,0,0,0,0,0,0,0,0,0,0,0,0,0,0,0,0,0,0,0,0,0,0,0,0,0,0,0,0,0,0,0,0,0,0,0,0,0,0,0,0,0,0,0,0,0,0,0,0,0,0,0,0,0,0,0,0,0,0,0]))]])),(.d (.sl [[dB 1,dU 257,dU 16777368,dU 0,dU 0,dI 0]])),.d (dI 1)]
def ms2:List AV:=MX++[.d (dI 1000),.d (dI 2048),.d (dI 4096),.d (dI 4),.d (dU 65536),(.d (.sl (bS [108,97,116,101,0,0,0,0,116,97,115,107,0,0,0,0,98,111,111,109,0,0,0,0]))),(.d (.sl [[dU 16777216,(.sl (bS [0,0,0,0,0,0,0,0,0,0,0,0,0,0,0,0,0,0,0,0,0,0,0,0,5,0,0,0,0,0,0,0,1,0,0,0,0,0,0,0,0,0,0,0,0,0,0,0,0,0,0,0,0,0,0,0,0,0,0,0,0,0,0,0,0,0,0,0,0,0,0,0,0,0,0,0,0,0,0,0,0,0,0,0,0,0,0,0,0,0,0,0,0,0,0,0,0,0,0,0,0,0,0,0,0,0,0,0,0,0,0,0,0,0,0,0,0,0,0,0,0,0,0,0,0,0,0,0,0,0,0,0,0,0,0,0,0,0,0,0,0,0,0,0,0,0,0,0,0,0,0,0]))]])),(.d (.sl [[dB 1,dU 258,dU 16777368,dU 0,dU 0,dI 0]])),.d (dI 2)]
def ms3:List AV:=MX++[.d (dI 1000),.d (dI 2048),.d (dI 4096),.d (dI 4),.d (dU 65536),(.d (.sl (bS [108,97,116,101,0,0,0,0,116,97,115,107,0,0,0,0,98,111,111,109,0,0,0,0]))),(.d (.sl [[dU 16777216,(.sl (bS [0,0,0,0,0,0,0,0,0,0,0,0,0,0,0,0,0,0,0,0,0,0,0,0,5,0,0,0,0,0,0,0,1,0,0,0,0,0,0,0,0,0,1,0,0,0,0,0,4,0,0,0,0,0,0,0,0,0,0,0,0,0,0,0,0,0,0,0,0,0,0,0,0,0,0,0,0,0,0,0,0,0,0,0,0,0,0,0,0,0,0,0,0,0,0,0,0,0,0,0,0,0,0,0,0,0,0,0,0,0,0,0,0,0,0,0,0,0,0,0,0,0,0,0,0,0,0,0,0,0,0,0,0,0,0,0,0,0,0,0,0,0,0,0,0,0,0,0,0,0,0,0]))]])),(.d (.sl [[dB 1,dU 259,dU 16777368,dU 0,dU 0,dI 0]])),.d (dI 3)]
def ms4:List AV:=MX++[.d (dI 1000),.d (dI 2048),.d (dI 4096),.d (dI 4),.d (dU 65536),(.d (.sl (bS [108,97,116,101,0,0,0,0,116,97,115,107,0,0,0,0,98,111,111,109,0,0,0,0,0,0,0,0,0,0,0,0]))),(.d (.sl [[dU 16777216,(.sl (bS [0,0,0,0,0,0,0,0,0,0,0,0,0,0,0,0,0,0,0,0,0,0,0,0,5,0,0,0,0,0,0,0,1,0,0,0,0,0,0,0,0,0,1,0,0,0,0,0,4,0,0,0,0,0,0,0,24,0,1,0,0,0,0,0,0,0,0,0,0,0,0,0,0,0,0,0,0,0,0,0,0,0,0,0,0,0,0,0,0,0,0,0,0,0,0,0,0,0,0,0,0,0,0,0,0,0,0,0,0,0,0,0,0,0,0,0,0,0,0,0,0,0,0,0,0,0,0,0,0,0,0,0,0,0,0,0,0,0,0,0,0,0,0,0,0,0,0,0,0,0,0,0]))]])),(.d (.sl [[dB 1,dU 260,dU 16777368,dU 0,dU 0,dI 0]])),.d (dI 4)]
def ms5:List AV:=MX++[.d (dI 1000),.d (dI 2048),.d (dI 4096),.d (dI 4),.d (dU 65536),(.d (.sl (bS [108,97,116,101,0,0,0,0,116,97,115,107,0,0,0,0,98,111,111,109,0,0,0,0,0,0,0,0,0,0,0,0]))),(.d (.sl [[dU 16777216,(.sl (bS [0,0,0,0,0,0,0,0,0,0,0,0,0,0,0,0,0,0,0,0,0,0,0,0,5,0,0,0,0,0,0,0,1,0,0,0,0,0,0,0,0,0,1,0,0,0,0,0,4,0,0,0,0,0,0,0,24,0,1,0,0,0,0,0,0,0,0,0,0,0,0,0,0,0,0,0,0,0,0,0,0,0,0,0,0,0,0,0,0,0,0,0,0,0,0,0,0,0,0,0,0,0,0,0,0,0,0,0,0,0,0,0,0,0,0,0,0,0,0,0,0,0,0,0,0,0,0,0,0,0,0,0,0,0,0,0,0,0,0,0,0,0,0,0,0,0,0,0,0,0,0,0]))]])),(.d (.sl [[dB 1,dU 261,dU 16777368,dU 0,dU 0,dI 0]])),.d (dI 5)]
def ms6:List AV:=MX++[.d (dI 1000),.d (dI 2048),.d (dI 4096),.d (dI 4),.d (dU 65536),(.d (.sl (bS [108,97,116,101,0,0,0,0,116,97,115,107,0,0,0,0,98,111,111,109,0,0,0,0,0,0,0,0,0,0,0,0]))),(.d (.sl [[dU 16777216,(.sl (bS [0,0,0,0,0,0,0,0,0,0,0,0,0,0,0,0,0,0,0,0,0,0,0,0,5,0,0,0,0,0,0,0,1,0,0,0,0,0,0,0,0,0,1,0,0,0,0,0,4,0,0,0,0,0,0,0,24,0,1,0,0,0,0,0,0,0,0,0,0,0,0,0,0,0,0,0,0,0,0,0,0,0,0,0,0,0,0,0,0,0,0,0,0,0,0,0,0,0,0,0,0,0,0,0,0,0,0,0,0,0,0,0,0,0,0,0,0,0,0,0,0,0,0,0,0,0,0,0,0,0,0,0,0,0,0,0,0,0,0,0,0,0,0,0,0,0,0,0,0,0,0,0]))]])),(.d (.sl [[dB 1,dU 262,dU 16777368,dU 0,dU 0,dI 0]])),.d (dI 6)]
def ms7:List AV:=MX++[.d (dI 1000),.d (dI 2048),.d (dI 4096),.d (dI 4),.d (dU 65536),(.d (.sl (bS [108,97,116,101,0,0,0,0,116,97,115,107,0,0,0,0,98,111,111,109,0,0,0,0,0,0,0,0,0,0,0,0]))),(.d (.sl [[dU 16777216,(.sl (bS [0,0,0,0,0,0,0,0,0,0,0,0,0,0,0,0,0,0,0,0,0,0,0,0,5,0,0,0,0,0,0,0,1,0,0,0,0,0,0,0,0,0,1,0,0,0,0,0,4,0,0,0,0,0,0,0,24,0,1,0,0,0,0,0,0,0,0,0,0,0,0,0,0,0,0,0,0,0,0,0,0,0,0,0,0,0,0,0,0,0,0,0,0,0,0,0,0,0,0,0,0,0,0,0,0,0,0,0,0,0,0,0,0,0,0,0,0,0,0,0,0,0,0,0,0,0,0,0,0,0,0,0,0,0,0,0,2,0,0,0,0,0,0,0,0,0,0,0,0,0,0,0]))]])),(.d (.sl [[dB 1,dU 263,dU 16777368,dU 0,dU 0,dI 0]])),.d (dI 7)]
def ms8:List AV:=MX++[.d (dI 1000),.d (dI 2048),.d (dI 4096),.d (dI 4),.d (dU 65536),(.d (.sl (bS [108,97,116,101,0,0,0,0,116,97,115,107,0,0,0,0,98,111,111,109,0,0,0,0,0,0,0,0,0,0,0,0,0,0,0,0,0,0,0,0,0,0,0,0,0,0,0,0]))),(.d (.sl [[dU 16777216,(.sl (bS [0,0,0,0,0,0,0,0,0,0,0,0,0,0,0,0,0,0,0,0,0,0,0,0,5,0,0,0,0,0,0,0,1,0,0,0,0,0,0,0,0,0,1,0,0,0,0,0,4,0,0,0,0,0,0,0,24,0,1,0,0,0,0,0,0,0,0,0,0,0,0,0,0,0,0,0,0,0,0,0,0,0,0,0,0,0,0,0,0,0,0,0,0,0,0,0,0,0,0,0,0,0,0,0,0,0,0,0,0,0,0,0,32,0,1,0,0,0,0,0,2,0,0,0,0,0,0,0,2,0,0,0,0,0,0,0,2,0,0,0,0,0,0,0,0,0,0,0,0,0,0,0]))]])),(.d (.sl [[dB 1,dU 264,dU 16777368,dU 0,dU 0,dI 0]])),.d (dI 8)]
def ms9:List AV:=MX++[.d (dI 1000),.d (dI 2048),.d (dI 4096),.d (dI 4),.d (dU 65536),(.d (.sl (bS [108,97,116,101,0,0,0,0,116,97,115,107,0,0,0,0,98,111,111,109,0,0,0,0,0,0,0,0,0,0,0,0,0,0,0,0,0,0,0,0,0,0,0,0,0,0,0,0,0,0,0,0,0,0,0,0,0,0,0,0,0,0,0,0,0,0,0,0,0,0,0,0]))),(.d (.sl [[dU 16777216,(.sl (bS [0,0,0,0,0,0,0,0,0,0,0,0,0,0,0,0,0,0,0,0,0,0,0,0,5,0,0,0,0,0,0,0,1,0,0,0,0,0,0,0,0,0,1,0,0,0,0,0,4,0,0,0,0,0,0,0,24,0,1,0,0,0,0,0,0,0,0,0,0,0,0,0,0,0,0,0,0,0,0,0,0,0,0,0,0,0,0,0,0,0,0,0,0,0,0,0,0,0,0,0,0,0,0,0,0,0,0,0,0,0,0,0,32,0,1,0,0,0,0,0,2,0,0,0,0,0,0,0,2,0,0,0,0,0,0,0,2,0,0,0,0,0,0,0,48,0,1,0,0,0,0,0]))]])),(.d (.sl [[dB 1,dU 265,dU 16777368,dU 0,dU 0,dI 0]])),.d (dI 9)]
def apW:List AV:=MX++[.d (dI 1000),.d (dI 2048),.d (dI 4096),.d (dI 4),.d (dU 65536),(.d (.sl (bS [108,97,116,101,0,0,0,0,116,97,115,107,0,0,0,0,98,111,111,109,0,0,0,0,0,0,0,0,0,0,0,0,0,0,0,0,0,0,0,0,0,0,0,0,0,0,0,0,0,0,0,0,0,0,0,0,0,0,0,0,0,0,0,0,0,0,0,0,0,0,0,0]))),(.d (.sl [[dU 16777216,(.sl (bS [0,0,0,0,0,0,0,0,0,0,0,0,0,0,0,0,0,0,0,0,0,0,0,0,5,0,0,0,0,0,0,0,0,0,0,0,0,0,0,0,0,0,1,0,0,0,0,0,4,0,0,0,0,0,0,0,24,0,1,0,0,0,0,0,0,0,0,0,0,0,0,0,0,0,0,0,0,0,0,0,0,0,0,0,0,0,0,0,0,0,0,0,0,0,0,0,0,0,0,0,0,0,0,0,0,0,0,0,0,0,0,0,32,0,1,0,0,0,0,0,2,0,0,0,0,0,0,0,2,0,0,0,0,0,0,0,2,0,0,0,0,0,0,0,48,0,1,0,0,0,0,0]))]])),(.d (.sl [[dB 1,dU 266,dU 16777368,dU 0,dU 0,dI 0]])),.d (dI 10)]
def apX:List AV:=MX++[.d (dI 1000),.d (dI 2048),.d (dI 4096),.d (dI 4),.d (dU 65536),(.d (.sl (bS [108,97,116,101,0,0,0,0,116,97,115,107,0,0,0,0,98,111,111,109,0,0,0,0,0,0,0,0,0,0,0,0,0,0,0,0,0,0,0,0,0,0,0,0,0,0,0,0,0,0,0,0,0,0,0,0,0,0,0,0,0,0,0,0,0,0,0,0,0,0,0,0]))),(.d (.sl [[dU 16777216,(.sl (bS [0,0,0,0,0,0,0,0,0,0,0,0,0,0,0,0,0,0,0,0,0,0,0,0,5,0,0,0,0,0,0,0,0,0,0,0,0,0,0,0,0,0,1,0,0,0,0,0,4,0,0,0,0,0,0,0,24,0,1,0,0,0,0,0,0,0,0,0,0,0,0,0,0,0,0,0,0,0,0,0,0,0,0,0,0,0,0,0,0,0,0,0,0,0,0,0,0,0,0,0,0,0,0,0,0,0,0,0,0,0,0,0,32,0,1,0,0,0,0,0,2,0,0,0,0,0,0,0,2,0,0,0,0,0,0,0,2,0,0,0,0,0,0,0,48,0,1,0,0,0,0,0]))]])),(.d (.sl [[dB 1,dU 267,dU 16777368,dU 0,dU 0,dI 0]])),.d (dI 11)]
def aip:List AV:=MX++[.d (dI 1000),.d (dI 2048),.d (dI 4096),.d (dI 4),.d (dU 65536),(.d (.sl (bS [108,97,116,101,0,0,0,0,116,97,115,107,0,0,0,0,98,111,111,109,0,0,0,0,0,0,0,0,0,0,0,0,0,0,0,0,0,0,0,0,0,0,0,0,0,0,0,0,0,0,0,0,0,0,0,0,0,0,0,0,0,0,0,0,0,0,0,0,0,0,0,0]))),(.d (.sl [[dU 16777216,(.sl (bS [0,0,0,0,0,0,0,0,0,0,0,0,0,0,0,0,0,0,0,0,0,0,0,0,5,0,0,0,0,0,0,0,0,0,0,0,0,0,0,0,0,0,1,0,0,0,0,0,4,0,0,0,0,0,0,0,24,0,1,0,0,0,0,0,0,0,0,0,0,0,0,0,0,0,0,0,0,0,0,0,0,0,0,0,0,0,0,0,0,0,0,0,0,0,0,0,0,0,0,0,0,0,0,0,0,0,0,0,0,0,0,0,32,0,1,0,0,0,0,0,2,0,0,0,0,0,0,0,2,0,0,0,0,0,0,0,2,0,0,0,0,0,0,0,48,0,1,0,0,0,0,0]))]])),(.d (.sl [[dB 2,dU 268,dU 16777368,dU 0,dU 0,dI 2]])),.d (dI 12)]
def avH:List AV:=M4++[.d (dI 1000),.d (dI 2048),.d (dI 4096),.d (dI 4),.d (dU 65536),(.d (.sl (bS [108,97,116,101,0,0,0,0,116,97,115,107,0,0,0,0,98,111,111,109,0,0,0,0]))),(.d (.sl [[dU 16777216,(.sl (bS [0,0,0,0,0,0,0,0,0,0,0,0,0,0,0,0,0,0,0,0,0,0,0,0,0,0,0,0,0,0,0,0,0,0,0,0,0,0,0,0,0,0,0,0,0,0,0,0,0,0,0,0,0,0,0,0,0,0,0,0,0,0,0,0,0,0,0,0,0,0,0,0,0,0,0,0,0,0,0,0,0,0,0,0,0,0,0,0,0,0,0,0,0,0,0,0,0,0,0,0,0,0,0,0,0,0,0,0,0,0,0,0,0,0,0,0,0,0,0,0,0,0,0,0,0,0,0,0,0,0,0,0,0,0,0,0,0,0,0,0,0,0,0,0,0,0,0,0,0,0,0,0]))]])),(.d (.sl [[dB 1,dU 256,dU 16777368,dU 0,dU 0,dI 0]])),.d (dI 0)]
def apY:List AV:=M4++[.d (dI 1000),.d (dI 2048),.d (dI 4096),.d (dI 4),.d (dU 65536),(.d (.sl (bS [108,97,116,101,0,0,0,0,116,97,115,107,0,0,0,0,98,111,111,109,0,0,0,0]))),(.d (.sl [[dU 16777216,(.sl (bS [0,0,0,0,0,0,0,0,0,0,0,0,0,0,0,0,0,0,0,0,0,0,0,0,5,0,0,0,0,0,0,0,0,0,0,0,0,0,0,0,0,0,0,0,0,0,0,0,0,0,0,0,0,0,0,0,0,0,0,0,0,0,0,0,0,0,0,0,0,0,0,0,0,0,0,0,0,0,0,0,0,0,0,0,0,0,0,0,0,0,0,0,0,0,0,0,0,0,0,0,0,0,0,0,0,0,0,0,0,0,0,0,0,0,0,0,0,0,0,0,0,0,0,0,0,0,0,0,0,0,0,0,0,0,0,0,0,0,0,0,0,0,0,0,0,0,0,0,0,0,0,0]))]])),(.d (.sl [[dB 1,dU 257,dU 16777368,dU 0,dU 0,dI 0]])),.d (dI 1)]
def apZ:List AV:=M4++[.d (dI 1000),.d (dI 2048),.d (dI 4096),.d (dI 4),.d (dU 65536),(.d (.sl (bS [108,97,116,101,0,0,0,0,116,97,115,107,0,0,0,0,98,111,111,109,0,0,0,0]))),(.d (.sl [[dU 16777216,(.sl (bS [0,0,0,0,0,0,0,0,0,0,0,0,0,0,0,0,0,0,0,0,0,0,0,0,5,0,0,0,0,0,0,0,1,0,0,0,0,0,0,0,0,0,0,0,0,0,0,0,0,0,0,0,0,0,0,0,0,0,0,0,0,0,0,0,0,0,0,0,0,0,0,0,0,0,0,0,0,0,0,0,0,0,0,0,0,0,0,0,0,0,0,0,0,0,0,0,0,0,0,0,0,0,0,0,0,0,0,0,0,0,0,0,0,0,0,0,0,0,0,0,0,0,0,0,0,0,0,0,0,0,0,0,0,0,0,0,0,0,0,0,0,0,0,0,0,0,0,0,0,0,0,0]))]])),(.d (.sl [[dB 1,dU 258,dU 16777368,dU 0,dU 0,dI 0]])),.d (dI 2)]
def ap0:List AV:=M4++[.d (dI 1000),.d (dI 2048),.d (dI 4096),.d (dI 4),.d (dU 65536),(.d (.sl (bS [108,97,116,101,0,0,0,0,116,97,115,107,0,0,0,0,98,111,111,109,0,0,0,0]))),(.d (.sl [[dU 16777216,(.sl (bS [0,0,0,0,0,0,0,0,0,0,0,0,0,0,0,0,0,0,0,0,0,0,0,0,5,0,0,0,0,0,0,0,1,0,0,0,0,0,0,0,0,0,1,0,0,0,0,0,4,0,0,0,0,0,0,0,0,0,0,0,0,0,0,0,0,0,0,0,0,0,0,0,0,0,0,0,0,0,0,0,0,0,0,0,0,0,0,0,0,0,0,0,0,0,0,0,0,0,0,0,0,0,0,0,0,0,0,0,0,0,0,0,0,0,0,0,0,0,0,0,0,0,0,0,0,0,0,0,0,0,0,0,0,0,0,0,0,0,0,0,0,0,0,0,0,0,0,0,0,0,0,0]))]])),(.d (.sl [[dB 1,dU 259,dU 16777368,dU 0,dU 0,dI 0]])),.d (dI 3)]
def ap1:List AV:=M4++[.d (dI 1000),.d (dI 2048),.d (dI 4096),.d (dI 4),.d (dU 65536),(.d (.sl (bS [108,97,116,101,0,0,0,0,116,97,115,107,0,0,0,0,98,111,111,109,0,0,0,0,0,0,0,0,0,0,0,0]))),(.d (.sl [[dU 16777216,(.sl (bS [0,0,0,0,0,0,0,0,0,0,0,0,0,0,0,0,0,0,0,0,0,0,0,0,5,0,0,0,0,0,0,0,1,0,0,0,0,0,0,0,0,0,1,0,0,0,0,0,4,0,0,0,0,0,0,0,24,0,1,0,0,0,0,0,0,0,0,0,0,0,0,0,0,0,0,0,0,0,0,0,0,0,0,0,0,0,0,0,0,0,0,0,0,0,0,0,0,0,0,0,0,0,0,0,0,0,0,0,0,0,0,0,0,0,0,0,0,0,0,0,0,0,0,0,0,0,0,0,0,0,0,0,0,0,0,0,0,0,0,0,0,0,0,0,0,0,0,0,0,0,0,0]))]])),(.d (.sl [[dB 1,dU 260,dU 16777368,dU 0,dU 0,dI 0]])),.d (dI 4)]
def ap2:List AV:=M4++[.d (dI 1000),.d (dI 2048),.d (dI 4096),.d (dI 4),.d (dU 65536),(.d (.sl (bS [108,97,116,101,0,0,0,0,116,97,115,107,0,0,0,0,98,111,111,109,0,0,0,0,0,0,0,0,0,0,0,0]))),(.d (.sl [[dU 16777216,(.sl (bS [0,0,0,0,0,0,0,0,0,0,0,0,0,0,0,0,0,0,0,0,0,0,0,0,5,0,0,0,0,0,0,0,1,0,0,0,0,0,0,0,0,0,1,0,0,0,0,0,4,0,0,0,0,0,0,0,24,0,1,0,0,0,0,0,0,0,0,0,0,0,0,0,0,0,0,0,0,0,0,0,0,0,0,0,0,0,0,0,0,0,0,0,0,0,0,0,0,0,0,0,0,0,0,0,0,0,0,0,0,0,0,0,0,0,0,0,0,0,0,0,0,0,0,0,0,0,0,0,0,0,0,0,0,0,0,0,0,0,0,0,0,0,0,0,0,0,0,0,0,0,0,0]))]])),(.d (.sl [[dB 1,dU 261,dU 16777368,dU 0,dU 0,dI 0]])),.d (dI 5)]
def ap3:List AV:=M4++[.d (dI 1000),.d (dI 2048),.d (dI 4096),.d (dI 4),.d (dU 65536),(.d (.sl (bS [108,97,116,101,0,0,0,0,116,97,115,107,0,0,0,0,98,111,111,109,0,0,0,0,0,0,0,0,0,0,0,0]))),(.d (.sl [[dU 16777216,(.sl (bS [0,0,0,0,0,0,0,0,0,0,0,0,0,0,0,0,0,0,0,0,0,0,0,0,5,0,0,0,0,0,0,0,1,0,0,0,0,0,0,0,0,0,1,0,0,0,0,0,4,0,0,0,0,0,0,0,24,0,1,0,0,0,0,0,0,0,0,0,0,0,0,0,0,0,0,0,0,0,0,0,0,0,0,0,0,0,0,0,0,0,0,0,0,0,0,0,0,0,0,0,0,0,0,0,0,0,0,0,0,0,0,0,0,0,0,0,0,0,0,0,0,0,0,0,0,0,0,0,0,0,0,0,0,0,0,0,0,0,0,0,0,0,0,0,0,0,0,0,0,0,0,0]))]])),(.d (.sl [[dB 1,dU 262,dU 16777368,dU 0,dU 0,dI 0]])),.d (dI 6)]
def ap4:List AV:=M4++[.d (dI 1000),.d (dI 2048),.d (dI 4096),.d (dI 4),.d (dU 65536),(.d (.sl (bS [108,97,116,101,0,0,0,0,116,97,115,107,0,0,0,0,98,111,111,109,0,0,0,0,0,0,0,0,0,0,0,0]))),(.d (.sl [[dU 16777216,(.sl (bS [0,0,0,0,0,0,0,0,0,0,0,0,0,0,0,0,0,0,0,0,0,0,0,0,5,0,0,0,0,0,0,0,1,0,0,0,0,0,0,0,0,0,1,0,0,0,0,0,4,0,0,0,0,0,0,0,24,0,1,0,0,0,0,0,0,0,0,0,0,0,0,0,0,0,0,0,0,0,0,0,0,0,0,0,0,0,0,0,0,0,0,0,0,0,0,0,0,0,0,0,0,0,0,0,0,0,0,0,0,0,0,0,0,0,0,0,0,0,0,0,0,0,0,0,0,0,0,0,0,0,0,0,0,0,0,0,2,0,0,0,0,0,0,0,0,0,0,0,0,0,0,0]))]])),(.d (.sl [[dB 1,dU 263,dU 16777368,dU 0,dU 0,dI 0]])),.d (dI 7)]
def ap5:List AV:=M4++[.d (dI 1000),.d (dI 2048),.d (dI 4096),.d (dI 4),.d (dU 65536),(.d (.sl (bS [108,97,116,101,0,0,0,0,116,97,115,107,0,0,0,0,98,111,111,109,0,0,0,0,0,0,0,0,0,0,0,0,0,0,0,0,0,0,0,0,0,0,0,0,0,0,0,0]))),(.d (.sl [[dU 16777216,(.sl (bS [0,0,0,0,0,0,0,0,0,0,0,0,0,0,0,0,0,0,0,0,0,0,0,0,5,0,0,0,0,0,0,0,1,0,0,0,0,0,0,0,0,0,1,0,0,0,0,0,4,0,0,0,0,0,0,0,24,0,1,0,0,0,0,0,0,0,0,0,0,0,0,0,0,0,0,0,0,0,0,0,0,0,0,0,0,0,0,0,0,0,0,0,0,0,0,0,0,0,0,0,0,0,0,0,0,0,0,0,0,0,0,0,32,0,1,0,0,0,0,0,2,0,0,0,0,0,0,0,2,0,0,0,0,0,0,0,2,0,0,0,0,0,0,0,0,0,0,0,0,0,0,0]))]])),(.d (.sl [[dB 1,dU 264,dU 16777368,dU 0,dU 0,dI 0]])),.d (dI 8)]
def ap6:List AV:=M4++[.d (dI 1000),.d (dI 2048),.d (dI 4096),.d (dI 4),.d (dU 65536),(.d (.sl (bS [108,97,116,101,0,0,0,0,116,97,115,107,0,0,0,0,98,111,111,109,0,0,0,0,0,0,0,0,0,0,0,0,0,0,0,0,0,0,0,0,0,0,0,0,0,0,0,0,0,0,0,0,0,0,0,0,0,0,0,0,0,0,0,0,0,0,0,0,0,0,0,0]))),(.d (.sl [[dU 16777216,(.sl (bS [0,0,0,0,0,0,0,0,0,0,0,0,0,0,0,0,0,0,0,0,0,0,0,0,5,0,0,0,0,0,0,0,1,0,0,0,0,0,0,0,0,0,1,0,0,0,0,0,4,0,0,0,0,0,0,0,24,0,1,0,0,0,0,0,0,0,0,0,0,0,0,0,0,0,0,0,0,0,0,0,0,0,0,0,0,0,0,0,0,0,0,0,0,0,0,0,0,0,0,0,0,0,0,0,0,0,0,0,0,0,0,0,32,0,1,0,0,0,0,0,2,0,0,0,0,0,0,0,2,0,0,0,0,0,0,0,2,0,0,0,0,0,0,0,48,0,1,0,0,0,0,0]))]])),(.d (.sl [[dB 1,dU 265,dU 16777368,dU 0,dU 0,dI 0]])),.d (dI 9)]
def ap7:List AV:=M4++[.d (dI 1000),.d (dI 2048),.d (dI 4096),.d (dI 4),.d (dU 65536),(.d (.sl (bS [108,97,116,101,0,0,0,0,116,97,115,107,0,0,0,0,98,111,111,109,0,0,0,0,0,0,0,0,0,0,0,0,0,0,0,0,0,0,0,0,0,0,0,0,0,0,0,0,0,0,0,0,0,0,0,0,0,0,0,0,0,0,0,0,0,0,0,0,0,0,0,0]))),(.d (.sl [[dU 16777216,(.sl (bS [0,0,0,0,0,0,0,0,0,0,0,0,0,0,0,0,0,0,0,0,0,0,0,0,5,0,0,0,0,0,0,0,1,0,0,0,0,0,0,0,0,0,1,0,0,0,0,0,4,0,0,0,0,0,0,0,24,0,1,0,0,0,0,0,0,0,0,0,0,0,0,0,0,0,0,0,0,0,0,0,0,0,0,0,0,0,0,0,0,0,0,0,0,0,0,0,0,0,0,0,0,0,0,0,0,0,0,0,0,0,0,0,32,0,1,0,0,0,0,0,2,0,0,0,0,0,0,0,2,0,0,0,0,0,0,0,2,0,0,0,0,0,0,0,48,0,1,0,0,0,0,0,2,0,0,0,0,0,0,0]))]])),(.d (.sl [[dB 1,dU 266,dU 16777376,dU 0,dU 0,dI 0]])),.d (dI 10)]
def avI:List AV:=M4++[.d (dI 1000),.d (dI 2048),.d (dI 4096),.d (dI 4),.d (dU 65536),(.d (.sl (bS [108,97,116,101,0,0,0,0,116,97,115,107,0,0,0,0,98,111,111,109,0,0,0,0,0,0,0,0,0,0,0,0,0,0,0,0,0,0,0,0,0,0,0,0,0,0,0,0,0,0,0,0,0,0,0,0,0,0,0,0,0,0,0,0,0,0,0,0,0,0,0,0]))),(.d (.sl [[dU 16777216,(.sl (bS [0,0,0,0,0,0,0,0,0,0,0,0,0,0,0,0,0,0,0,0,0,0,0,0,5,0,0,0,0,0,0,0,1,0,0,0,0,0,0,0,0,0,1,0,0,0,0,0,4,0,0,0,0,0,0,0,24,0,1,0,0,0,0,0,0,0,0,0,0,0,0,0,0,0,0,0,0,0,0,0,0,0,0,0,0,0,0,0,0,0,0,0,0,0,0,0,0,0,0,0,0,0,0,0,0,0,0,0,0,0,0,0,32,0,1,0,0,0,0,0,2,0,0,0,0,0,0,0,2,0,0,0,0,0,0,0,2,0,0,0,0,0,0,0,48,0,1,0,0,0,0,0]))],[dU 33554432,(.sl (bS [0,0,0,0,0,0,0,0,0,0,0,0,0,0,0,0,0,0,0,0,0,0,0,0,2,0,0,0,0,0,0,0,0,0,0,0,0,0,0,0]))]])),(.d (.sl [[dB 1,dU 267,dU 16777368,dU 0,dU 0,dI 0],[dB 1,dU 1024,dU 33554472,dU 0,dU 0,dI 0]])),.d (dI 11)]
def ls0:tB:=⟨12,[.agg ms0,.d (dI 0)],.fk [.agg ms1,.d (dB 0),.d (dI 0),.d (dI 0)]⟩
def ls1:tB:=⟨12,[.agg ms1,.d (dI 1)],.fk [.agg ms2,.d (dB 0),.d (dI 0),.d (dI 0)]⟩
def ls2:tB:=⟨12,[.agg ms2,.d (dI 2)],.fk [.agg ms3,.d (dB 0),.d (dI 0),.d (dI 0)]⟩
def ls3:tB:=⟨12,[.agg ms3,.d (dI 3)],.fk [.agg ms4,.d (dB 0),.d (dI 0),.d (dI 0)]⟩
def ls4:tB:=⟨12,[.agg ms4,.d (dI 4)],.fk [.agg ms5,.d (dB 0),.d (dI 0),.d (dI 0)]⟩
def ls5:tB:=⟨12,[.agg ms5,.d (dI 5)],.fk [.agg ms6,.d (dB 0),.d (dI 0),.d (dI 0)]⟩
def ls6:tB:=⟨12,[.agg ms6,.d (dI 6)],.fk [.agg ms7,.d (dB 0),.d (dI 0),.d (dI 0)]⟩
def ls7:tB:=⟨12,[.agg ms7,.d (dI 7)],.fk [.agg ms8,.d (dB 0),.d (dI 0),.d (dI 0)]⟩
def ls8:tB:=⟨12,[.agg ms8,.d (dI 8)],.fk [.agg ms9,.d (dB 0),.d (dI 0),.d (dI 0)]⟩
def ls9:tB:=⟨12,[.agg ms9,.d (dI 9)],.fk [.agg apW,.d (dB 0),.d (dI 0),.d (dI 0)]⟩
def acs:tB:=⟨12,[.agg apW,.d (dI 10)],.fk [.agg apX,.d (dB 0),.d (dI 0),.d (dI 0)]⟩
def acu:tB:=⟨12,[.agg apX,.d (dI 11)],.fk [.agg aip,.d (dB 0),.d (dI 0),.d (dI 0)]⟩
def acv:tB:=⟨12,[.agg aip,.d (dI 12)],.fk [.agg aip,.d (dB 3),.d (dI (-1)),.d (dI 0)]⟩
def acw:tB:=⟨72,[.agg avH,.d (dI 0)],.fk [.agg apY,.d (dB 0),.d (dI 0)]⟩
def acy:tB:=⟨72,[.agg apY,.d (dI 0)],.fk [.agg apZ,.d (dB 0),.d (dI 0)]⟩
def acz:tB:=⟨72,[.agg apZ,.d (dI 0)],.fk [.agg ap0,.d (dB 0),.d (dI 0)]⟩
def acA:tB:=⟨72,[.agg ap0,.d (dI 0)],.fk [.agg ap1,.d (dB 0),.d (dI 0)]⟩
def acB:tB:=⟨72,[.agg ap1,.d (dI 0)],.fk [.agg ap2,.d (dB 0),.d (dI 0)]⟩
def acC:tB:=⟨72,[.agg ap2,.d (dI 0)],.fk [.agg ap3,.d (dB 0),.d (dI 0)]⟩
def acD:tB:=⟨72,[.agg ap3,.d (dI 0)],.fk [.agg ap4,.d (dB 0),.d (dI 0)]⟩
def acE:tB:=⟨72,[.agg ap4,.d (dI 0)],.fk [.agg ap5,.d (dB 0),.d (dI 0)]⟩
def acF:tB:=⟨72,[.agg ap5,.d (dI 0)],.fk [.agg ap6,.d (dB 0),.d (dI 0)]⟩
def acG:tB:=⟨72,[.agg ap6,.d (dI 0)],.fk [.agg ap7,.d (dB 0),.d (dI 0)]⟩
def acH:tB:=⟨72,[.agg ap7,.d (dI 0)],.fk [.agg avI,.d (dB 0),.d (dI 0)]⟩
def avJ:dG Tryz.prog ls0.f ls0.aK ls0.a:=dz (cS (Cu 20000)) (by kernel_rfl) (by kernel_rfl)
def avK:dG Tryz.prog ls1.f ls1.aK ls1.a:=dz (cS (Cu 20000)) (by kernel_rfl) (by kernel_rfl)
def avL:dG Tryz.prog ls2.f ls2.aK ls2.a:=dz (cS (Cu 20000)) (by kernel_rfl) (by kernel_rfl)
def avM:dG Tryz.prog ls3.f ls3.aK ls3.a:=dz (cS (Cu 20000)) (by kernel_rfl) (by kernel_rfl)
def avN:dG Tryz.prog ls4.f ls4.aK ls4.a:=dz (cS (Cu 20000)) (by kernel_rfl) (by kernel_rfl)
def avO:dG Tryz.prog ls5.f ls5.aK ls5.a:=dz (cS (Cu 20000)) (by kernel_rfl) (by kernel_rfl)
def avP:dG Tryz.prog ls6.f ls6.aK ls6.a:=dz (cS (Cu 20000)) (by kernel_rfl) (by kernel_rfl)
def avQ:dG Tryz.prog ls7.f ls7.aK ls7.a:=dz (cS (Cu 20000)) (by kernel_rfl) (by kernel_rfl)
def avR:dG Tryz.prog ls8.f ls8.aK ls8.a:=dz (cS (Cu 20000)) (by kernel_rfl) (by kernel_rfl)
def avS:dG Tryz.prog ls9.f ls9.aK ls9.a:=dz (cS (Cu 20000)) (by kernel_rfl) (by kernel_rfl)
def ap8:dG Tryz.prog acs.f acs.aK acs.a:=dz (cS (Cu 20000)) (by kernel_rfl) (by kernel_rfl)
def ap9:dG Tryz.prog acu.f acu.aK acu.a:=dz (cS (Cu 20000)) (by kernel_rfl) (by kernel_rfl)
def aqa:dG Tryz.prog acv.f acv.aK acv.a:=dz (cS (Cu 20000)) (by kernel_rfl) (by kernel_rfl)
def aqb:dG Tryz.prog acw.f acw.aK acw.a:=dz (cS (Cu 20000)) (by kernel_rfl) (by kernel_rfl)
def aqc:dG Tryz.prog acy.f acy.aK acy.a:=dz (cS (Cu 20000)) (by kernel_rfl) (by kernel_rfl)
def aqd:dG Tryz.prog acz.f acz.aK acz.a:=dz (cS (Cu 20000)) (by kernel_rfl) (by kernel_rfl)
def aqe:dG Tryz.prog acA.f acA.aK acA.a:=dz (cS (Cu 20000)) (by kernel_rfl) (by kernel_rfl)
def aqf:dG Tryz.prog acB.f acB.aK acB.a:=dz (cS (Cu 20000)) (by kernel_rfl) (by kernel_rfl)
def aqg:dG Tryz.prog acC.f acC.aK acC.a:=dz (cS (Cu 20000)) (by kernel_rfl) (by kernel_rfl)
def aqh:dG Tryz.prog acD.f acD.aK acD.a:=dz (cS (Cu 20000)) (by kernel_rfl) (by kernel_rfl)
def aqi:dG Tryz.prog acE.f acE.aK acE.a:=dz (cS (Cu 20000)) (by kernel_rfl) (by kernel_rfl)
def aqj:dG Tryz.prog acF.f acF.aK acF.a:=dz (cS (Cu 20000)) (by kernel_rfl) (by kernel_rfl)
def aqk:dG Tryz.prog acG.f acG.aK acG.a:=dz (cS (Cu 20000)) (by kernel_rfl) (by kernel_rfl)
def aql:dG Tryz.prog acH.f acH.aK acH.a:=dz (cS (Cu 20000)) (by kernel_rfl) (by kernel_rfl)
def lsA:List tB:=[ls0,ls1,ls2,ls3,ls4,ls5,ls6,ls7,ls8,ls9,acs,acu,acv,acw,acy,acz,acA,acB,acC,acD,acE,acF,acG,acH]
def ZH:∀k∈lsA,dG Tryz.prog k.f k.aK k.a:=by
 intro k hk;simp only[lsA,dj,dC,km]at hk;rcases hk with rfl|rfl|rfl|rfl|rfl|rfl|rfl|rfl|rfl|rfl|rfl|rfl|rfl|rfl|rfl|rfl|rfl|rfl|rfl|rfl|rfl|rfl|rfl|rfl;.exact avJ
 .exact avK
 .exact avL
 .exact avM
 .exact avN
 .exact avO
 .exact avP
 .exact avQ
 .exact avR
 .exact avS
 .exact ap8
 .exact ap9
 .exact aqa
 .exact aqb
 .exact aqc
 .exact aqd
 .exact aqe
 .exact aqf
 .exact aqg
 .exact aqh
 .exact aqi
 .exact aqj
 .exact aqk
 .exact aql
end
end Go.Proofs.YtclkonemhghbkaaGreat
namespace Go.Proofs.YtclkonemhghbkaaGreat
set_option linter.unusedVariables false
open Go Go.bK Go.Sym
set_option maxRecDepth 100000
noncomputable section
def TB0:Tb:=⟨zL (14::bA) tqA,MT (orA (lits lsA) (orA (lits liA) MV))⟩
def avT(n:Nat):cB Tryz.prog (fX TB0 n):=lU (qq (xg (qt ZH) (xg (qt E7) kO))) MW Bk (rI (l:=cA) Ap aA (by kernel_rfl)) n
def aqm:acq (fX TB0 20000) 14 []=some (.d (.sc (.bool true))):=by kernel_rfl
def bB0(f:Nat)(l:List AV):Option AV:=match Nat.beq f 14,l with|true,[]=>some (.d (.sc (.bool true)))|_,_=>none
def aiq:∀f l a,bB0 f l=some a->dG Tryz.prog f l a:=λf l a h=>by
 unfold bB0 at h;split at h;.rename_i hf;have hf:=am hf;subst hf;cases h;exact dz (avT 20000) aqm rfl
 .cases h
def TB1:Tb:=⟨zL (4::bA) tqA,vo (MT bB0) (MT (orA (lits lsA) (orA (lits liA) MV)))⟩
def avV(n:Nat):cB Tryz.prog (fX TB1 n):=lU (II (qq aiq) (qq (xg (qt ZH) (xg (qt E7) kO)))) MW Bk (rI (l:=cA) Ap aA (by kernel_rfl)) n
def aqn:acq (fX TB1 20000) 4 []=some (.d (.sc (.bool true))):=by kernel_rfl
def bB1(f:Nat)(l:List AV):Option AV:=match Nat.beq f 4,l with|true,[]=>some (.d (.sc (.bool true)))|_,_=>none
def air:∀f l a,bB1 f l=some a->dG Tryz.prog f l a:=λf l a h=>by
 unfold bB1 at h;split at h;.rename_i hf;have hf:=am hf;subst hf;cases h;exact dz (avV 20000) aqn rfl
 .cases h
def Tk:cB Tryz.prog Jb:=qq (o:=Yg) air
end
end Go.Proofs.YtclkonemhghbkaaGreat
namespace Go.Proofs.YtclkonemhghbkaaGreat
open Go
set_option maxRecDepth 100000
def aqo:(Rows.schedAllRow.wf (OpenSpec.ofChange Rows.schedAllSpec))=true:=by kernel_rfl
def aqp:(laidOutB Tryz.pinned.checked.prog)=true:=by kernel_rfl
def aqq:(mapsRowed Tryz.pinned.checked.prog)=true:=by kernel_rfl
def aqr:(Tryz.f3.params.all (Tryz.pinned.checked.prog.readableRec ·))=true:=by kernel_rfl
def aqs:(namedTie Tryz.pinned.checked.prog Rows.schedAllRow.named Rows.schedAllSpec.vars)=true:=by kernel_rfl
def aqt:((Rows.schedAllRow.stops==[]))=true:=by kernel_rfl
def aqu:((Tryz.pinned.checked.prog.stops==[]))=true:=by kernel_rfl
def aqv:((Rows.schedAllRow.knobs==[]))=true:=by kernel_rfl
def aqw:((Tryz.pinned.checked.prog.stopKnobs==[]))=true:=by kernel_rfl
def aqx:((Rows.schedAllRow.inPlace==Tryz.pinned.checked.prog.inPlace 3))=true:=by kernel_rfl
def ais:((Rows.schedAllRow.unfollowed==Tryz.pinned.checked.prog.unfollowed 3))=true:=by kernel_rfl
def ait:((Rows.schedAllRow.recurses==Tryz.pinned.checked.prog.recurses 3))=true:=by kernel_rfl
def aiu:((Rows.schedAllRow.named==Tryz.pinned.checked.prog.varsNamed 3))=true:=by kernel_rfl
def aiv:((Rows.schedAllRow.maps==(Tryz.f3.params.toList++Rows.schedAllSpec.plain.varTypes Tryz.pinned.checked.prog).any (Tryz.pinned.checked.prog.mapsRec ·)))=true:=by kernel_rfl
def aiw:((Rows.schedAllRow.ifaces==(Tryz.f3.params.toList++Rows.schedAllSpec.plain.varTypes Tryz.pinned.checked.prog).any (Tryz.pinned.checked.prog.ifacesRec ·)))=true:=by kernel_rfl
def aix:((Rows.schedAllRow.mapsOut==Tryz.pinned.checked.prog.mapsAmong Tryz.f3.resultTypes.toList))=true:=by kernel_rfl
def aiy:((Rows.schedAllRow.loops==(Tryz.f3.params.toList++Rows.schedAllSpec.plain.varTypes Tryz.pinned.checked.prog).any (Tryz.pinned.checked.prog.loopsFrom ·)))=true:=by kernel_rfl
def aiz:((Rows.schedAllRow.wideKeys==(Tryz.f3.params.toList++Rows.schedAllSpec.plain.varTypes Tryz.pinned.checked.prog++Tryz.f3.resultTypes.toList).any (Tryz.pinned.checked.prog.wideKeysFrom ·)))=true:=by kernel_rfl
def aiA:(Rows.schedAllSpec.vars.all (Tryz.pinned.checked.prog.varReadable ·))=true:=by kernel_rfl
def aiB:(Tryz.f3.resultTypes.all (λt=>Tryz.pinned.checked.prog.readableRec t&&decide (t<Tryz.pinned.checked.prog.types.size)))=true:=by kernel_rfl
def aiC:((Rows.schedAllRow.ifacesOut==Tryz.f3.resultTypes.toList.any (Tryz.pinned.checked.prog.ifacesRec ·)))=true:=by kernel_rfl
def aiD:((Rows.schedAllRow.loopsOut==Tryz.f3.resultTypes.toList.any (Tryz.pinned.checked.prog.loopsFrom ·)))=true:=by kernel_rfl
def aiE:((Rows.schedAllRow.plainKeys==Tryz.pinned.checked.prog.plainKeys))=true:=by kernel_rfl
def aiF:(Rows.schedAllRow.shortTexts.isNone)=true:=by kernel_rfl
def aiG:(Tryz.pinned.checked.prog.stopsHeard)=true:=by kernel_rfl
def aiH:(Tryz.pinned.checked.prog.mayEnter)=true:=by kernel_rfl
def aiI:((Rows.schedAllRow.lifted==Tryz.pinned.checked.prog.liftsFinal))=true:=by kernel_rfl
def aiJ:((Tryz.pinned.checked.prog.make==some Rows.schedAllRow.make))=true:=by kernel_rfl
def aiK:((Rows.schedAllRow.kinds==(if Rows.schedAllRow.domain.isEmpty then[]else Tryz.f3.params.toList.map λt=>match Tryz.pinned.checked.prog.underlying t with|some (.int k)=>some k|_=>none)))=true:=by kernel_rfl
def aiL:((Rows.schedAllRow.pinned==Rows.schedAllRow.pinnedBy))=true:=by kernel_rfl
def aiM:((Rows.schedAllRow.veiled==(Tryz.f3.params.toList++Rows.schedAllSpec.plain.varTypes Tryz.pinned.checked.prog++Tryz.f3.resultTypes.toList).any (Tryz.pinned.checked.prog.veiledRec ·)))=true:=by kernel_rfl
def aiN:(Rows.schedAllRow.veiledFits Tryz.pinned.checked.prog Tryz.f3.params.toList (Tryz.f3.params.toList++Rows.schedAllSpec.plain.varTypes Tryz.pinned.checked.prog++Tryz.f3.resultTypes.toList))=true:=by kernel_rfl
def both{a b:Bool}(h:a=true)(k:b=true):(a&&b)=true:=by rw[h,k];rfl
def acI:joinedFacts Tryz.pinned.checked.prog 3 Tryz.f3 Rows.schedAllSpec Rows.schedAllRow=true:=by unfold joinedFacts;exact both (both (both (both (both (both (both (both (both (both (both (both (both (both (both (both (both (both (both (both (both (both (both (both (both (both (both (both (both (both (both (aqo) aqp) aqq) aqr) aqs) aqt) aqu) aqv) aqw) aqx) ais) ait) aiu) aiv) aiw) aix) aiy) aiz) aiA) aiB) aiC) aiD) aiE) aiF) aiG) aiH) aiI) aiJ) aiK) aiL) aiM) aiN
end Go.Proofs.YtclkonemhghbkaaGreat
