/- Calls that work on the caller's memory. -/
import Derived.Test.YtkdilffhbejjaaaGreatEngR
set_option linter.unusedVariables false
set_option linter.unusedSimpArgs false
namespace Go.bM
open Go Go.RowKit
theorem aQ{α β:Type}{x:Option α}{f:α->β}{y:β}(h:x.map f=some y):∃z,x=some z/\f z=y:=by simp_all
theorem aV{α β:Type}{x:Option α}{f:α->Option β}{y:β}(h:x.bind f=some y):∃z,x=some z/\f z=some y:=by cases x with|none=>cases h|some z=>grind
theorem bO{v:AV}{r:gT}(h:fT.pure v=some r):r=.ck {val:=v,di:=[],cK:=[],rd:=[]}:=by grind[fT.pure]
theorem V1.Ew{X:Cx}{x:AV}{v:Value}(h:fY x=true)(hv:VR X x v):V1 X x v:=by cases x with|jF=>cases h|_=>exact hv
theorem aE.fY{X:Cx}:∀{xs:List AV}{vs:List Value},xs.all Go.bM.fY=true->aE (VR X) xs vs->aE (V1 X) xs vs|[],[],_,_=>trivial|x::xs,v::vs,h,hv=>by simp only[d9,am]at h;exact⟨V1.Ew h.1 hv.1,aE.fY h.2 hv.2⟩|[],_::_,_,hv=>hv.elim|_::_,[],_,hv=>hv.elim
theorem lR(m:List (Tr bH))(lv sl:Nat):aN (m++[.lf]) lv sl=aN m lv sl:=by unfold aN;grind[Tr.get?]
section
variable{P:Program}{X:Cx}{nt:NT}{s:St}{a:Act}{o:Oper}{dst:Option Nat}{aT:Nat}
theorem It{call:Go.bM.Call}(cH:eo P call)(hs:fu X nt s a)(hfr:X.ρ aT=none)(BC:aT<s.nv)(hdom:∀v,s.nv<=v->X.ρ v=none){f pk lv sl:Nat}{args:List AV}{cL:Array Value}{r val:AV}{cm:List (Tr bH)}{ts:Tr Unit}{n':Nat}{us:List (List (List D))}{u:List (Nat×Nat×Option bH)}(hargs:aE (VR X) args cL.toList)(hnt:args.all fY=true)(hc:call f args (s.mem++[.lf]) s.aK s.nv=some (r,cm,ts,n'))(hi:iN cm s.mem.length pk lv sl aT r=some (val,us))(hu:kK lv sl aT us=some u)(hrun:(∃fn,P.funcs[f]?=some fn/\fn.body.isSome=true/\(fn.name== "runtime.NumGoroutine")=false)->(execOp a.eval o).run P X.w=.ok (.enter f cL) X.w):dI P X s a o dst aT (.all val (bF (cm.take s.mem.length) u) ts n'):=by
 intro K Q hK;have hm0:aH X (s.mem++[.lf]) s.aK:=hs.mem.congr (λlv sl=>lR _ _ _) λ_=>rfl;obtain⟨hfn,uW⟩:=cH f args (s.mem++[.lf]) s.aK s.nv r cm ts n' hc X cL hm0 hdom (aE.fY hnt hargs);unfold Oper.wp;rw[hrun hfn];refine Calls.mono uW ?_;rintro e w'⟨Z,v,rfl,rfl,Gm,hvZ,OF,hn,hdZ⟩;have afQ:Z.ρ aT=none:=by cases hz:Z.ρ aT with|none=>rfl|some L=>grind
 have Bg:aH Z (cm.take s.mem.length) ts:=OF.less (λlv sl e he=>by
  rw[mS]at he;split at he;.exact he
  .cases he) λ_ h=>h;have M9:∀{k:Nat×Nat×Nat}{v:Nat},Holds (cm.take s.mem.length) ts k v->Holds cm ts k v/\∀cM cZ,s.mem.length<=cM->k≠cB cM cZ:=by
  rintro k v(⟨cM,cZ,e',rfl,he',nD⟩|⟨rfl,he'⟩)
  .rw[mS]at he';split at he';.refine⟨.inl ⟨cM,cZ,e',rfl,he',nD⟩,λauO auP hle hq=>?_⟩;have:=(Ba hq).1<;>omega
   grind
  .exact⟨.inr ⟨rfl,he'⟩,λ_ _ _ hq=>fq hq.symm⟩
 let G:Option Nat->Nat->Nat->Prop:=λp b _=>some b≠p/\∃cM cZ e L,s.mem.length<=cM/\aN cm cM cZ=some e/\e.fz=false/\Z.ρ e.au=some L/\0<L.cap/\L.b=b;have mk:∀p,Ext Z (Z.more (G p))/\aH (Z.more (G p)) (cm.take s.mem.length) ts:=by
  intro p;have hin:∀b o,G p b o->¬Z.old b/\b<Z.w.heap.size:=by rintro b o⟨_,cM,cZ,e,L,_,hg,hz,hL,hc,rfl⟩;obtain⟨M,hM,h2⟩:=OF.dV (.inl ⟨cM,cZ,e,rfl,hg,rfl,hz⟩)<;>grind
  refine⟨Ext.more λb o h=>(hin b o h).1,Bg.more hin ?_⟩;rintro k v M o hk hv xB⟨_,cM,cZ,e,L,hle,hg,hz,hL,hc,hb⟩;obtain⟨h1,h2⟩:=M9 hk;exact OF.apart _ _ _ _ _ _ h1 (.inl ⟨cM,cZ,e,rfl,hg,rfl,hz⟩) (h2 cM cZ hle) hv hL xB hc hb.symm
 rcases KZ OF hi hvZ with⟨rfl,hb⟩|⟨els,len,sz,v',rfl,⟨hpk,⟨L,off,ad,cap,g3,g4,g5,g6,g7'⟩⟩,hb⟩|hlen
 .cases hu;obtain⟨y5,y6⟩:=mk none;refine hK (Z.more (G none)) v (Gm.trans y5) (hb (Z.more (G none)) ⟨rfl,λb o h=>.inl h,λ_ _ _ h=>h,λ_ cM cZ e L hle hg hz hL hc o=>.inr ⟨by simp,cM,cZ,e,L,hle,hg,hz,hL,hc,rfl⟩⟩) y6 ⟨hn,λu L hL=>?_⟩;rcases hdZ u L hL with h|h;.grind
  .exact .inr (.inr h)
 .cases hu;subst g3;have g7:=λhc=>(g7' hc).2;obtain⟨y5,y6⟩:=mk (some L.b);obtain⟨W,w1,w2,w3,w4,w5,w6,w7⟩:=BA (Z:=Z) (Y:=Z.more (G (some L.b))) (lv:=lv) (sl:=sl) (au:=aT) y6 rfl (λb o h=>.inl h) (λ_ h=>h) afQ g4 g5 g6 g7 λhc=>⟨λo h=>by
    rcases h with h|h;.exact(g7 hc).2.2.2.2.2.1 o h
    .exact h.1 rfl,λk u M hk hM xB=>by obtain⟨h1,h2⟩:=M9 hk;obtain⟨cM,cZ,e,g0,g1,g2⟩:=(g7' hc).1;exact OF.apart _ _ _ _ _ _ h1 (.inl ⟨cM,cZ,e,rfl,g1.1,rfl,g1.2⟩) (h2 cM cZ g0) hM g2 xB (g7 hc).2.2.2.1⟩;have hxW:Ext (Z.more (G (some L.b))) W:=⟨w3,by rw[w1];exact eY.refl _ _,λb o h=>by rw[w2];exact h,λb o _=>by rw[w1],w4,λb o h=>by rw[w2]at h;exact .inl h⟩;rw[show Z.w=W.w from w1.symm];refine hK W v ((Gm.trans y5).trans hxW) (hb W ⟨w1,λb o h=>by rw[w2];exact .inl h,λ_ u M hM=>w4 u M hM,λh=>absurd h hpk⟩ w7) w6 ⟨hn,λu M hM=>?_⟩;rcases w5 u M hM with h|h
  .rcases hdZ u M h with h|h;.exact .inl h
   .exact .inr (.inr h)
  omega
 .match us,hlen with|_::_::_,_=>simp[kK]at hu
theorem OG{call:Go.bM.Call}(cH:eo P call)(hs:fu X nt s a)(hdom:∀v,s.nv<=v->X.ρ v=none){f:Nat}{args:List AV}{cL:Array Value}{r:gT}(hargs:aE (VR X) args cL.toList)(hr:qI call s f args=some r)(hrun:(∃fn,P.funcs[f]?=some fn/\fn.body.isSome=true/\(fn.name== "runtime.NumGoroutine")=false)->(execOp a.eval o).run P X.w=.ok (.enter f cL) X.w):dI P X s a o dst aT r:=by
 unfold qI at hr;split at hr;.cases hr
 .rename_i hnt;split at hr;.cases hr
  .rename_i r' cm ts n' hc;cases hr;intro K Q hK;have hm0:aH X (s.mem++[.lf]) s.aK:=hs.mem.congr (λlv sl=>lR _ _ _) λ_=>rfl;obtain⟨hfn,uW⟩:=cH f args (s.mem++[.lf]) s.aK s.nv r' cm ts n' hc X cL hm0 hdom (aE.fY hnt hargs);unfold Oper.wp;rw[hrun hfn];refine Calls.mono uW ?_;rintro e w'⟨Z,v,rfl,rfl,Gm,hvZ,OF,hn,hdZ⟩;exact hK Z v Gm hvZ OF ⟨hn,λu L hL=>(hdZ u L hL).imp id .inr⟩
theorem OH{call:Go.bM.Call}(cH:eo P call)(hs:fu X nt s a)(hfr:X.ρ aT=none){f:Nat}{args:List AV}{cL:Array Value}{r:gT}(hargs:aE (VR X) args cL.toList)(hr:oa call s aT f args=some r)(hrun:(∃fn,P.funcs[f]?=some fn/\fn.body.isSome=true/\(fn.name== "runtime.NumGoroutine")=false)->(execOp a.eval o).run P X.w=.ok (.enter f cL) X.w):dI P X s a o dst aT r:=by
 unfold oa at hr;split at hr;.cases hr
 .rename_i aO ks hl;split at hr;.cases hr
  .rename_i r' cm ts n' hc;split at hr;.rename_i v hi;have hV:=Ir hs.mem (ks:=ks) hl hargs λp hp=>hp;have:=BB (dst:=dst) cH hs hfr (pk:=0) (lv:=0) (sl:=0) (rd:=args.flatMap eO) hV hc hi (u:=[]) rfl hrun<;>grind
   grind
def Cx.all(X:Cx):Cx:={w:=X.w,F:=λb _=>b<X.w.heap.size,ρ:=λ_=>none,old:=λb=>b<X.w.heap.size}
theorem OI{call:Go.bM.Call}(cH:eo P call)(hs:fu X nt s a)(hfr:X.ρ aT=none){f:Nat}{args:List AV}{cL:Array Value}{r:gT}(hargs:aE (VR X) args cL.toList)(hr:od call s aT f args=some r)(hrun:(∃fn,P.funcs[f]?=some fn/\fn.body.isSome=true/\(fn.name== "runtime.NumGoroutine")=false)->(execOp a.eval o).run P X.w=.ok (.enter f cL) X.w):dI P X s a o dst aT r:=by
 unfold od at hr;split at hr;.cases hr
 .rename_i aO hl;split at hr;.cases hr
  .rename_i r' cm ts n' hc;split at hr;.rename_i v hi;cases hr;have hV:=Et hs.mem [] hl hargs;have:=BB (dst:=dst) cH hs hfr (pk:=0) (lv:=0) (sl:=0) (rd:=args.flatMap eO) hV hc hi (ks:=[]) (u:=[]) rfl hrun;exact this
   grind
theorem Xt(X:Cx)(hl:Low X):aH X.all [.lf] .lf:=by
 refine⟨λlv sl e he=>?_,λv hv=>by simp at hv,λk k' v v' L L' _ _ _ hv _ _ _=>?_,λ_ _ h=>h,λ_ h=>h,λb hb=>hl.lt b (hl.gb b hb),hl.gk⟩;.unfold aN at he;grind[Tr.get?,oU,bH.au,Cx.all]
 .cases hv
theorem BD{m:List (Tr bH)}{t:Tr Unit}(h:aH X m t){x:AV}{y:D}{v:Value}(hx:iO m x=some y)(hv:VC X x v):DR X.w X.all.F y v:=by
 have hsub:∀b o,X.F b o->X.all.F b o:=λb o hb=>h.p7 b o hb;have Ru:∀{els a cap sz b o}{R:Nat->Nat->Prop},v=.slice a els.length cap->els.length<=cap->(0<els.length->a=some ⟨b,o,none⟩)->eS X.w X.F R els b o sz->DR X.w X.all.F (.sl els) v:=by rintro els a cap sz b o R rfl h2 h3 h4;exact DR.ja (h4.mono hsub λq hq _=>M7 hq) rfl h2 h3
 cases x with
 |d x=>cases hx;exact DR.mono hsub hv|own els ow=>cases hx;cases ow with|full=>obtain⟨a,b,o,sz,h1,h2,h3⟩:=hv<;>grind|cK au tz=>obtain⟨a,b,o,sz,cap,h1,h2,h3,h4,_⟩:=hv<;>grind|bC=>obtain⟨a,b,o,sz,cap,h1,h2,h3,h4⟩:=hv<;>grind
 |ref lv sl au off len sz=>simp[iO]at hx;cases he:dG m (.ref lv sl au off len sz)with|none=>grind|some els=>obtain⟨a,cap,sz',b,o,h1,h2,h3,h4⟩:=sw h he (.kz hv)<;>grind
 |_=>cases hx
theorem Ey{m:List (Tr bH)}{t:Tr Unit}(h:aH X m t):∀{xs:List AV}{ys:List D}{vs:List Value},jh m xs=some ys->aE (VC X) xs vs->aE (DR X.w X.all.F) ys vs
 |[],ys,[],hx,_=>by cases hx;trivial|x::xs,ys,v::vs,hx,hv=>by
  simp[jh]at hx;split at hx;.rename_i y ys' h1 h2;cases hx;exact⟨BD h h1 hv.1,Ey h h2 hv.2⟩
  grind|[],_,_::_,_,hv=>hv.elim|_::_,_,[],_,hv=>hv.elim
theorem Ez{α:Type}{sz:Nat}:∀{n:Nat}{l:List α},l.length=n*sz->(chunk sz n l).length=n/\(∀e∈chunk sz n l,e.length=sz)/\∀(i j:Nat)e x,(chunk sz n l)[i]?=some e->e[j]?=some x->j<sz/\i<n/\l[i*sz+j]?=some x
 |0,l,h=>⟨rfl,λe he=>(by cases he),λi j e x h1 _=>by simp[chunk]at h1⟩|n+1,l,h=>by
  have hl:(l.drop sz).length=n*sz:=by rw[ui,h,wx];omega
  obtain⟨h1,h2,h3⟩:=Ez (sz:=sz) hl;have ht:(l.take sz).length=sz:=by rw[lr,h,wx];omega
  refine⟨by simp[chunk,h1],λe he=>?_,λi j e x he hx=>?_⟩
  .simp[chunk,dk]at he;rcases he with rfl|he;.exact ht
   .exact h2 e he
  .cases i with|zero=>
    cases he;have hj:j<sz:=by have:=(cf.1 hx).1;omega
    rw[fx,bb hj]at hx;exact⟨hj,by omega,by rw[Nat.zero_mul,ma];exact hx⟩|succ i=>obtain⟨g1,g2,g3⟩:=h3 i j e x he hx;refine⟨g1,by omega,?_⟩;simp at g3;rw[wx,show i*sz+sz+j=sz+(i*sz+j)by omega];exact g3
theorem Xu{m:List (Tr bH)}{t:Tr Unit}(h:aH X m t){x y:AV}{v:Value}(hx:lG m x=some y)(hv:VR X x v):V1 X.all y v:=by
 have one:∀{x:AV},(iO m x).map AV.d=some y->VC X x v->V1 X.all y v:=by intro x hx hv;obtain⟨d,hd,rfl⟩:=aQ hx;exact .kz (BD h hd hv)
 cases x with
 |agg cs=>obtain⟨ds,hd,rfl⟩:=aQ hx;obtain⟨vs,rfl,h3⟩:=hv;exact⟨vs,rfl,(Ey h hd h3).abm (X:=X.all)⟩|fk f c=>cases c with|nil=>cases hx;exact .kz (Gl hv)|cons=>simp[lG,iO]at hx
 |fF lv sl au off n sz=>
  simp[lG]at hx;split at hx
  .rename_i cs hb;split at hx
   .obtain⟨ds,hd,rfl⟩:=aQ hx;obtain⟨L,hL,rfl,hn⟩:=hv;have hg:aN m lv sl=some (.box au cs):=by
     unfold oQ at hb;split at hb
     .split at hb;.simp_all
      .cases hb
     .cases hb
    obtain⟨L',hL',hE⟩:=h.fZ lv sl _ hg;have hL':X.ρ au=some L':=hL';rw[hL]at hL';cases hL';obtain⟨_,hblk,hno,hcell⟩:=hE;have hlen:((cs.drop off).take (n*sz)).length=n*sz:=by simp;omega
    have hdl:ds.length=n*sz:=by
     have:∀{xs:List AV}{ys:List D},jh m xs=some ys->ys.length=xs.length:=by intro xs;induction xs with|nil=>intro ys h;cases h;rfl|cons x xs ih=>
       intro ys h;simp[jh]at h;split at h;.rename_i h2;cases h;simp[ih h2]
       .cases h
     rw[this hd,hlen]
    obtain⟨c1,c2,c3⟩:=Ez hdl;refine .kz (DR.ja (b:=L.b) (o:=L.o+off) (sz:=sz) ⟨c2,λi e j x h1 h2=>?_⟩ c1 (bc _) λ_=>rfl);obtain⟨g1,g2,g3⟩:=c3 i j e x h1 h2;refine⟨hblk.lt,?_⟩;have cell:∀{xs:List AV}{ys:List D},jh m xs=some ys->∀(k:Nat)(y:D),ys[k]?=some y->∃a,xs[k]?=some a/\iO m a=some y:=by intro xs;induction xs with|nil=>intro ys h k y hk;cases h;simp at hk|cons a xs ih=>
      intro ys h k y hk;simp[jh]at h;split at h;.rename_i z zs h1 h2;cases h;cases k with|zero=>cases hk;exact⟨a,rfl,h1⟩|succ k=>simpa using ih h2 k y (by simpa using hk)
      .cases h
    obtain⟨a,ha,hca⟩:=cell hd _ _ g3;rw[fx]at ha;split at ha;.simp at ha;obtain⟨u,hu,hvc⟩:=hcell _ _ ha;refine⟨u,?_,BD h hca hvc⟩;rw[show L.o+off+i*sz+j=L.o+(off+(i*sz+j))by omega];exact hu
    .cases ha
   grind
  grind|jF cs=>simp[lG,iO]at hx|_=>simp only[lG]at hx;exact one hx hv
theorem Iu{m:List (Tr bH)}{t:Tr Unit}(h:aH X m t):∀{xs ys:List AV}{vs:List Value},vG m xs=some ys->aE (VR X) xs vs->aE (V1 X.all) ys vs
 |[],ys,[],hx,_=>by cases hx;trivial|x::xs,ys,v::vs,hx,hv=>by
  simp[vG]at hx;split at hx;.rename_i y ys' h1 h2;cases hx;exact⟨Xu h h1 hv.1,Iu h h2 hv.2⟩
  grind|[],_,_::_,_,hv=>hv.elim|_::_,_,[],_,hv=>hv.elim
theorem BE{A B:Cx}{x:AV}{v:Value}(h:A7 x=true)(hv:VC A x v):VC B x v:=by
 unfold A7 at h;split at h;.cases hv with|sc v h1=>exact DR.sc v h1
 .cases hv with|sl els a n cap sz b o g hn hcap hsz ha hF hc hr=>exact DR.sl [] a n cap sz b o g hn hcap (λ_ h=>by cases h) ha (λ_ _ _ _ h=>by cases h) (λ_ _ _ _ h=>by cases h) (λ_ _ _ _ h=>by cases h)
 grind
theorem za{A B:Cx}:∀{xs:List AV}{vs:List Value},xs.all A7=true->aE (VC A) xs vs->aE (VC B) xs vs|[],[],_,_=>trivial|x::xs,v::vs,h,hv=>by rw[d9,am]at h;exact⟨BE h.1 hv.1,za h.2 hv.2⟩|[],_::_,_,hv=>hv.elim|_::_,[],_,hv=>hv.elim
theorem uX{A B:Cx}{x:AV}{v:Value}(h:Ec x=true)(hv:V1 A x v):V1 B x v:=by cases x with|agg cs=>obtain⟨vs,rfl,h3⟩:=hv;exact⟨vs,rfl,za h h3⟩|d x=>exact .kz (BE (A:=A) h hv)|_=>cases h
theorem zb{A B:Cx}:∀{xs:List AV}{vs:List Value},xs.all Ec=true->aE (V1 A) xs vs->aE (V1 B) xs vs|[],[],_,_=>trivial|x::xs,v::vs,h,hv=>by rw[d9,am]at h;exact⟨uX h.1 hv.1,zb h.2 hv.2⟩|[],_::_,_,hv=>hv.elim|_::_,[],_,hv=>hv.elim
theorem K0{A B:Cx}{x:AV}{v:Value}(h:Q4 x=true)(hv:VR A x v):VR B x v:=by cases x with|jF cs=>obtain⟨vs,rfl,h3⟩:=hv;exact⟨vs,rfl,zb h h3⟩|agg cs=>exact .vK (uX (A:=A) h hv)|d x=>exact .vK (uX (A:=A) h hv)|_=>cases h
theorem EA{call:Go.bM.Call}(cH:eo P call)(hs:fu X nt s a){f:Nat}{args:List AV}{cL:Array Value}{r:gT}(hargs:aE (VR X) args cL.toList)(hr:kL call s f args=some r)(hrun:(∃fn,P.funcs[f]?=some fn/\fn.body.isSome=true/\(fn.name== "runtime.NumGoroutine")=false)->(execOp a.eval o).run P X.w=.ok (.enter f cL) X.w):dI P X s a o dst aT r:=by
 unfold kL at hr;split at hr;.cases hr
 .rename_i aO hl;split at hr;.cases hr
  .rename_i r' cm ts n' hc;split at hr;case h_2=>cases hr
   rename_i v hi;split at hr;case h_2=>cases hr
   rename_i hfl;cases hr;intro K Q hK;have hV:=Iu hs.mem hl hargs;obtain⟨hfn,uW⟩:=cH f aO [.lf] .lf 0 r' cm ts n' hc X.all cL (Xt X hs.mem.Aq) (λ_ _=>rfl) hV;unfold Oper.wp;rw[hrun hfn];refine Calls.mono uW ?_;rintro e w'⟨Z,v',rfl,rfl,Gm,hvZ,OF,_,_⟩;have hblk:∀b,b<X.w.heap.size->Z.w.heap[b]?=X.w.heap[b]?:=λb hb=>Gm.below.block b hb;let Y:Cx:={w:=Z.w,F:=X.F,ρ:=X.ρ,old:=X.old};have hx:Ext X Y:=⟨rfl,Gm.below.mono hs.mem.low,λ_ _ h=>h,λb o h=>Gm.keep b o (hs.mem.p7 b o h),λ_ _ h=>h,λ_ _ h=>.inl h⟩;have hm:aH Y s.mem s.aK:=hs.mem.move hx (λk v L hk hv hc=>by obtain⟨M,hM,h2⟩:=hs.mem.dV hk;rw[hv]at hM;injection hM with hM;subst hM;exact hblk _ (h2 hc).1) (λ_ _ _ _ _ _ _ h=>h) λb o h=>i7 (hs.mem.p7 b o h) Gm.below.size;have hvr:VR Y v v':=by
    rcases KZ OF hi hvZ with⟨_,hb⟩|⟨_,_,_,_,h,_⟩|h;.exact K0 hfl (hb {Z with F:=λ_ _=>True} ⟨rfl,λ_ _ _=>trivial,λh=>absurd h (by omega),λ_ _ _ _ _ _ _ _ _ _ _=>trivial⟩)
    .cases h
    .simp at h
   refine hK Y v' hx hvr ?_ (fL.Ib rfl);exact hm
theorem xJ{call:Go.bM.Call}(cH:eo P call)(hs:fu X nt s a)(hfr:X.ρ aT=none)(BC:aT<s.nv)(hdom:∀v,s.nv<=v->X.ρ v=none){shared:Bool}{f pk lv sl:Nat}{args:List AV}{cL:Array Value}{r:gT}(hargs:aE (VR X) args cL.toList)(hr:gA call shared pk s lv sl aT f args=some r)(hrun:(∃fn,P.funcs[f]?=some fn/\fn.body.isSome=true/\(fn.name== "runtime.NumGoroutine")=false)->(execOp a.eval o).run P X.w=.ok (.enter f cL) X.w):dI P X s a o dst aT r:=by
 unfold gA at hr;split at hr
 .split at hr;.cases hr
  .rename_i aO ks hl;split at hr;.cases hr
   .rename_i r' cm ts n' hc;split at hr;.cases hr
    .rename_i v us hi;split at hr;.cases hr
     .rename_i u hu;cases hr;exact BB cH hs hfr (Iq hs.mem (ks:=ks) hl hargs λp hp=>hp) hc hi hu hrun
 .split at hr;.cases hr
  .rename_i hnt;split at hr;.cases hr
   .rename_i r' cm ts n' hc;split at hr;.cases hr
    .rename_i v us hi;split at hr;.cases hr
     .rename_i u hu;cases hr;exact It cH hs hfr BC hdom hargs hnt hc hi hu hrun
end
end Go.bM
