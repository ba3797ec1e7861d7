/- Parts of the proof. -/
import Derived.Test.YtnfdnnplfbfgaaaGreatEngR
import Derived.ScopeJumps
set_option linter.unusedVariables false
set_option linter.unusedSimpArgs false
set_option linter.defProp false
namespace Go.bS
open Go Go.RowKit
def aV{α β:Type}{x:Option α}{f:α->β}{y:β}(h:x.map f=some y):∃z,x=some z/\f z=y:=by simp_all
def bg{α β:Type}{x:Option α}{f:α->Option β}{y:β}(h:x.bind f=some y):∃z,x=some z/\f z=some y:=by cases x with|none=>cases h|some z=>grind
def bT{v:AV}{r:ir}(h:gu.pure v=some r):r=.cu {val:=v,dD:=[],cT:=[],rd:=[]}:=by grind[gu.pure]
def V1.Ft{X:Cx}{x:AV}{v:Value}(h:gy x=true)(hv:VR X x v):V1 X x v:=by cases x with|jU=>cases h|_=>exact hv
def aI.gy{X:Cx}:∀{xs:List AV}{vs:List Value},xs.all Go.bS.gy=true->aI (VR X) xs vs->aI (V1 X) xs vs|[],[],_,_=>trivial|x::xs,v::vs,h,hv=>by simp only[fg,ba]at h;exact⟨V1.Ft h.1 hv.1,aI.gy h.2 hv.2⟩|[],_::_,_,hv=>hv.elim|_::_,[],_,hv=>hv.elim
def mJ(m:List (Tr bM))(lv sl:Nat):aT (m++[.lf]) lv sl=aT m lv sl:=by unfold aT;grind[Tr.get?]
section
variable{P:Program}{X:Cx}{nt:NT}{s:St}{a:Act}{o:Oper}{dst:Option Nat}{aZ:Nat}
def Jn{call:Go.bS.Call}(cP:eL P call)(hs:fQ X nt s a)(hfr:X.ρ aZ=none)(Cm:aZ<s.nv)(hdom:∀v,s.nv<=v->X.ρ v=none){f pk lv sl:Nat}{args:List AV}{cU:Array Value}{r val:AV}{cm:List (Tr bM)}{ts:Tr Unit}{n':Nat}{us:List (List (List D))}{u:List (Nat×Nat×Option bM)}(hargs:aI (VR X) args cU.toList)(hnt:args.all gy=true)(hc:call f args (s.mem++[.lf]) s.aO s.nv=some (r,cm,ts,n'))(hi:jc cm s.mem.length pk lv sl aZ r=some (val,us))(hu:lg lv sl aZ us=some u)(hrun:(∃fn,P.funcs[f]?=some fn/\fn.body.isSome=true/\(fn.name== "runtime.NumGoroutine")=false)->(execOp a.eval o).run P X.w=.ok (.enter f cU) X.w):dS P X s a o dst aZ (.all val (bI (cm.take s.mem.length) u) ts n'):=by
 intro K Q hK;have hm0:aM X (s.mem++[.lf]) s.aO:=hs.mem.congr (λlv sl=>mJ _ _ _) λ_=>rfl;obtain⟨hfn,vJ⟩:=cP f args (s.mem++[.lf]) s.aO s.nv r cm ts n' hc X cU hm0 hdom (aI.gy hnt hargs);unfold Oper.wp;rw[hrun hfn];refine Calls.mono vJ ?_;rintro e w'⟨Z,v,rfl,rfl,Hs,hvZ,PM,hn,hdZ⟩;have aiS:Z.ρ aZ=none:=by cases hz:Z.ρ aZ with|none=>rfl|some L=>grind
 have B0:aM Z (cm.take s.mem.length) ts:=PM.less (λlv sl e he=>by
  rw[nP]at he;split at he;.exact he
  .cases he) λ_ h=>h;have Og:∀{k:Nat×Nat×Nat}{v:Nat},Holds (cm.take s.mem.length) ts k v->Holds cm ts k v/\∀cV dy,s.mem.length<=cV->k≠cF cV dy:=by
  rintro k v(⟨cV,dy,e',rfl,he',n9⟩|⟨rfl,he'⟩)
  .rw[nP]at he';split at he';.refine⟨.inl ⟨cV,dy,e',rfl,he',n9⟩,λazM azN hle hq=>?_⟩;have:=(BU hq).1<;>omega
   grind
  .exact⟨.inr ⟨rfl,he'⟩,λ_ _ _ hq=>fP hq.symm⟩
 let G:Option Nat->Nat->Nat->Prop:=λp b _=>some b≠p/\∃cV dy e L,s.mem.length<=cV/\aT cm cV dy=some e/\e.fz=false/\Z.ρ e.av=some L/\0<L.cap/\L.b=b;have mk:∀p,Ext Z (Z.more (G p))/\aM (Z.more (G p)) (cm.take s.mem.length) ts:=by
  intro p;have hin:∀b o,G p b o->¬Z.old b/\b<Z.w.heap.size:=by rintro b o⟨_,cV,dy,e,L,_,hg,hz,hL,hc,rfl⟩;obtain⟨M,hM,h2⟩:=PM.ew (.inl ⟨cV,dy,e,rfl,hg,rfl,hz⟩)<;>grind
  refine⟨Ext.more λb o h=>(hin b o h).1,B0.more hin ?_⟩;rintro k v M o hk hv yH⟨_,cV,dy,e,L,hle,hg,hz,hL,hc,hb⟩;obtain⟨h1,h2⟩:=Og hk;exact PM.apart _ _ _ _ _ _ h1 (.inl ⟨cV,dy,e,rfl,hg,rfl,hz⟩) (h2 cV dy hle) hv hL yH hc hb.symm
 rcases Mg PM hi hvZ with⟨rfl,hb⟩|⟨els,len,sz,v',rfl,⟨hpk,⟨L,off,ad,cap,g3,g4,g5,g6,g7'⟩⟩,hb⟩|hlen
 .cases hu;obtain⟨y5,y6⟩:=mk none;refine hK (Z.more (G none)) v (Hs.trans y5) (hb (Z.more (G none)) ⟨rfl,λb o h=>.inl h,λ_ _ _ h=>h,λ_ cV dy e L hle hg hz hL hc o=>.inr ⟨by simp,cV,dy,e,L,hle,hg,hz,hL,hc,rfl⟩⟩) y6 ⟨hn,λu L hL=>?_⟩;rcases hdZ u L hL with h|h;.grind
  .exact .inr (.inr h)
 .cases hu;subst g3;have g7:=λhc=>(g7' hc).2;obtain⟨y5,y6⟩:=mk (some L.b);obtain⟨W,w1,w2,w3,w4,w5,w6,w7⟩:=Ck (Z:=Z) (Y:=Z.more (G (some L.b))) (lv:=lv) (sl:=sl) (av:=aZ) y6 rfl (λb o h=>.inl h) (λ_ h=>h) aiS g4 g5 g6 g7 λhc=>⟨λo h=>by
    rcases h with h|h;.exact(g7 hc).2.2.2.2.2.1 o h
    .exact h.1 rfl,λk u M hk hM yH=>by obtain⟨h1,h2⟩:=Og hk;obtain⟨cV,dy,e,g0,g1,g2⟩:=(g7' hc).1;exact PM.apart _ _ _ _ _ _ h1 (.inl ⟨cV,dy,e,rfl,g1.1,rfl,g1.2⟩) (h2 cV dy g0) hM g2 yH (g7 hc).2.2.2.1⟩;have hxW:Ext (Z.more (G (some L.b))) W:=⟨w3,by rw[w1];exact fy.refl _ _,λb o h=>by rw[w2];exact h,λb o _=>by rw[w1],w4,λb o h=>by rw[w2]at h;exact .inl h⟩;rw[show Z.w=W.w from w1.symm];refine hK W v ((Hs.trans y5).trans hxW) (hb W ⟨w1,λb o h=>by rw[w2];exact .inl h,λ_ u M hM=>w4 u M hM,λh=>absurd h hpk⟩ w7) w6 ⟨hn,λu M hM=>?_⟩;rcases w5 u M hM with h|h
  .rcases hdZ u M h with h|h;.exact .inl h
   .exact .inr (.inr h)
  omega
 .match us,hlen with|_::_::_,_=>simp[lg]at hu
def PN{call:Go.bS.Call}(cP:eL P call)(hs:fQ X nt s a)(hdom:∀v,s.nv<=v->X.ρ v=none){f:Nat}{args:List AV}{cU:Array Value}{r:ir}(hargs:aI (VR X) args cU.toList)(hr:rK call s f args=some r)(hrun:(∃fn,P.funcs[f]?=some fn/\fn.body.isSome=true/\(fn.name== "runtime.NumGoroutine")=false)->(execOp a.eval o).run P X.w=.ok (.enter f cU) X.w):dS P X s a o dst aZ r:=by
 unfold rK at hr;split at hr;.cases hr
 .rename_i hnt;split at hr;.cases hr
  .rename_i r' cm ts n' hc;cases hr;intro K Q hK;have hm0:aM X (s.mem++[.lf]) s.aO:=hs.mem.congr (λlv sl=>mJ _ _ _) λ_=>rfl;obtain⟨hfn,vJ⟩:=cP f args (s.mem++[.lf]) s.aO s.nv r' cm ts n' hc X cU hm0 hdom (aI.gy hnt hargs);unfold Oper.wp;rw[hrun hfn];refine Calls.mono vJ ?_;rintro e w'⟨Z,v,rfl,rfl,Hs,hvZ,PM,hn,hdZ⟩;exact hK Z v Hs hvZ PM ⟨hn,λu L hL=>(hdZ u L hL).imp id .inr⟩
def PO{call:Go.bS.Call}(cP:eL P call)(hs:fQ X nt s a)(hfr:X.ρ aZ=none){f:Nat}{args:List AV}{cU:Array Value}{r:ir}(hargs:aI (VR X) args cU.toList)(hr:oX call s aZ f args=some r)(hrun:(∃fn,P.funcs[f]?=some fn/\fn.body.isSome=true/\(fn.name== "runtime.NumGoroutine")=false)->(execOp a.eval o).run P X.w=.ok (.enter f cU) X.w):dS P X s a o dst aZ r:=by
 unfold oX at hr;split at hr;.cases hr
 .rename_i aU ks hl;split at hr;.cases hr
  .rename_i r' cm ts n' hc;split at hr;.rename_i v hi;have hV:=Jl hs.mem (ks:=ks) hl hargs λp hp=>hp;have:=Cl (dst:=dst) cP hs hfr (pk:=0) (lv:=0) (sl:=0) (rd:=args.flatMap e9) hV hc hi (u:=[]) rfl hrun<;>grind
   grind
def Cx.all(X:Cx):Cx:={w:=X.w,F:=λb _=>b<X.w.heap.size,ρ:=λ_=>none,old:=λb=>b<X.w.heap.size}
def PR{call:Go.bS.Call}(cP:eL P call)(hs:fQ X nt s a)(hfr:X.ρ aZ=none){f:Nat}{args:List AV}{cU:Array Value}{r:ir}(hargs:aI (VR X) args cU.toList)(hr:oY call s aZ f args=some r)(hrun:(∃fn,P.funcs[f]?=some fn/\fn.body.isSome=true/\(fn.name== "runtime.NumGoroutine")=false)->(execOp a.eval o).run P X.w=.ok (.enter f cU) X.w):dS P X s a o dst aZ r:=by
 unfold oY at hr;split at hr;.cases hr
 .rename_i aU hl;split at hr;.cases hr
  .rename_i r' cm ts n' hc;split at hr;.rename_i v hi;cases hr;have hV:=Fp hs.mem [] hl hargs;have:=Cl (dst:=dst) cP hs hfr (pk:=0) (lv:=0) (sl:=0) (rd:=args.flatMap e9) hV hc hi (ks:=[]) (u:=[]) rfl hrun;exact this
   grind
def Zu(X:Cx)(hl:Low X):aM X.all [.lf] .lf:=by
 refine⟨λlv sl e he=>?_,λv hv=>by simp at hv,λk k' v v' L L' _ _ _ hv _ _ _=>?_,λ_ _ h=>h,λ_ h=>h,λb hb=>hl.lt b (hl.gb b hb),hl.gk⟩;.unfold aT at he;grind[Tr.get?,pZ,bM.av,Cx.all]
 .cases hv
def Cn{m:List (Tr bM)}{t:Tr Unit}(h:aM X m t){x:AV}{y:D}{v:Value}(hx:jd m x=some y)(hv:VC X x v):DR X.w X.all.F y v:=by
 have hsub:∀b o,X.F b o->X.all.F b o:=λb o hb=>h.qI b o hb;have SK:∀{els a cap sz b o}{R:Nat->Nat->Prop},v=.slice a els.length cap->els.length<=cap->(0<els.length->a=some ⟨b,o,none⟩)->fe X.w X.F R els b o sz->DR X.w X.all.F (.sl els) v:=by rintro els a cap sz b o R rfl h2 h3 h4;exact DR.jr (h4.mono hsub λq hq _=>Oe hq) rfl h2 h3
 cases x with
 |d x=>cases hx;exact DR.mono hsub hv|own els ow=>cases hx;cases ow with|full=>obtain⟨a,b,o,sz,h1,h2,h3⟩:=hv<;>grind|cT av tz=>obtain⟨a,b,o,sz,cap,h1,h2,h3,h4,_⟩:=hv<;>grind|aY=>obtain⟨a,b,o,sz,cap,h1,h2,h3,h4⟩:=hv<;>grind
 |ref lv sl av off len sz=>simp[jd]at hx;cases he:dQ m (.ref lv sl av off len sz)with|none=>grind|some els=>obtain⟨a,cap,sz',b,o,h1,h2,h3,h4⟩:=tu h he (.kQ hv)<;>grind
 |_=>cases hx
def Fu{m:List (Tr bM)}{t:Tr Unit}(h:aM X m t):∀{xs:List AV}{ys:List D}{vs:List Value},jy m xs=some ys->aI (VC X) xs vs->aI (DR X.w X.all.F) ys vs
 |[],ys,[],hx,_=>by cases hx;trivial|x::xs,ys,v::vs,hx,hv=>by
  simp[jy]at hx;split at hx;.rename_i y ys' h1 h2;cases hx;exact⟨Cn h h1 hv.1,Fu h h2 hv.2⟩
  grind|[],_,_::_,_,hv=>hv.elim|_::_,_,[],_,hv=>hv.elim
def Fv{α:Type}{sz:Nat}:∀{n:Nat}{l:List α},l.length=n*sz->(chunk sz n l).length=n/\(∀e∈chunk sz n l,e.length=sz)/\∀(i j:Nat)e x,(chunk sz n l)[i]?=some e->e[j]?=some x->j<sz/\i<n/\l[i*sz+j]?=some x
 |0,l,h=>⟨rfl,λe he=>(by cases he),λi j e x h1 _=>by simp[chunk]at h1⟩|n+1,l,h=>by
  have hl:(l.drop sz).length=n*sz:=by rw[ol,h,GE];omega
  obtain⟨h1,h2,h3⟩:=Fv (sz:=sz) hl;have ht:(l.take sz).length=sz:=by rw[io,h,GE];omega
  refine⟨by simp[chunk,h1],λe he=>?_,λi j e x he hx=>?_⟩
  .simp[chunk,dq]at he;rcases he with rfl|he;.exact ht
   .exact h2 e he
  .cases i with|zero=>
    cases he;have hj:j<sz:=by have:=(db.1 hx).1;omega
    rw[gg,be hj]at hx;exact⟨hj,by omega,by rw[Nat.zero_mul,m9];exact hx⟩|succ i=>obtain⟨g1,g2,g3⟩:=h3 i j e x he hx;refine⟨g1,by omega,?_⟩;simp at g3;rw[GE,show i*sz+sz+j=sz+(i*sz+j)by omega];exact g3
def Zv{m:List (Tr bM)}{t:Tr Unit}(h:aM X m t){x y:AV}{v:Value}(hx:mw m x=some y)(hv:VR X x v):V1 X.all y v:=by
 have one:∀{x:AV},(jd m x).map AV.d=some y->VC X x v->V1 X.all y v:=by intro x hx hv;obtain⟨d,hd,rfl⟩:=aV hx;exact .kQ (Cn h hd hv)
 cases x with
 |agg cs=>obtain⟨ds,hd,rfl⟩:=aV hx;obtain⟨vs,rfl,h3⟩:=hv;exact⟨vs,rfl,(Fu h hd h3).adA (X:=X.all)⟩|fL f c=>cases c with|nil=>cases hx;exact .kQ (Hr hv)|cons=>simp[mw,jd]at hx
 |fX lv sl av off n sz=>
  simp[mw]at hx;split at hx
  .rename_i cs hb;split at hx
   .obtain⟨ds,hd,rfl⟩:=aV hx;obtain⟨L,hL,rfl,hn⟩:=hv;have hg:aT m lv sl=some (.box av cs):=by
     unfold pV at hb;split at hb
     .split at hb;.simp_all
      .cases hb
     .cases hb
    obtain⟨L',hL',hE⟩:=h.gz lv sl _ hg;have hL':X.ρ av=some L':=hL';rw[hL]at hL';cases hL';obtain⟨_,hblk,hno,hcell⟩:=hE;have hlen:((cs.drop off).take (n*sz)).length=n*sz:=by simp;omega
    have hdl:ds.length=n*sz:=by
     have:∀{xs:List AV}{ys:List D},jy m xs=some ys->ys.length=xs.length:=by intro xs;induction xs with|nil=>intro ys h;cases h;rfl|cons x xs ih=>
       intro ys h;simp[jy]at h;split at h;.rename_i h2;cases h;simp[ih h2]
       .cases h
     rw[this hd,hlen]
    obtain⟨c1,c2,c3⟩:=Fv hdl;refine .kQ (DR.jr (b:=L.b) (o:=L.o+off) (sz:=sz) ⟨c2,λi e j x h1 h2=>?_⟩ c1 (bd _) λ_=>rfl);obtain⟨g1,g2,g3⟩:=c3 i j e x h1 h2;refine⟨hblk.lt,?_⟩;have cell:∀{xs:List AV}{ys:List D},jy m xs=some ys->∀(k:Nat)(y:D),ys[k]?=some y->∃a,xs[k]?=some a/\jd m a=some y:=by intro xs;induction xs with|nil=>intro ys h k y hk;cases h;simp at hk|cons a xs ih=>
      intro ys h k y hk;simp[jy]at h;split at h;.rename_i z zs h1 h2;cases h;cases k with|zero=>cases hk;exact⟨a,rfl,h1⟩|succ k=>simpa using ih h2 k y (by simpa using hk)
      .cases h
    obtain⟨a,ha,hca⟩:=cell hd _ _ g3;rw[gg]at ha;split at ha;.simp at ha;obtain⟨u,hu,hvc⟩:=hcell _ _ ha;refine⟨u,?_,Cn h hca hvc⟩;rw[show L.o+off+i*sz+j=L.o+(off+(i*sz+j))by omega];exact hu
    .cases ha
   grind
  grind|jU cs=>simp[mw,jd]at hx|_=>simp only[mw]at hx;exact one hx hv
def Jo{m:List (Tr bM)}{t:Tr Unit}(h:aM X m t):∀{xs ys:List AV}{vs:List Value},wQ m xs=some ys->aI (VR X) xs vs->aI (V1 X.all) ys vs
 |[],ys,[],hx,_=>by cases hx;trivial|x::xs,ys,v::vs,hx,hv=>by
  simp[wQ]at hx;split at hx;.rename_i y ys' h1 h2;cases hx;exact⟨Zv h h1 hv.1,Jo h h2 hv.2⟩
  grind|[],_,_::_,_,hv=>hv.elim|_::_,_,[],_,hv=>hv.elim
def Co{A B:Cx}{x:AV}{v:Value}(h:BR x=true)(hv:VC A x v):VC B x v:=by
 unfold BR at h;split at h;.cases hv with|sc v h1=>exact DR.sc v h1
 .cases hv with|sl els a n cap sz b o g hn hcap hsz ha hF hc hr=>exact DR.sl [] a n cap sz b o g hn hcap (λ_ h=>by cases h) ha (λ_ _ _ _ h=>by cases h) (λ_ _ _ _ h=>by cases h) (λ_ _ _ _ h=>by cases h)
 grind
def zY{A B:Cx}:∀{xs:List AV}{vs:List Value},xs.all BR=true->aI (VC A) xs vs->aI (VC B) xs vs|[],[],_,_=>trivial|x::xs,v::vs,h,hv=>by rw[fg,ba]at h;exact⟨Co h.1 hv.1,zY h.2 hv.2⟩|[],_::_,_,hv=>hv.elim|_::_,[],_,hv=>hv.elim
def vK{A B:Cx}{x:AV}{v:Value}(h:E6 x=true)(hv:V1 A x v):V1 B x v:=by cases x with|agg cs=>obtain⟨vs,rfl,h3⟩:=hv;exact⟨vs,rfl,zY h h3⟩|d x=>exact .kQ (Co (A:=A) h hv)|_=>cases h
def zZ{A B:Cx}:∀{xs:List AV}{vs:List Value},xs.all E6=true->aI (V1 A) xs vs->aI (V1 B) xs vs|[],[],_,_=>trivial|x::xs,v::vs,h,hv=>by rw[fg,ba]at h;exact⟨vK h.1 hv.1,zZ h.2 hv.2⟩|[],_::_,_,hv=>hv.elim|_::_,[],_,hv=>hv.elim
def Mh{A B:Cx}{x:AV}{v:Value}(h:Sk x=true)(hv:VR A x v):VR B x v:=by cases x with|jU cs=>obtain⟨vs,rfl,h3⟩:=hv;exact⟨vs,rfl,zZ h h3⟩|agg cs=>exact .wV (vK (A:=A) h hv)|d x=>exact .wV (vK (A:=A) h hv)|_=>cases h
def Fw{call:Go.bS.Call}(cP:eL P call)(hs:fQ X nt s a){f:Nat}{args:List AV}{cU:Array Value}{r:ir}(hargs:aI (VR X) args cU.toList)(hr:lu call s f args=some r)(hrun:(∃fn,P.funcs[f]?=some fn/\fn.body.isSome=true/\(fn.name== "runtime.NumGoroutine")=false)->(execOp a.eval o).run P X.w=.ok (.enter f cU) X.w):dS P X s a o dst aZ r:=by
 unfold lu at hr;split at hr;.cases hr
 .rename_i aU hl;split at hr;.cases hr
  .rename_i r' cm ts n' hc;split at hr;case h_2=>cases hr
   rename_i v hi;split at hr;case h_2=>cases hr
   rename_i hfl;cases hr;intro K Q hK;have hV:=Jo hs.mem hl hargs;obtain⟨hfn,vJ⟩:=cP f aU [.lf] .lf 0 r' cm ts n' hc X.all cU (Zu X hs.mem.Bh) (λ_ _=>rfl) hV;unfold Oper.wp;rw[hrun hfn];refine Calls.mono vJ ?_;rintro e w'⟨Z,v',rfl,rfl,Hs,hvZ,PM,_,_⟩;have hblk:∀b,b<X.w.heap.size->Z.w.heap[b]?=X.w.heap[b]?:=λb hb=>Hs.below.block b hb;let Y:Cx:={w:=Z.w,F:=X.F,ρ:=X.ρ,old:=X.old};have hx:Ext X Y:=⟨rfl,Hs.below.mono hs.mem.low,λ_ _ h=>h,λb o h=>Hs.keep b o (hs.mem.qI b o h),λ_ _ h=>h,λ_ _ h=>.inl h⟩;have hm:aM Y s.mem s.aO:=hs.mem.move hx (λk v L hk hv hc=>by obtain⟨M,hM,h2⟩:=hs.mem.ew hk;rw[hv]at hM;injection hM with hM;subst hM;exact hblk _ (h2 hc).1) (λ_ _ _ _ _ _ _ h=>h) λb o h=>lj (hs.mem.qI b o h) Hs.below.size;have hvr:VR Y v v':=by
    rcases Mg PM hi hvZ with⟨_,hb⟩|⟨_,_,_,_,h,_⟩|h;.exact Mh hfl (hb {Z with F:=λ_ _=>True} ⟨rfl,λ_ _ _=>trivial,λh=>absurd h (by omega),λ_ _ _ _ _ _ _ _ _ _ _=>trivial⟩)
    .cases h
    .simp at h
   refine hK Y v' hx hvr ?_ (gj.I9 rfl);exact hm
def yO{call:Go.bS.Call}(cP:eL P call)(hs:fQ X nt s a)(hfr:X.ρ aZ=none)(Cm:aZ<s.nv)(hdom:∀v,s.nv<=v->X.ρ v=none){shared:Bool}{f pk lv sl:Nat}{args:List AV}{cU:Array Value}{r:ir}(hargs:aI (VR X) args cU.toList)(hr:gO call shared pk s lv sl aZ f args=some r)(hrun:(∃fn,P.funcs[f]?=some fn/\fn.body.isSome=true/\(fn.name== "runtime.NumGoroutine")=false)->(execOp a.eval o).run P X.w=.ok (.enter f cU) X.w):dS P X s a o dst aZ r:=by
 unfold gO at hr;split at hr
 .split at hr;.cases hr
  .rename_i aU ks hl;split at hr;.cases hr
   .rename_i r' cm ts n' hc;split at hr;.cases hr
    .rename_i v us hi;split at hr;.cases hr
     .rename_i u hu;cases hr;exact Cl cP hs hfr (Jk hs.mem (ks:=ks) hl hargs λp hp=>hp) hc hi hu hrun
 .split at hr;.cases hr
  .rename_i hnt;split at hr;.cases hr
   .rename_i r' cm ts n' hc;split at hr;.cases hr
    .rename_i v us hi;split at hr;.cases hr
     .rename_i u hu;cases hr;exact Jn cP hs hfr Cm hdom hargs hnt hc hi hu hrun
end
section
variable{P:Program}{X:Cx}{nt:NT}{s:St}{a:Act}{o:Oper}{dst:Option Nat}{aZ:Nat}
def yP{t:TypeId}{sz Bq:Nat}(h:wT P t=some (sz,Bq)):∃e i z,P.underlying t=some (.slice e)/\P.info? e=some i/\i.zero=some z/\z.cells.size=i.size/\0<i.size/\i.size=sz/\i.bytes=Bq:=by
 unfold wT at h;split at h
 .split at h
  .rename_i i z hi hz;split at h;.obtain⟨i',zv,hi',Hf,rfl⟩:=j3 hz<;>grind
   grind
  grind
 grind
def gQ{f:Nat}{args:Array Operand}{ts:Array TypeId}(ho:o.op=.call {callee:=.value (.func f),args,argTypes:=ts})(hf:∃fn,P.funcs[f]?=some fn/\fn.body.isSome=true/\(fn.name== "runtime.NumGoroutine")=false):(execOp a.eval o).run P X.w=.ok (.enter f (args.map a.eval)) X.w:=by obtain⟨fn,hf,hb,hn⟩:=hf;have:=pe (P:=P) (args:=args.map a.eval) (w:=X.w) hf hb hn;have he:a.eval (.func f)=.func (.func f) #[] #[]:=rfl;simp[execOp,ho,resolve,he,Deferred.ofValue,invoke]<;>omega
def PT{f:Nat}{t:Nat}{args:Array Operand}{ts:Array TypeId}{cap:Array Value}(ho:o.op=.call {callee:=.value (.tmp t),args,argTypes:=ts})(hv:a.eval (.tmp t)=.func (.func f) #[] cap)(hf:∃fn,P.funcs[f]?=some fn/\fn.body.isSome=true/\(fn.name== "runtime.NumGoroutine")=false):(execOp a.eval o).run P X.w=.ok (.enter f (args.map a.eval++cap)) X.w:=by obtain⟨fn,hf,hb,hn⟩:=hf;have:=pe (P:=P) (args:=args.map a.eval++cap) (w:=X.w) hf hb hn;simp[execOp,ho,resolve,hv,Deferred.ofValue,invoke]<;>omega
def xp(hs:fQ X nt s a)(hfr:X.ρ aZ=none){x y:Operand}{x' y':cq}{t u:TypeId}{sz Bq:Nat}{row:Bool}{lv sl:Nat}{E:gu}(ho:o.op=.call {callee:=.builtin .append,args:=#[x,y],argTypes:=#[t,u]})(hu:Hh P u)(he:wT P t=some (sz,Bq))(hx:dA x=some x')(hy:dA y=some y')(hr:eg s row lv sl aZ sz Bq (x'.ev s.slots) (y'.ev s.slots)=some E):dS P X s a o dst aZ (.cu E):=by obtain⟨e,i,z,ht,hi,hz,hzs,h0,rfl,rfl⟩:=yP he;obtain⟨Y,v,h1,h2,h3,h4,h5⟩:=tA (P:=P) (ty:=o.type) (n:=s.nv) hs.mem hfr ht hu hi hz hzs h0 (bD hs hx) (bD hs hy) hr;exact .value (zT (w:=Y.w) ho h1) h2 h3 h4 h5
def PU(hs:fQ X nt s a)(hfr:X.ρ aZ=none){t e:TypeId}{sz l h k:Nat}{x:Operand}{x':cq}{lo hi mx:Option Operand}{lo' hi' Ey:Option cq}{E:gu}(ho:o.op=.slice t x lo hi mx)(ht:P.underlying t=some (.slice e))(hsz:dg P e=some sz)(hx:dA x=some x')(hlo:rN lo=some lo')(hhi:rN hi=some hi')(Py:rN mx=some Ey)(bl:gh lo' s.slots 0=some l)(bh:gh hi' s.slots 0=some h)(bk:gh Ey s.slots 0=some k)(c4:Ey.isNone=true)(hr:I0 s aZ sz (x'.ev s.slots) l (hi'.map λ_=>h)=some E):dS P X s a o dst aZ (.cu E):=by
 have hv:=bD hs hx;have eh:∀n,(hi'.map λ_=>h).getD n=if hi'.isSome then h else n:=λn=>by cases hi'<;>rfl
 have em:Ey.isSome=false:=by simp_all
 unfold I0 at hr;split at hr
 .rename_i lv sl av off len sz' he;split at hr
  .rename_i els hrow;split at hr;.rename_i hc;obtain⟨rfl,c1,c2,c3⟩:=hc;cases hr;rw[he]at hv;obtain⟨L,ad,cap,hL,hLs,Md,hle,h4⟩:=hv;obtain⟨Y,hw,g1,g2,g3,g4⟩:=Ob (n:=s.nv) hs.mem hfr (h':=(hi'.map λ_=>h).getD len) ⟨L,ad,cap,hL,hLs,rfl,hle,h4⟩ hrow c1 c2 c3;have run:=Fe hs (P:=P) ho ht hsz Md hlo hhi Py bl bh bk (by rw[<-eh];exact c1) (by rw[<-eh,em];simp only[kv,n3];omega) (by rw[em];simp) (by rw[em];exactλh=>by cases h);rw[<-eh,em]at run;refine .value (Y:=Y) (by rw[hw];exact run) g1 g2 ?_ g4;exact g3
   grind
  grind
 grind
def EJ(hs:fQ X nt s a)(hfr:X.ρ aZ=none){x y:Operand}{x' y':cq}{t u e':TypeId}{sz Bq k:Nat}{kd:IntKind}{zl:List Value}{z:List D}{row:Bool}{lv sl:Nat}{E:gu}(ho:o.op=.call {callee:=.builtin .append,args:=#[x,y],argTypes:=#[t,u]})(hu:P.underlying u=some (.int kd))(ht':P.underlying t=some (.slice e'))(he:wT P t=some (sz,Bq))(hzp:o6 P e'=some zl)(EH:jY zl=some z)(hzl:z.length=sz)(hx:dA x=some x')(hy:dA y=some y')(hk:gN (y'.ev s.slots)=some k)(h63:k<=fN)(hby:k*Bq<=kP)(hr:eg s row lv sl aZ sz Bq (x'.ev s.slots) (.d (.sl (List.replicate k z)))=some E):dS P X s a o dst aZ (.cu E):=by
 obtain⟨e,i,zv,ht,hi,hz,hzs,h0,rfl,rfl⟩:=yP he;simp_all;obtain⟨i',zv',hi',Hf,rfl⟩:=j3 hzp;rw[hi]at hi';cases hi';rw[hz]at Hf;cases Hf;obtain⟨kk,hke⟩:=kR hk (bD hs hy);have hZ:aI (DR X.w X.F) z zv.cells.toList:=mI EH;have vD:=jA hZ hzl h0 k (k*i.size) (bd _);have ov:(madeCells zv.cells (k*i.size)).toList.take (k*i.size)=(Builtin.zeroCells zv.cells k).toList:=by rw[f8 (by simp[madeCells])];simp[madeCells,Builtin.zeroCells,hzs]
 rw[ov]at vD;obtain⟨Y,v,h1,h2,h3,h4,h5⟩:=xj (P:=P) (u:=u) (ty:=o.type) (yv:=a.eval y) (n:=s.nv) hs.mem hfr ht hi hz hzs h0 (bD hs hx) (λnews hn hnl=>by injection hn with hn;subst hn;refine⟨_,vD,?_⟩;rw[d6];exact .zero kd kk zv hu hz hzs hke h63 hby rfl) hr;exact .value (zT (w:=Y.w) ho h1) h2 h3 h4 h5
def Jp(hs:fQ X nt s a)(hfr:X.ρ aZ=none){f T:Nat}{x:Operand}{x':cq}{ts:Array TypeId}{sz Bq:Nat}{row:Bool}{lv sl:Nat}{E:gu}{els:List (List D)}(hc:Ho P f T)(ho:o.op=.call {callee:=.value (.func f),args:=#[x],argTypes:=ts})(he:wT P T=some (sz,Bq))(hx:dA x=some x')(hel:dQ s.mem (x'.ev s.slots)=some els)(hr:eg s row lv sl aZ sz Bq (.own [] .full) (x'.ev s.slots)=some E):dS P X s a o dst aZ (.cu E):=by
 obtain⟨e,i,z,ht,hi,hz,hzs,h0,rfl,rfl⟩:=yP he;have hv:=bD hs hx;obtain⟨ad,cap,_,_,_,cr,_⟩:=tu hs.mem hel hv;have ov:=Ji (P:=P) (n:=s.nv) hc hs.mem hfr ht hi hz hzs h0 hv ⟨ad,_,cap,cr⟩ hr;obtain⟨fn,hf,hb,_,_,hn⟩:=hc.fn;intro K Q hK;unfold Oper.wp;have hrun:(execOp a.eval o).run P X.w=.ok (.enter f #[a.eval x]) X.w:=by have:=gQ (P:=P) (X:=X) (a:=a) ho ⟨fn,hf,by rw[hb];rfl,hn⟩<;>grind
 rw[hrun];refine Calls.mono ov ?_;rintro en w'⟨Y,v,rfl,rfl,h2,h3,h4,h5⟩;exact hK Y v h2 h3 h4 h5
def I3.VR{X:Cx}{x:AV}{v:Value}(h:I3 X x v):Go.bS.VR X x v:=by cases x<;>first|exact h|exact h.elim
def SQ{call:Go.bS.Call}{sh:Nat->Bool}{dF:Nat->Option TypeId}(cP:eL P call)(ic:∀f T,dF f=some T->kr P f T)(hs:fQ X nt s a)(hfr:X.ρ aZ=none)(Cm:aZ<s.nv)(hdom:∀v,s.nv<=v->X.ρ v=none){c:Go.Call}{YX:cy}{row d:Nat}{r:ir}(ho:o.op=.call c)(hp:Sn P dF c=some YX)(hr:YX.run call sh s row d aZ=some r):dS P X s a o dst aZ r:=by obtain⟨callee,args,ts⟩:=c;obtain⟨args⟩:=args;obtain⟨ts⟩:=ts;unfold Sn at hp;cases callee with
 |value f=>cases f with
  |func f=>
   simp at hp;split at hp
   .rename_i T x hT;split at hp
    .rename_i hq;have hq:=bb hq;obtain⟨x',hx',rfl⟩:=aV hp;obtain⟨E,hE,rfl⟩:=aV hr;have hc:=(ic f T hT).sort hq;have hrun:(execOp a.eval o).run P X.w=.ok (.enter f #[a.eval x]) X.w:=by have:=gQ (P:=P) (X:=X) (a:=a) ho hc.fn;simpa using this
     exact Mc (_ts:=ts.toArray) hs hc hrun hx' hE
    .rename_i hq;split at hp
     .rename_i xl;have xl:=bb xl;obtain⟨x',hx',rfl⟩:=aV hp;obtain⟨E,hE,rfl⟩:=aV hr;have hc:=(ic f T hT).compact xl;have hrun:(execOp a.eval o).run P X.w=.ok (.enter f #[a.eval x]) X.w:=by have:=gQ (P:=P) (X:=X) (a:=a) ho hc.fn;simpa using this
      exact EI (_ts:=ts.toArray) hs hfr hc hrun hx' hE
     .rename_i xl;split at hp
      .rename_i sz Bq x' he hx';cases hp;simp[cy.run]at hr;split at hr;.rename_i els hel;obtain⟨E,hE,rfl⟩:=aV hr;exact Jp hs hfr ((ic f T hT).clone (by rintro rfl;cases hq) (by rintro rfl;cases xl)) ho he hx' hel hE
       .cases hr
      .cases hp
   .cases hp
   .split at hp
    .obtain⟨aU,has,rfl⟩:=aV hp;simp[cy.run]at hr;have hargs:=wW hs has;split at hr;.exact yO cP hs hfr Cm hdom (cU:=(Array.mk _).map a.eval) (by rw[mr];exact hargs) hr λhf=>gQ ho hf
     .exact Fw cP hs (cU:=(Array.mk _).map a.eval) (by rw[mr];exact hargs) hr λhf=>gQ ho hf
    .obtain⟨aU,has,rfl⟩:=aV hp;simp[cy.run]at hr;have hargs:=wW hs has;split at hr;.exact Fw cP hs (cU:=(Array.mk _).map a.eval) (by rw[mr];exact hargs) hr λhf=>gQ ho hf
     .split at hr;.exact PN cP hs hdom (cU:=(Array.mk _).map a.eval) (by rw[mr];exact hargs) hr λhf=>gQ ho hf
      split at hr;.exact PO cP hs hfr (cU:=(Array.mk _).map a.eval) (by rw[mr];exact hargs) hr λhf=>gQ ho hf
      split at hr;.exact PR cP hs hfr (cU:=(Array.mk _).map a.eval) (by rw[mr];exact hargs) hr λhf=>gQ ho hf
      .exact yO cP hs hfr Cm hdom (cU:=(Array.mk _).map a.eval) (by rw[mr];exact hargs) hr λhf=>gQ ho hf|tmp t=>
   obtain⟨aU,has,rfl⟩:=aV hp;simp[cy.run]at hr;split at hr;.rename_i f cap hq;have hargs:=wW hs has;have hv:=bD hs (x:=.tmp t) (y:=.t t) rfl;rw[hq]at hv;obtain⟨vs,hv,hcap⟩:=hv;refine yO cP hs hfr Cm hdom (cU:=(Array.mk args).map a.eval++vs) (by rw[Array.toList_append,mr];exact hargs.append (hcap.mono λ_ _=>I3.VR)) hr λhf=>PT ho hv hf
   .cases hr|const v=>cases hp|global g=>cases hp
 |invoke r m=>cases hp|builtin b=>
  simp at hp;split at hp
  .split at hp
   .rename_i e hu;obtain⟨x',hx',rfl⟩:=aV hp;simp[cy.run]at hr;split at hr;.rename_i els hq;rw[bT hr];exact .quiet hs (G0 hs ho hu hx' (.inl ⟨els,.inl hq,rfl⟩))
    .rename_i els ow hq;rw[bT hr];exact .quiet hs (G0 hs ho hu hx' (.inl ⟨els,.inr ⟨_,hq⟩,rfl⟩))
    .rename_i lv sl av off n sz hq;rw[bT hr];exact .quiet hs (G0 hs ho hu hx' (.inr (.inl ⟨_,_,_,_,_,hq⟩)))
    .rename_i lv sl av off n sz hq;rw[bT hr];exact .quiet hs (G0 hs ho hu hx' (.inr (.inr ⟨_,_,_,_,_,hq⟩)))
    .cases hr
   .rename_i hu;obtain⟨x',hx',rfl⟩:=aV hp;simp[cy.run]at hr;split at hr;.rename_i b hq;rw[bT hr];exact .quiet hs (Zl hs ho hu hx' hq)
    .cases hr
   .rename_i n e hu;cases hp;rw[bT hr];exact .quiet hs (N7 ho (.inl ⟨e,hu⟩))
   .rename_i e hu;split at hp;.rename_i n e' mq;cases hp;rw[bT hr];exact .quiet hs (N7 ho (.inr ⟨e,e',hu,mq⟩))
    .cases hp
   .cases hp
  .split at hp
   .rename_i e kd ht hu;split at hp
    .rename_i sz Bq z x' y' he hz hx' hy';split at hp
     .rename_i hzl;cases hp;obtain⟨zl,hzp,EH⟩:=bg hz;obtain⟨k,hk,hr⟩:=bg hr;split at hr;.rename_i hc;obtain⟨E,hE,rfl⟩:=aV hr;exact EJ hs hfr ho hu ht he hzp EH hzl hx' hy' hk hc.2.1 hc.2.2 hE
      .cases hr
     .cases hp
    .cases hp
   .cases hp
   .rename_i hu;split at hp;.rename_i sz Bq x' y' he hx' hy';cases hp;obtain⟨E,hE,rfl⟩:=aV hr;exact xp hs hfr ho (.inl ⟨_,hu⟩) he hx' hy' hE
    .cases hp
   .rename_i hu;split at hp;.rename_i sz Bq x' y' he hx' hy';cases hp;obtain⟨E,hE,rfl⟩:=aV hr;exact xp hs hfr ho (.inr hu) he hx' hy' hE
    .cases hp
   .cases hp
  .split at hp
   .rename_i e hu;split at hp
    .rename_i i x' y' hi hx' hy';split at hp
     .rename_i h0;injection hp with hp;subst hp;simp only[cy.run]at hr;split at hr
      .rename_i lv sl av off n sz' news hq hn;split at hr
       .rename_i cs hb;split at hr;.rename_i hc;obtain⟨rfl,qD,PD⟩:=hc;injection hr with hr;subst hr;exact Ma hs ho hu hi h0 hx' hy' hq hn hb qD (kE PD)
        .cases hr
       .cases hr
      .rename_i lv sl av off ln sz' news hq hn;split at hr
       .rename_i els hb;split at hr;.rename_i hc;obtain⟨rfl,qD,PD⟩:=hc;injection hr with hr;subst hr;exact L9 hs ho hu hi h0 hx' hy' hq hn hb qD (kE PD)
        .cases hr
       .cases hr
      .cases hr
     .cases hp
    .cases hp
   .cases hp
  .split at hp
   .rename_i e hu;split at hp
    .rename_i sz z x' hsz hz hx';split at hp
     .rename_i hc0;cases hp;obtain⟨zl,hzl,EH⟩:=bg hz;simp[cy.run]at hr;split at hr
      .rename_i lv sl av off ln sz' hq;split at hr
       .rename_i els hb;split at hr;.rename_i hc;obtain⟨rfl,qD,PD⟩:=hc;cases hr;exact xk hs ho hu hzl EH PD hc0.2 hx' hq hb qD
        .cases hr
       .cases hr
      .cases hr
     .cases hp
    .cases hp
   .cases hp
  .split at hp
   .rename_i e hu;obtain⟨x',hx',rfl⟩:=aV hp;simp[cy.run]at hr;split at hr;.rename_i els hq;rw[bT hr];exact .quiet hs (Zk hs ho hu hx' hq)
    .cases hr
   .cases hp
  .split at hp
   .rename_i x' y' hx' hy';cases hp;simp[cy.run]at hr;split at hr
    .rename_i k p k' q hq1 xl;split at hr;.subst_vars;rw[bT hr];exact .quiet hs (adB hs ho hx' hy' hq1 xl)
     .cases hr
    .cases hr
   .cases hp
  .split at hp
   .rename_i x' y' hx' hy';cases hp;simp[cy.run]at hr;split at hr
    .rename_i k p k' q hq1 xl;split at hr;.subst_vars;rw[bT hr];exact .quiet hs (adC hs ho hx' hy' hq1 xl)
     .cases hr
    .cases hr
   .cases hp
  .cases hp
end
section
variable{P:Program}{X:Cx}{nt:NT}{s:St}{a:Act}{o:Oper}{dst:Option Nat}{aZ:Nat}
def Ht{t:TypeId}{fs:Array Field}{zl:List Value}{pl:List (Nat×Nat)}{it:TypeInfo}{z:Value}(hi:P.info? t=some it)(hz:it.zero=some z)(_h:zl=z.cells.toList)(ht:P.underlying t=some (.struct fs))(hp:GU P fs=some pl)(parts:List (Nat×Value)):P.built t parts=Instr.fill (pl.toArray[·]?) z.cells parts:=by unfold GU at hp;simp[Program.built,hi,ht,hz,hp]
def adK{call:Go.bS.Call}{sh:Nat->Bool}{dF:Nat->Option TypeId}(cP:eL P call)(ic:∀f T,dF f=some T->kr P f T)(hs:fQ X nt s a)(hfr:X.ρ aZ=none)(Cm:aZ<s.nv)(hdom:∀v,s.nv<=v->X.ρ v=none){YX:cy}{row d:Nat}{r:ir}(hp:Eu P dF o.op=some YX)(hr:YX.run call sh s row d aZ=some r):dS P X s a o dst aZ r:=by cases ho:o.op with
 |move x=>rw[ho]at hp;obtain⟨x',hx,rfl⟩:=aV hp;exact Ce hs hfr (by simp[execOp,ho]) hx hr|assign x=>rw[ho]at hp;obtain⟨x',hx,rfl⟩:=aV hp;exact Ce hs hfr (by simp[execOp,ho]) hx hr|pick c x y=>
  rw[ho]at hp;simp[Eu]at hp;split at hp;.rename_i c' x' y' hc hx hy;cases hp;obtain⟨b,hb,hr⟩:=bg hr;rw[bT hr];exact .quiet hs (Zg hs ho hc hx hy hb)
  .cases hp|alloc t=>rw[ho]at hp;obtain⟨z,hz,hp⟩:=bg hp;obtain⟨cs,hcs,rfl⟩:=aV hp;cases hr;exact B2 hs hfr ho hz hcs|box t x=>
  rw[ho]at hp;obtain⟨x',hx,rfl⟩:=aV hp;simp only[cy.run]at hr;split at hr;.obtain⟨cs,hcs,rfl⟩:=aV hr;exact Sy hs hfr ho hx hcs
  .obtain⟨cs,hcs,rfl⟩:=aV hr;exact Sy hs hfr ho hx hcs|build t ps=>
  rw[ho]at hp;simp only[Eu]at hp;split at hp
  .rename_i z fs hz ht;split at hp;.rename_i z' pl Zp hpl;obtain⟨l,hl,rfl⟩:=aV hp;obtain⟨cs,hcs,hr⟩:=bg hr;rw[bT hr];obtain⟨it,zv,hi,Hf,rfl⟩:=j3 hz;exact .quiet hs (I6 hs _ ho Zp (Ht hi Hf rfl ht hpl) hl hcs hi)
   .cases hp
  .rename_i z n e hz ht;split at hp;.rename_i z' sz Zp hsz;obtain⟨l,hl,rfl⟩:=aV hp;obtain⟨cs,hcs,hr⟩:=bg hr;rw[bT hr];obtain⟨it,zv,hi,Hf,rfl⟩:=j3 hz;obtain⟨ie,hie,adx⟩:=fZ hsz;refine .quiet hs (I6 hs (λi=>some (i*sz,sz)) ho Zp (λparts=>?_) hl hcs hi);simp[Program.built,hi,ht,Hf,hie,adx]
   .cases hp
  .cases hp|buildSlice t n ps=>
  rw[ho]at hp;simp[Eu]at hp;split at hp
  .rename_i e ht;split at hp
   .rename_i sz z l hsz hz hl;split at hp
    .rename_i hc;cases hp;obtain⟨zl,hzl,EH⟩:=bg hz;simp only[cy.run]at hr;split at hr
     .split at hr;.cases hr
      .rename_i hn;obtain⟨cs,hf,rfl⟩:=aV hr;exact Jb (P:=P) (dst:=dst) (d:=d) hs hfr ho ht hsz hzl EH hl hc.1 hc.2.1 hc.2.2 (beq_false.1 hn) hf
     split at hr;.cases hr
     .rename_i els ks hf;have:=λrd d=>EG (P:=P) (dst:=dst) (rd:=rd) (d:=d) hs hfr ho ht hsz hzl EH hl hc.1 hc.2.1 hc.2.2 hf;split at hr;.cases hr;exact(this _ d).1
      .split at hr;.cases hr
       .rename_i hnk;cases hr;exact(this _ d).2 hnk
    .cases hp
   .cases hp
  .cases hp|insert t m k v=>rw[ho]at hp;cases hp|load t x=>
  rw[ho]at hp;simp[Eu]at hp;split at hp
  .rename_i sz agg x' hsz th hx;split at hp;.rename_i h1;cases hp;obtain⟨cs,hcs,hr⟩:=bg hr;obtain⟨v,hv,rfl⟩:=aV hr;exact .quiet hs (wY hs ho hsz th h1 hx hcs hv)
   .cases hp
  .cases hp|store t x v=>
  rw[ho]at hp;simp[Eu]at hp;split at hp;.rename_i sz x' v' hsz hx hv;cases hp;obtain⟨e,he,rfl⟩:=aV hr;exact SA hs ho hsz hx hv he
  .cases hp|ready g=>rw[ho]at hp;cases hp|waits g=>rw[ho]at hp;cases hp|nilCheck x=>
  rw[ho]at hp;obtain⟨x',hx,rfl⟩:=aV hp;simp[cy.run]at hr;split at hr;.rename_i lv sl av i off hq;rw[bT hr];exact .quiet hs (tj hs ho hx hq (.inl ⟨_,_,_,_,_,rfl⟩))
  .rename_i e off hq;rw[bT hr];exact .quiet hs (tj hs ho hx hq (.inr (.inl ⟨_,_,rfl⟩)))
  .rename_i f cs hq;rw[bT hr];exact .quiet hs (tj hs ho hx hq (.inr (.inr ⟨_,_,rfl⟩)))
  .cases hr|binOp op t x y u=>
  rw[ho]at hp;simp[Eu]at hp;split at hp
  .rename_i x' y' hx hy;have plain:∀{YX:cy},YX=.bin op x' y'->YX.run call sh s row d aZ=some r->dS P X s a o dst aZ r:=by rintro YX rfl hr;obtain⟨v,hv,hr⟩:=bg hr;rw[bT hr];exact .quiet hs (adu hs ho hx hy hv)
   have cmp:∀(neg:Bool),op=(if neg then .neq else .eql)->N3 P op neg t x' y'=some YX->dS P X s a o dst aZ r:=by
    intro neg hop hc;have ho':o.op=.binOp (if neg then .neq else .eql) t x y u:=by rw[ho,hop]
    unfold N3 at hc;split at hc
    .rename_i hu;cases hc;simp[cy.run]at hr;split at hr;.rename_i p q hp hq;rw[bT hr];exact .quiet hs (adv hs ho' hu hx hy hp hq)
     .cases hr
    .simp_all
    .simp_all
    .cases hc;simp[cy.run]at hr
    .rename_i ms hu;split at hc
     .cases hc;simp[cy.run]at hr;split at hr;.rename_i hq;rw[bT hr];exact .quiet hs ((I5 hs ho' hu hx hy).1 hq)
      .rename_i hq;rw[bT hr];exact .quiet hs ((I5 hs ho' hu hx hy).2 hq)
      .cases hr
     .cases hc
    .rename_i fs hu;split at hc;.cases hc
     .rename_i hg;split at hc
      .rename_i l sz hl hsz;cases hc;simp[cy.run]at hr;split at hr
       .rename_i xs ys hxs hys;split at hr;.cases hr
        .rename_i hlen;obtain⟨h3,h4⟩:=tl.1 hlen;obtain⟨b,hb,hr⟩:=bg hr;rw[bT hr];exact .quiet hs (Su hs ho' hu (by simpa using hg) hl hsz hx hy hxs hys (Classical.byContradiction h3) (Classical.byContradiction h4) hb)
       .cases hr
      .cases hc
    .cases hc
   split at hp;.exact cmp false rfl hp
   .exact cmp true rfl hp
   .simp_all
  .cases hp|unOp op t x=>rw[ho]at hp;obtain⟨x',hx,rfl⟩:=aV hp;obtain⟨v,hv,hr⟩:=bg hr;rw[bT hr];exact .quiet hs (aiL hs ho hx hv)|convert src ds x=>
  rw[ho]at hp;simp[Eu]at hp;split at hp;.rename_i dsc k hsrc hds;obtain⟨x',hx,rfl⟩:=aV hp;obtain⟨n,hn,hr⟩:=bg hr;rw[bT hr];exact .quiet hs (Zj hs ho hds (by rw[hsrc];rfl) hx hn)
  .rename_i e hsrc hds;split at hp;.rename_i he8;obtain⟨x',hx,rfl⟩:=aV hp;obtain⟨els,hel,hr⟩:=bg hr;obtain⟨l,hl,hr⟩:=aV hr;subst hr;exact .quiet hs (adD hs ho hsrc he8 hds hx hel hl)
   .cases hp
  .rename_i e hsrc hds;split at hp
   .rename_i he8;obtain⟨x',hx,rfl⟩:=aV hp;simp[cy.run]at hr;split at hr;.rename_i b hb;rw[bT hr];exact adE hs hfr ho hsrc hds he8 hx hb
    .cases hr
   .cases hp
  .cases hp|sliceToArrayPointer t x=>rw[ho]at hp;cases hp|makeInterface t x=>rw[ho]at hp;cases hp;simp[cy.run]at hr|makeFunc fn first cap=>
  rw[ho]at hp;simp only[Eu]at hp;split at hp
  .split at hp
   .rename_i h0;obtain⟨cap',hcap,rfl⟩:=aV hp;simp at h0;subst h0;simp only[cy.run]at hr;split at hr;.rename_i hall;rw[bT hr];exact .quiet hs (zS hs ho hcap hall)
    .cases hr
   .cases hp
  .cases hp|makeMap t x=>cases x with|some _=>rw[ho]at hp;cases hp|none=>
   rw[ho]at hp;simp[Eu]at hp;split at hp
   .split at hp;.cases hp;cases hr;exact SF hs hfr ho
    .cases hp
   .cases hp
 |makeChan t x=>rw[ho]at hp;cases hp|makeSlice t l c=>
  rw[ho]at hp;simp[Eu]at hp;split at hp
  .rename_i e ht;split at hp
   .rename_i i z l' c' hi hz hl hc;split at hp
    .rename_i h0;cases hp;obtain⟨zl,hzl,EH⟩:=bg hz;simp[cy.run]at hr;split at hr
     .rename_i ln cn hln hcn;split at hr;.rename_i Fy;cases hr;exact Hg hs hfr ho ht hi hzl EH Fy.2.2.2 h0 hl hc hln hcn Fy.1 Fy.2.1 Fy.2.2.1
      .cases hr
     .cases hr
    .cases hp
   .cases hp
  .cases hp|slice t x lo hi mx=>
  rw[ho]at hp;simp[Eu]at hp;split at hp
  .rename_i e ht;split at hp
   .rename_i sz x' lo' hi' Ey hsz hx hlo hhi Py;split at hp;.cases hp
    .rename_i h0;cases hp;have c4:Ey.isSome=true->hi'.isSome=true:=by intro h;cases hi' with|some _=>rfl|none=>exact absurd (.inr ⟨h,rfl⟩) h0
     simp[cy.run]at hr;split at hr
     .rename_i l h k bl bh bk;split at hr;.rename_i hq;rw[ba,ba]at hq;obtain⟨E,hE,hr⟩:=aV hr;subst hr;exact PU hs hfr ho ht hsz hx hlo hhi Py bl bh bk hq.2.1 hE
      .obtain⟨v,hv,hr⟩:=bg hr;rw[bT hr];exact .quiet hs (Sw hs ho ht hsz hx hlo hhi Py bl bh bk c4 hv)
     .cases hr
   .cases hp
  .rename_i n e ht;split at hp
   .rename_i sz x' hsz hx;split at hp;.cases hp
    .rename_i h0;cases hp;simp[cy.run]at hr;split at hr
     .rename_i lv sl av i off hq;split at hr;.rename_i Zw;have Zw:=beq_true.1 Zw;subst Zw;rw[bT hr];exact .quiet hs (Pw hs ho ht hsz h0 hx hq)
      .cases hr
     .cases hr
   .rename_i k sz x' hsz hx;split at hp
    .rename_i h0;cases hp;simp[cy.run]at hr;split at hr
     .rename_i lv sl av i off hq;split at hr;.rename_i Zw;rw[ba]at Zw;have hi1:=beq_true.1 Zw.1;subst hi1;rw[bT hr];exact .quiet hs (Px hs ho ht hsz h0 (by simpa[Nat.blt_eq]using Zw.2) hx hq)
      .cases hr
     .cases hr
    .cases hp
   .cases hp
  .rename_i ht;split at hp
   .rename_i x' lo' hi' hx hlo hhi;cases hp;simp[cy.run]at hr;split at hr
    .rename_i b hq;split at hr
     .rename_i l h bl bh;split at hr;.rename_i hc;rw[bT hr];exact .quiet hs (Pz hs ho ht hx hlo hhi hq bl bh hc.1 hc.2)
      .cases hr
     .cases hr
    .cases hr
   .cases hp
  .cases hp|fieldAddr t x f=>
  rw[ho]at hp;simp[Eu]at hp;split at hp
  .rename_i fs ht;split at hp
   .rename_i fl hfl;split at hp
    .rename_i sz x' hsz hx;split at hp;.cases hp
     .rename_i h0;cases hp;simp[cy.run]at hr;split at hr;.rename_i lv sl av i off hq;rw[bT hr];exact .quiet hs (wZ hs ho ht hfl hsz h0 hx (.inl ⟨_,_,_,_,_,hq,rfl⟩))
      .rename_i e off hq;rw[bT hr];exact .quiet hs (wZ hs ho ht hfl hsz h0 hx (.inr ⟨_,_,hq,rfl⟩))
      .cases hr
    .cases hp
   .cases hp
  .cases hp|field t x f=>
  rw[ho]at hp;simp[Eu]at hp;split at hp
  .rename_i fs ht;split at hp
   .rename_i fl hfl;split at hp
    .rename_i sz agg x' hsz th hx;split at hp
     .rename_i h1;cases hp;simp[cy.run]at hr;split at hr
      .rename_i cs hq;split at hr;.rename_i hle;obtain⟨v,hv,hr⟩:=bg hr;rw[bT hr];exact .quiet hs (Sv hs ho ht hfl hsz th h1 hx hq hle hv)
       .cases hr
      .cases hr
     .cases hp
    .cases hp
   .cases hp
  .cases hp|indexAddr t x i=>
  rw[ho]at hp;simp[Eu]at hp;split at hp
  .rename_i e ht;split at hp
   .rename_i sz x' i' hsz hx hi;split at hp;.cases hp
    .cases hp;obtain⟨n,hn,hr'⟩:=bg hr;clear hr;have hr:=hr';split at hr
     .rename_i els hq;split at hr
      .rename_i el hel;split at hr;.rename_i hlen;rw[bT hr];exact .quiet hs (oG hs ho ht hsz hx hi hn (.inl ⟨els,el,.inl hq,hel,hlen,rfl⟩))
       .cases hr
      .cases hr
     .rename_i els ow hq;split at hr
      .rename_i el hel;split at hr;.rename_i hlen;rw[bT hr];exact .quiet hs (oG hs ho ht hsz hx hi hn (.inl ⟨els,el,.inr ⟨_,hq⟩,hel,hlen,rfl⟩))
       .cases hr
      .cases hr
     .rename_i lv sl av off ln sz' hq;split at hr;.rename_i hc;obtain⟨hc1,rfl⟩:=hc;rw[bT hr];exact .quiet hs (oG hs ho ht hsz hx hi hn (.inr (.inl ⟨_,_,_,_,_,hq,hc1,rfl⟩)))
      .cases hr
     .rename_i lv sl av off ln sz' hq;split at hr;.rename_i hc;obtain⟨hc1,rfl⟩:=hc;rw[bT hr];exact .quiet hs (oG hs ho ht hsz hx hi hn (.inr (.inr ⟨_,_,_,_,_,hq,hc1,rfl⟩)))
      .cases hr
     .cases hr
   .cases hp
  .rename_i n e ht;split at hp
   .rename_i sz x' i' hsz hx hi;cases hp;obtain⟨k,hk,hr⟩:=bg hr;split at hr
    .rename_i hkn;split at hr;.rename_i lv sl av j off hq;rw[bT hr];exact .quiet hs (zR hs ho ht hsz hx hi hk hkn (.inl ⟨_,_,_,_,_,hq,rfl⟩))
     .rename_i e off hq;rw[bT hr];exact .quiet hs (zR hs ho ht hsz hx hi hk hkn (.inr ⟨_,_,hq,rfl⟩))
     .cases hr
    .cases hr
   .cases hp
  .cases hp|index t x i=>
  rw[ho]at hp;simp[Eu]at hp;split at hp
  .rename_i n e ht;split at hp
   .rename_i sz agg x' i' hsz th hx hi;split at hp
    .rename_i h1;cases hp;obtain⟨k,hk,hr⟩:=bg hr;split at hr
     .rename_i cs hq;split at hr;.rename_i hc;obtain⟨v,hv,hr⟩:=bg hr;rw[bT hr];exact .quiet hs (Pu hs ho ht hsz th h1 hx hi hq hk hc.1 hc.2 hv)
      .cases hr
     .cases hr
    .cases hp
   .cases hp
  .rename_i ht;split at hp
   .rename_i x' i' hx hi;cases hp;obtain⟨k,hk,hr⟩:=bg hr;split at hr
    .rename_i b hq;split at hr;.rename_i c hc;rw[bT hr];exact .quiet hs (Pv hs ho ht hx hi hq hk hc)
     .cases hr
    .cases hr
   .cases hp
  .cases hp|lookup t x k b=>cases b with|true=>rw[ho]at hp;cases hp|false=>
   rw[ho]at hp;simp[Eu]at hp;split at hp
   .rename_i kt et ht;split at hp
    .rename_i m' x' hk hz hm hx;cases hp;simp[cy.run]at hr;split at hr;.rename_i lv sl av b h1 h2;obtain⟨ks,h3,hr⟩:=aV hr;subst hr;exact .quiet hs (Zq hs ho ht hk hz hm hx h1 h2 h3)
     .cases hr
    .cases hp
   .cases hp
 |mapUpdate t m k v=>
  rw[ho]at hp;simp[Eu]at hp;split at hp
  .rename_i kt et ht;split at hp
   .rename_i m' x' hk hm hx;cases hp;simp[cy.run]at hr;split at hr;.rename_i lv sl av b h1 h2;obtain⟨ks,h3,hr⟩:=aV hr;subst hr;exact Zr hs ho ht hk hm hx h1 h2 h3
    .cases hr
   .cases hp
  .cases hp|mapEntry t m k=>rw[ho]at hp;cases hp|entryStore t m k v=>rw[ho]at hp;cases hp|range t x=>rw[ho]at hp;cases hp|next x b=>rw[ho]at hp;cases hp|entry x=>rw[ho]at hp;cases hp|typeAssert x t u b=>rw[ho]at hp;cases hp|extract x i=>
  rw[ho]at hp;obtain⟨x',hx,rfl⟩:=aV hp;simp[cy.run]at hr;split at hr;.rename_i vs hq;obtain⟨v,hv,hr⟩:=bg hr;rw[bT hr];exact .quiet hs (L4 hs ho hx hq hv)
  .cases hr|call c=>rw[ho]at hp;exact SQ cP ic hs hfr Cm hdom ho hp hr|go c=>rw[ho]at hp;cases hp|defer c=>rw[ho]at hp;cases hp|panic x=>rw[ho]at hp;cases hp;simp[cy.run]at hr|send c x=>rw[ho]at hp;cases hp|recv t c b=>rw[ho]at hp;cases hp|select cs b=>rw[ho]at hp;cases hp
end
end Go.bS
namespace Go.bS
open Go
def lC(s:St)(k:Nat×Nat×Nat):Option bM×Option Unit:=if k.1=0then(aT s.mem k.2.1 k.2.2,none)else if k.1=1/\k.2.2=0then(none,s.aO.get? k.2.1)else(none,none)
def Hu{s s':St}{lv sl:Nat}(h:lC s' (cF lv sl)=lC s (cF lv sl)):aT s'.mem lv sl=aT s.mem lv sl:=by simpa[lC,cF]using h
def Zx{s s':St}{v:Nat}(h:lC s' (kZ v)=lC s (kZ v)):s'.aO.get? v=s.aO.get? v:=by simpa[lC,kZ]using h
def cX(m m':List (Tr bM))(ks:List (Nat×Nat×Nat)):Prop:=∀lv sl,cF lv sl∈ks->aT m' lv sl=aT m lv sl
section
variable{m m':List (Tr bM)}
def nQ{lv sl av:Nat}(h:aT m' lv sl=aT m lv sl):rowAt m' lv sl av=rowAt m lv sl av:=by unfold rowAt;rw[h]
def nR{ks:List (Nat×Nat)}(h:cX m m' (jx ks)):eR m' ks=eR m ks:=List.map_congr_left λk hk=>by rw[h k.1 k.2 (j1.2 ⟨k,hk,rfl⟩)]
def z6{lv sl av:Nat}(h:aT m' lv sl=aT m lv sl):pV m' lv sl av=pV m lv sl av:=by unfold pV;rw[h]
def z7{lv sl av:Nat}(h:aT m' lv sl=aT m lv sl):setAt m' lv sl av=setAt m lv sl av:=by unfold setAt;rw[h]
def Mi{row t t' d:Nat}:(vu row t d).2=(vu row t' d).2:=by grind[vu]
def jB{x:AV}(h:cX m m' (dN x)):dQ m' x=dQ m x:=by cases x with|ref lv sl av off n sz=>simp[dQ];grind[dN,cX,sG]|d x=>cases x<;>rfl|_=>rfl
def j4{x:AV}(h:cX m m' (dN x)):gP m' x=gP m x:=by
 unfold gP;split;.rfl
 .exact jB h
def PV{x:AV}(h:cX m m' (dN x)):Be m' x=Be m x:=by cases x with|ref lv sl av off n sz=>simp[Be];rw[jB h]|own els o=>cases o<;>rfl|_=>rfl
def SS{x:AV}{y:D}{ks:List (Nat×Nat)}(h:Be m x=some (y,ks))(hs:cX m m' (jx ks)):Be m' x=some (y,ks):=by cases x with
 |ref lv sl av off n sz=>simp only[Be]at h⊢;cases he:dQ m (.ref lv sl av off n sz)with|none=>grind|some els=>rw[he]at h;cases h;rw[jB (m:=m) (λcV dy hk=>hs cV dy (by simpa[dN,jx]using hk)),he];rfl
 |own els o=>cases o<;>exact h|_=>exact h
def yQ:∀{l:List AV}{ys:List D}{ks:List (Nat×Nat)},ED m l=some (ys,ks)->cX m m' (jx ks)->ED m' l=some (ys,ks)
 |[],_,_,h,_=>h|x::r,ys,ks,h,hs=>by
  simp[ED]at h⊢;split at h;.rename_i y k ys' ks' h1 h2;cases h;rw[SS h1 λlv sl hk=>hs lv sl (by simp only[jx,fx,bm]at hk⊢;exact .inl hk),yQ h2 λlv sl hk=>hs lv sl (by simp only[jx,fx,bm]at hk⊢;exact .inr hk)]
  grind
def Mj{x:AV}{ys:List D}{ks:List (Nat×Nat)}(h:E4 m x=some (ys,ks))(hs:cX m m' (jx ks)):E4 m' x=some (ys,ks):=by unfold E4 at h⊢;cases hc:cellsOf x with|none=>grind|some cs=>rw[hc]at h;exact yQ h hs
def vL{s:Tr AV}{sz:Nat}:∀{ps:List (Nat×cq)}{els els':List (List D)}{ks:List (Nat×Nat)},qH m s sz els ps=some (els',ks)->cX m m' (jx ks)->qH m' s sz els ps=some (els',ks)
 |[],_,_,_,h,_=>h|(i,x)::r,els,els',ks,h,hs=>by
  simp[qH]at h⊢;split at h
  .rename_i e ks1 he;split at h
   .rename_i hc;split at h;.rename_i yN ks2 hf;cases h;rw[Mj he λlv sl hk=>hs lv sl (by simp[jx,fx,bm]at hk⊢;exact .inl hk)];simp[hc,and_self,kp];rw[vL hf λlv sl hk=>hs lv sl (by simp[jx,fx,bm]at hk⊢;exact .inr hk)]
    grind
   grind
  grind
def Jq{sz:Nat}{x:AV}(h:cX m m' (dN x)):sK m' sz x=sK m sz x:=by cases x with|ptr lv sl av i off=>grind[dN,cX,sK]|_=>rfl
def Hv{sz:Nat}{p v:AV}{e:gu}(h:rM m sz p v=some e)(hs:cX m m' e.rd):rM m' sz p v=some e:=by
 unfold rM at h⊢;split at h
 .rename_i lv sl av i off new hc;have key:cF lv sl∈e.rd->aT m' lv sl=aT m lv sl:=λhk=>hs lv sl hk;split at h
  .split at h;.grind
   .rename_i v' els hg;split at h
    .rename_i h1;split at h
     .rename_i e' ds ks hi hd;split at h;.cases h;rw[yQ hd λlv sl hk=>hs lv sl (dp _ hk)];have hfr:eR m' ks=eR m ks:=nR (m:=m) λlv sl hk=>hs lv sl (dp _ hk)<;>grind
      grind
     grind
    grind
   .cases h
   .cases h
   grind
  grind
 omega
def pq{x:AV}(h:cX m m' (dN x)):dm m' x=dm m x:=by cases x with|ref lv sl av off n sz=>simp[dm];rw[jB h]|own els o=>cases o<;>rfl|fL f c=>cases c<;>rfl|_=>rfl
def tC{x:AV}(h:cX m m' (dN x)):fc m' x=fc m x:=by
 unfold fc;split;.rfl
 .rfl
 .rw[PV h]
def oe:∀{l:List AV},cX m m' (l.flatMap dN)->fY m' l=fY m l|[],_=>rfl|x::r,h=>by simp[fY];rw[tC λlv sl hk=>h lv sl (by simp[hk]),oe λlv sl hk=>h lv sl (by simp only[eQ,bm];exact .inr hk)]
def Mk{x:AV}(h:cX m m' (e9 x)):yI m' x=yI m x:=by cases x with|agg cs=>simp[yI];rw[oe h]|_=>simp only[yI];rw[pq h]
def z8:∀{l:List AV},cX m m' (l.flatMap e9)->sH m' l=sH m l|[],_=>rfl|x::r,h=>by simp[sH];rw[Mk λlv sl hk=>h lv sl (by simp[hk]),z8 λlv sl hk=>h lv sl (by simp only[eQ,bm];exact .inr hk)]
end
section
variable{m:List (Tr bM)}
def PW{x:AV}{y:D}{ks:List (Nat×Nat)}(h:Be m x=some (y,ks)):∀p∈ks,cF p.1 p.2∈dN x:=by cases x with
 |ref lv sl av off n sz=>obtain⟨els,_,h⟩:=aV h<;>grind[Be,cF,dN]|d x=>cases h;simp|own els o=>cases o<;>simp only[Be]at h<;>first|(injection h with h;injection h with _ h2;subst h2;simp)|cases h
 |_=>cases h
def tD{x y:AV}{ks:List (Nat×Nat)}(h:fc m x=some (y,ks)):∀p∈ks,cF p.1 p.2∈dN x:=by
 unfold fc at h;split at h;.grind
 .grind
 .obtain⟨⟨z,k⟩,h1,h⟩:=aV h;cases h;exact PW h1
def og:∀{xs ys:List AV}{ks:List (Nat×Nat)},fY m xs=some (ys,ks)->∀p∈ks,cF p.1 p.2∈xs.flatMap dN
 |[],_,_,h=>by cases h;simp|x::r,_,_,h=>by
  simp[fY]at h;split at h
  .rename_i h1 h2;cases h;intro p hp;rw[eQ,bm];rcases bm.1 hp with hp|hp;.exact .inl (tD h1 p hp)
   .exact .inr (og h2 p hp)
  grind
def Ml{x y:AV}{ks:List (Nat×Nat)}(h:yI m x=some (y,ks)):∀p∈ks,cF p.1 p.2∈e9 x:=by
 have one:(dm m x).map (λy=>(y,([]:List (Nat×Nat))))=some (y,ks)->∀p∈ks,cF p.1 p.2∈e9 x:=by simp_all
 cases x with|agg cs=>obtain⟨⟨ys,k⟩,h1,h⟩:=aV h;cases h;exact og h1|_=>exact one h
def Aa:∀{xs ys:List AV}{ks:List (Nat×Nat)},sH m xs=some (ys,ks)->∀p∈ks,cF p.1 p.2∈xs.flatMap e9
 |[],_,_,h=>by cases h;simp|x::r,_,_,h=>by
  simp[sH]at h;split at h
  .rename_i h1 h2;cases h;intro p hp;rw[eQ,bm];rcases bm.1 hp with hp|hp;.exact .inl (Ml h1 p hp)
   .exact .inr (Aa h2 p hp)
  grind
end
def Bk(s s':St):ir->Prop|.cu e=>(mA (.cu e)=true->s'.mem.length=s.mem.length)/\∀k∈e.rd,lC s' k=lC s k|.all ..=>s'.mem=s.mem/\s'.aO=s.aO/\s'.nv=s.nv
def Bk.mem{s s':St}{e:gu}(h:Bk s s' (.cu e)):cX s.mem s'.mem e.rd:=λ_ _ hk=>Hu (h.2 _ hk)
section
variable{call:Call}{sh:Nat->Bool}{s s':St}{row d aZ:Nat}
def uP{l:List cq}(h:∀x∈l,x.ev s'.slots=x.ev s.slots):Et s'.slots l=Et s.slots l:=List.map_congr_left h
def lD{x:Option cq}{n:Nat}(h:∀y∈x.toList,y.ev s'.slots=y.ev s.slots):gh x s'.slots n=gh x s.slots n:=by cases x with|none=>rfl|some y=>grind[cq.ev,gh]
def tE:∀{ps:List (Nat×Nat×cq)}{cs:List AV},(∀x∈ps.map (·.2.2),x.ev s'.slots=x.ev s.slots)->qG s'.slots cs ps=qG s.slots cs ps
 |[],_,_=>rfl|(off,sz,x)::r,cs,h=>by
  simp[qG];rw[h x (by simp)];split
  .split;.exact tE λy hy=>h y (by simp only[gc,dq];exact .inr hy)
   .rfl
  .rfl
def Ab{m:List (Tr bM)}{sz:Nat}:∀{ps:List (Nat×cq)}{els:List (List D)},(∀x∈ps.map (·.2),x.ev s'.slots=x.ev s.slots)->qH m s'.slots sz els ps=qH m s.slots sz els ps
 |[],_,_=>rfl|(i,x)::r,els,h=>by
  simp[qH];rw[h x (by simp)];split
  .split;.rw[Ab λy hy=>h y (by simp only[gc,dq];exact .inr hy)]
   .rfl
  .rfl
def nS{v:AV}{u:Nat×Nat×Option bM}{us:List (Nat×Nat×Option bM)}{t:List (Nat×Bool)}{rd:List (Nat×Nat×Nat)}:mA (.cu {val:=v,dD:=u::us,cT:=t,rd:=rd})=true:=by cases rd<;>rfl
def PX{v:AV}{u:Nat×Nat×Option bM}{us:List (Nat×Nat×Option bM)}{t:List (Nat×Bool)}{rd:List (Nat×Nat×Nat)}:mA (.cu {val:=v,dD:=us++[u],cT:=t,rd:=rd})=true:=by simp_all[mA]
def qw{rw:Bool}{lv cV sl sz bytes:Nat}{x y:AV}{e:gu}(h:eg s rw lv sl aZ sz bytes x y=some e)(hl:mA (.cu e)=true->cV=lv)(hk:∀k∈e.rd,lC s' k=lC s k):eg s' rw cV sl aZ sz bytes x y=some e:=by
 have PY:cX s.mem s'.mem e.rd:=λ_ _ h=>Hu (hk _ h);unfold eg at h⊢;split at h;.cases h
 .rename_i news hn;split at h
  .rename_i hall;split at h
   .split at h
    .rename_i hc;split at h;.cases h;rw[j4 (m:=s.mem) PY,hn]<;>grind
     .split at h;.cases h
      .rename_i hne;cases h;rw[j4 (m:=s.mem) PY,hn];simp only[hall,kp];rw[be hc,bi hne,hl nS]
    grind
   .split at h;.rename_i hc;cases h;rw[j4 (m:=s.mem) λlv sl hk=>PY lv sl (dp _ hk),hn];simp only[hall,kp];rw[be (by rw[Zx (hk _ (ci ..))];exact hc)]
    grind
   .split at h
    .rename_i els hr;split at h;.cases h;rw[j4 (m:=s.mem) λlv sl hk=>PY lv sl (dp _ hk)];rw[nQ (PY _ _ (ci ..)),hr]<;>grind
     grind
    grind
   grind
  grind
def Cp{x:AV}{e:gu}(h:nL s aZ x=some e)(hk:∀k∈e.rd,lC s' k=lC s k):nL s' aZ x=some e:=by
 unfold nL at h⊢;split at h;.exact h
 .split at h
  .obtain⟨zs,hz,h⟩:=bg h;split at h;.cases h<;>simp_all[lC,cF,jm,j8,tf,rowAt]
   grind
  grind
 omega
def Mm{row lv cV d:Nat}{x:AV}(hl:mA (.cu (Bf row lv d aZ x))=true->cV=lv):Bf row cV d aZ x=Bf row lv d aZ x:=by unfold Bf at hl⊢<;>grind[mA,Bf]
def Jr{x:AV}{e:gu}(h:zP s x=some e)(hk:∀k∈e.rd,lC s' k=lC s k):zP s' x=some e:=by
 unfold zP at h⊢;split at h;.exact h
 .split at h
  .rename_i els hr;obtain⟨zs,hz,h⟩:=bg h;split at h;.cases h;rw[nQ (m:=s.mem) (Hu (hk _ (ci ..))),hr]<;>omega
   grind
  grind
 omega
def Mn{sz l:Nat}{hi:Option Nat}{x:AV}{e:gu}(h:I0 s aZ sz x l hi=some e)(hk:∀k∈e.rd,lC s' k=lC s k):I0 s' aZ sz x l hi=some e:=by
 unfold I0 at h⊢;split at h
 .split at h
  .split at h;.cases h<;>simp_all[lC,cF,rowAt]
   grind
  grind
 omega
section
variable{cm:List (Tr bM)}{top pk lv cV sl av:Nat}
def vl{k:Nat}{x y:AV}(h:bC cm top pk k lv sl av x=some (y,[])):bC cm top pk k cV sl av x=some (y,[]):=by cases x with
 |ref a b c off len sz=>
  simp[bC]at h⊢;split at h;.exact h
  .split at h<;>grind|own els o=>cases o with|full=>simp[bC]at h⊢<;>grind|cT v tz=>exact h|_=>exact h
 |fL f c=>cases c<;>exact h|_=>exact h
def tF:∀{l ys:List AV}{k:Nat},dR cm top pk lv sl av k l=some (ys,[])->dR cm top pk cV sl av k l=some (ys,[])
 |[],_,_,h=>h|x::r,ys,k,h=>by
  simp[dR]at h⊢;split at h;.rename_i y u ys' us h1 h2;simp at h;obtain⟨rfl,rfl,rfl⟩:=h;rw[vl h1,tF h2];rfl
  grind
def Cq{k:Nat}{x y:AV}(h:mF cm top pk lv sl av k x=some (y,[])):mF cm top pk cV sl av k x=some (y,[]):=by cases x with
 |agg cs=>simp only[mF]at h⊢;cases hc:dR cm top pk lv sl av k cs with|none=>grind|some p=>obtain⟨a,b⟩:=p;rw[hc]at h;cases h;rw[tF hc];rfl
 |_=>simp only[mF]at h⊢;exact vl h
def xq:∀{l ys:List AV}{k:Nat},gx cm top pk lv sl av k l=some (ys,[])->gx cm top pk cV sl av k l=some (ys,[])
 |[],_,_,h=>h|x::r,ys,k,h=>by
  simp[gx]at h⊢;split at h;.rename_i y u ys' us h1 h2;simp at h;obtain⟨rfl,rfl,rfl⟩:=h;rw[Cq h1,xq h2];rfl
  grind
def Mo{x y:AV}(h:jc cm top pk lv sl av x=some (y,[])):jc cm top pk cV sl av x=some (y,[]):=by cases x with
 |jU cs=>simp only[jc]at h⊢;cases hc:gx cm top pk lv sl av 1 cs with|none=>grind|some p=>obtain⟨a,b⟩:=p;rw[hc]at h;cases h;rw[xq hc];rfl
 |_=>simp only[jc]at h⊢;exact Cq h
end
section
variable{m m':List (Tr bM)}
def Ac{x:AV}(h:cX m m' (dN x)):jd m' x=jd m x:=by cases x with|ref lv sl av off n sz=>simp[jd];rw[jB h]|_=>rfl
def rT:∀{l:List AV},cX m m' (l.flatMap dN)->jy m' l=jy m l|[],_=>rfl|x::r,h=>by simp[jy];rw[Ac λlv sl hk=>h lv sl (by simp[hk]),rT λlv sl hk=>h lv sl (by simp only[eQ,bm];exact .inr hk)]
def Mp{x:AV}(h:cX m m' (rL m x)):mw m' x=mw m x/\rL m' x=rL m x:=by cases x with
 |agg cs=>exact⟨by simp only[mw];rw[rT h],rfl⟩|fL f c=>cases c<;>exact⟨rfl,rfl⟩|fX lv sl av off n sz=>have hb:=z6 (av:=av) (h lv sl (by simp[rL]));refine⟨?_,by simp only[rL,hb]⟩;simp[mw,hb];cases hq:pV m lv sl av with|none=>rfl|some cs=>simp;rw[rT λcV dy hk=>h cV dy (by simp only[rL,hq,dq];obtain⟨a,ha,hk⟩:=oi.1 hk;exact .inr (oi.2 ⟨a,nl (kb ha),hk⟩))]
 |ref lv sl av off n sz=>exact⟨by simp only[mw];rw[Ac h],rfl⟩|_=>exact⟨rfl,rfl⟩
def Ad:∀{l:List AV},cX m m' (l.flatMap (rL m))->wQ m' l=wQ m l/\l.flatMap (rL m')=l.flatMap (rL m)|[],_=>⟨rfl,rfl⟩|x::r,h=>by obtain⟨h1,h2⟩:=Mp (x:=x) λlv sl hk=>h lv sl (by simp[hk]);obtain⟨h3,h4⟩:=Ad (l:=r) λlv sl hk=>h lv sl (by simp only[eQ,bm];exact .inr hk)<;>grind[mw,cX,rL,wQ]
end
def xu{f:Nat}{args:List AV}{r:ir}(h:lu call s f args=some r)(hn:Bk s s' r):lu call s' f args=some r:=by
 unfold lu at h;split at h;.cases h
 .split at h;.cases h
  .split at h;case h_2=>cases h
   split at h;case h_2=>cases h
   cases h;obtain⟨h1,h2⟩:=Ad (m:=s.mem) (m':=s'.mem) (l:=args) hn.mem;unfold lu<;>grind
def rU{shd:Bool}{f:Nat}{args:List AV}{r:ir}(h:gO call shd row s (s.mem.length-1) d aZ f args=some r)(hn:Bk s s' r):gO call shd row s' (s'.mem.length-1) d aZ f args=some r:=by
 unfold gO at h⊢
 cases shd with|false=>
  simp at h⊢;split at h;.cases h
  .rename_i aU ks hl;split at h;.cases h
   .rename_i r' cm _ _ hc;split at h;.cases h
    .rename_i v us hi;split at h;.cases h
     .rename_i u hu;cases h;have hks:cX s.mem s'.mem (jx ks):=λlv sl hk=>hn.mem lv sl (by obtain⟨p,hp,he⟩:=j1.1 hk;rw[<-he];exact Aa hl p hp);rw[z8 (m:=s.mem) hn.mem,hl];simp[hc,nR hks];have hlen:eR s.mem ks++u≠[]->s'.mem.length=s.mem.length:=λhne=>hn.1 (by simp only[mA];cases hz:eR s.mem ks++u with|nil=>exact absurd hz hne|cons a b=>simp);by_cases hus:us=[];.subst hus;rw[Mo hi];cases hu;rfl
      .have hlen:=hlen (by
       unfold lg at hu;split at hu;.exact absurd rfl hus
       .injection hu with hu;subst hu;simp
       .cases hu);grind|true=>
  simp at h⊢;split at h;.cases h
  .split at h;.cases h
   .split at h;.cases h
    .split at h;.cases h
     .cases h<;>simp_all[gy,Bk,Call,bI,lg,jc]
def Hw{f:Nat}{args:List AV}{r:ir}(h:rK call s f args=some r)(hn:Bk s s' r):rK call s' f args=some r:=by
 unfold rK at h⊢;split at h;.cases h
 .split at h;.cases h
  .cases h<;>simp_all[gy,Bk,Call]
def Mq{m m':List (Tr bM)}{x:AV}(h:cX m m' (e9 x)):yJ m' x=yJ m x:=by cases x with|agg cs=>simp[yJ];rw[oe h]|_=>simp only[yJ];rw[tC h]
def Ae{m m':List (Tr bM)}:∀{l:List AV},cX m m' (l.flatMap e9)->sI m' l=sI m l|[],_=>rfl|x::r,h=>by simp[sI];rw[Mq λlv sl hk=>h lv sl (by simp[hk]),Ae λlv sl hk=>h lv sl (by simp only[eQ,bm];exact .inr hk)]
def Mr{m:List (Tr bM)}{x y:AV}{ks:List (Nat×Nat)}(h:yJ m x=some (y,ks)):∀p∈ks,cF p.1 p.2∈e9 x:=by cases x with|agg cs=>obtain⟨⟨ys,k⟩,h1,h⟩:=aV h;cases h;exact og h1|_=>simp only[yJ]at h;exact tD h
def Af{m:List (Tr bM)}:∀{xs ys:List AV}{ks:List (Nat×Nat)},sI m xs=some (ys,ks)->∀p∈ks,cF p.1 p.2∈xs.flatMap e9
 |[],_,_,h=>by cases h;simp|x::r,_,_,h=>by
  simp[sI]at h;split at h
  .rename_i h1 h2;cases h;intro p hp;rw[eQ,bm];rcases bm.1 hp with hp|hp;.exact .inl (Mr h1 p hp)
   .exact .inr (Af h2 p hp)
  grind
def Hx{f:Nat}{args:List AV}{r:ir}(h:oX call s aZ f args=some r)(hn:Bk s s' r):oX call s' aZ f args=some r:=by
 unfold oX at h⊢;split at h;.cases h
 .rename_i aU ks hl;split at h;.cases h
  .rename_i r' cm _ _ hc;split at h;.rename_i v hi;cases h;have hm:=hn.mem;rw[Ae hm,hl];simp[hc,hi];rw[nR (m:=s.mem) (m':=s'.mem) λlv sl hk=>hm lv sl ?_];obtain⟨p,hp,he⟩:=j1.1 hk;exact he▸Af hl p hp
   grind
def xw{m m':List (Tr bM)}:∀{l:List AV},cX m m' (l.flatMap dN)->qq m' l=qq m l|[],_=>rfl|x::r,h=>by simp[qq];rw[pq λlv sl hk=>h lv sl (by simp[hk]),xw λlv sl hk=>h lv sl (by simp only[eQ,bm];exact .inr hk)]
def Js{m m':List (Tr bM)}{x:AV}(h:cX m m' (e9 x)):sJ m' x=sJ m x:=by cases x with|agg cs=>simp[sJ];rw[xw h]|_=>simp only[sJ];rw[pq h]
def xx{m m':List (Tr bM)}:∀{l:List AV},cX m m' (l.flatMap e9)->rJ m' l=rJ m l|[],_=>rfl|x::r,h=>by simp[rJ];rw[Js λlv sl hk=>h lv sl (by simp[hk]),xx λlv sl hk=>h lv sl (by simp only[eQ,bm];exact .inr hk)]
def Hy{f:Nat}{args:List AV}{r:ir}(h:oY call s aZ f args=some r)(hn:Bk s s' r):oY call s' aZ f args=some r:=by
 unfold oY at h⊢;split at h;.cases h
 .rename_i aU hl;split at h;.cases h
  .split at h;.cases h;have hm:=hn.mem;rw[xx hm,hl]<;>grind
   grind
def PZ{op:cy}{r:ir}(h:op.run call sh s row d aZ=some r)(hs:∀x∈op.jw,x.ev s'.slots=x.ev s.slots)(hn:Bk s s' r):op.run call sh s' row d aZ=some r:=by cases op with
 |alloc z=>simp only[cy.run]at h⊢;injection h with h;subst h;rw[hn.1 nS]|box x=>
  simp only[cy.jw,dq,d7,lr,mi]at hs;simp only[cy.run,hs]at h⊢;split at h;.obtain⟨cs,hcs,rfl⟩:=aV h;rw[hcs,hn.1 nS];rfl
  obtain⟨cs,hcs,rfl⟩:=aV h;rw[hcs,hn.1 nS];rfl|makeSlice sz b z x y=>
  simp only[cy.jw,dq,d7,lr,kx,mi]at hs;simp only[cy.run,hs.1,hs.2]at h⊢;split at h
  .split at h;.rename_i hc;injection h with h;subst h;rw[be hc,hn.1 nS]
   .cases h
  .cases h|build z ps=>simp only[cy.run]at h⊢;rw[tE hs];exact h|buildSlice sz n z ps=>simp only[cy.run]at h⊢;cases qv:Nat.beq row 2with
  |true=>
   rw[qv]at h;simp only at h⊢;split at h;.cases h
   .cases hf:qG s.slots ((List.replicate n z).flatten.map .d) (ps.map λp=>(p.1*sz,sz,p.2))with|none=>rw[hf]at h;cases h|some cs=>rw[hf]at h;simp only[cf,fj]at h;subst h;rw[tE (s:=s) (λx hx=>hs x (by simp only[rc]at hx;exact hx)),hf,hn.1 nS];rfl
  |false=>
  rw[qv]at h;simp only at h⊢;rw[Ab hs];split at h;.cases h
  .rename_i els ks hf;split at h;.injection h with h;subst h;rw[vL hf hn.mem];simp only[nR (m:=s.mem) hn.mem]
   .split at h;.cases h
    .rename_i hk;injection h with h;subst h;rw[vL hf hn.mem];simp only[nR (m:=s.mem) hn.mem];rw[hn.1 PX,bi hk]
 |load sz agg x=>simp only[cy.jw,dq,d7,lr,mi]at hs;simp only[cy.run,hs]at h⊢;obtain⟨cs,hcs,h⟩:=bg h;obtain⟨v,hv,rfl⟩:=aV h;rw[Jq (m:=s.mem) hn.mem,hcs];simp only[ae,hv,cf]|store sz x y=>simp only[cy.jw,dq,d7,lr,kx,mi]at hs;simp only[cy.run,hs.1,hs.2]at h⊢;obtain⟨e,he,rfl⟩:=aV h;rw[Hv he hn.mem];rfl|append sz b x y=>simp only[cy.jw,dq,d7,lr,kx,mi]at hs;simp only[cy.run,hs.1,hs.2]at h⊢;obtain⟨e,he,rfl⟩:=aV h;rw[Mi (t':=s.mem.length-1),qw he (λhl=>by rw[hn.1 hl]) hn.2];rfl|mkSet=>simp only[cy.run]at h⊢;injection h with h;subst h;rw[hn.1 nS]|b2s x=>simp only[cy.jw,dq,d7,lr,mi]at hs;simp only[cy.run,hs]at h⊢;obtain⟨els,hel,h⟩:=bg h;obtain⟨l,hl,rfl⟩:=aV h;rw[jB (m:=s.mem) hn.mem,hel];simp only[ae,hl,cf]|IX x y=>
  simp only[cy.jw,dq,d7,lr,kx,mi]at hs;simp only[cy.run,hs.1,hs.2]at h⊢;split at h;.rename_i lv sl av b h1 h2;obtain⟨ks,hk,rfl⟩:=aV h;rw[z7 (hn.mem _ _ (ci ..)),hk];rfl
  .cases h|IY x y=>
  simp only[cy.jw,dq,d7,lr,kx,mi]at hs;simp only[cy.run,hs.1,hs.2]at h⊢;split at h;.rename_i lv sl av b h1 h2;obtain⟨ks,hk,rfl⟩:=aV h;rw[z7 (hn.mem _ _ (ci ..)),hk];rfl
  .cases h|pU sz b z x n=>
  simp only[cy.jw,dq,d7,lr,kx,mi]at hs;simp only[cy.run,hs.1,hs.2]at h⊢;obtain⟨k,hk,h⟩:=bg h;simp only[hk,ae];split at h;.rename_i hc;rw[be hc];obtain⟨e,he,rfl⟩:=aV h;rw[qw he (λhl=>by rw[hn.1 hl]) hn.2];rfl
  .cases h|IV x=>
  simp only[cy.jw,dq,d7,lr,mi]at hs;simp only[cy.run,hs]at h⊢;split at h
  .obtain⟨E,hE,rfl⟩:=aV h;unfold I1 at hE⊢;split at hE
   .rename_i cV dy av off len sz he;split at hE
    .rename_i els hr;split at hE;.rename_i hb;injection hE with hE;subst hE;rw[nQ (hn.mem _ _ (ci ..)),hr];simp only[hb];rw[hn.1 nS];rfl
     .cases hE
    .cases hE
   .cases hE
  .injection h with h;subst h;rw[Mm λhl=>by rw[hn.1 hl]]|compact x=>simp only[cy.jw,dq,d7,lr,mi]at hs;simp only[cy.run,hs]at h⊢;obtain⟨e,he,rfl⟩:=aV h;rw[Cp he hn.2];rfl|sort x=>simp only[cy.jw,dq,d7,lr,mi]at hs;simp only[cy.run,hs]at h⊢;obtain⟨e,he,rfl⟩:=aV h;rw[Jr he hn.2];rfl|clone sz b x=>
  simp only[cy.jw,dq,d7,lr,mi]at hs;simp only[cy.run,hs]at h⊢;split at h
  .rename_i els hq;obtain⟨e,he,rfl⟩:=aV h;rw[qw he (λhl=>by rw[hn.1 hl]) hn.2];have:∃els,dQ s'.mem (x.ev s.slots)=some els:=by
    refine⟨els,?_⟩;rw[jB (m:=s.mem) λlv sl hk=>hn.mem lv sl ?_,hq];unfold eg at he;split at he;.cases he
    .split at he
     .simp only at he;split at he
      .split at he;.injection he with he;subst he;exact hk
       .split at he;.cases he
        .injection he with he;subst he;exact hk
      .cases he
     .cases he
   obtain⟨els',h'⟩:=this;rw[h'];rfl
  .cases h|copy sz x y=>
  simp only[cy.jw,dq,d7,lr,kx,mi]at hs;simp only[cy.run,hs.1,hs.2]at h⊢;split at h
  .rename_i lv sl av off n sz' news hx hy;split at h
   .rename_i cs hb;split at h;.rename_i hc;injection h with h;subst h;have hm:=hn.mem;rw[j4 (m:=s.mem) λlv sl hk=>hm lv sl (dp _ hk),hy,hx];simp only;rw[z6 (hm _ _ (ci ..)),hb];simp only;rw[be hc]
    .cases h
   .cases h
  .rename_i lv sl av off n sz' news hx hy;split at h
   .rename_i cs hb;split at h;.rename_i hc;injection h with h;subst h;have hm:=hn.mem;rw[j4 (m:=s.mem) λlv sl hk=>hm lv sl (dp _ hk),hy,hx];simp only;rw[nQ (hm _ _ (ci ..)),hb];simp only;rw[be hc]
    .cases h
   .cases h
  .cases h|clear sz z x=>
  simp only[cy.jw,dq,d7,lr,mi]at hs;simp only[cy.run,hs]at h⊢;split at h
  .split at h
   .rename_i els hr;split at h;.rename_i hc;injection h with h;subst h;rw[nQ (hn.mem _ _ (ci ..)),hr];simp only;rw[be hc]
    .cases h
   .cases h
  .cases h|call f args=>simp only[cy.run]at h⊢;rw[uP (l:=args) hs];cases h7:Nat.beq row 7with|true=>rw[h7]at h;exact xu h hn|false=>cases h8:Nat.beq row 8with|true=>rw[h7,h8]at h;exact Hw h hn|false=>cases h9:Nat.beq row 9with|true=>rw[h7,h8,h9]at h;exact Hx h hn|false=>cases YY:Nat.beq row 10with|true=>rw[h7,h8,h9,YY]at h;exact Hy h hn|false=>rw[h7,h8,h9,YY]at h;exact rU h hn
 |wP f args=>simp only[cy.run]at h⊢;rw[uP (l:=args) hs];cases hsf:sh f with|true=>rw[hsf]at h;exact rU h hn|false=>rw[hsf]at h;exact xu h hn
 |zO x args=>
  simp only[cy.jw,dq,kx]at hs;simp only[cy.run,hs.1]at h⊢;split at h;.rw[uP hs.2];exact rU h hn
  .cases h|makeFunc f args=>simp only[cy.run]at h⊢;rw[uP (l:=args) hs];exact h|slice sz x a b c=>
  simp only[cy.jw,dq,bm,kx]at hs;simp only[cy.run,hs.1]at h⊢;rw[lD λy hy=>hs.2 y (.inl (.inl hy)),lD λy hy=>hs.2 y (.inl (.inr hy)),lD λy hy=>hs.2 y (.inr hy)];split at h
  .split at h;.obtain⟨e,he,rfl⟩:=aV h;rw[Mn he hn.2];rfl
   .exact h
  .cases h|rI x a b=>
  simp only[cy.jw,dq,bm,kx]at hs;simp only[cy.run,hs.1]at h⊢;split at h;.rw[lD λy hy=>hs.2 y (.inl hy),lD λy hy=>hs.2 y (.inr hy)];exact h
  .cases h|EC n=>exact h|bad=>exact h|pick a b c=>simp only[cy.jw,dq,d7,lr,kx,mi]at hs;simp only[cy.run,hs.1,hs.2.1,hs.2.2]at h⊢;exact h|nilCheck x|zN _ x|un _ x|conv _ x|field _ _ _ x|fieldAddr _ x|extract x _|len x|GO x|IW x|s2b x|sliceB _ _ x|sZ _ _ _ x=>simp only[cy.jw,dq,d7,lr,mi]at hs;simp only[cy.run,hs]at h⊢;exact h|bin _ x y|Y7 _ x y|Y8 _ _ _ x y|indexAddr _ x y|ld _ _ x y|rG _ _ _ x y|rH x y|GP x y|GQ x y|grow _ x y=>simp only[cy.jw,dq,d7,lr,kx,mi]at hs;simp only[cy.run,hs.1,hs.2]at h⊢;exact h
end
abbrev Fx:=Nat×Option Nat×ir
def k9(s:St):List Fx->St|[]=>s|x::r=>k9 (s.app x.2.1 x.2.2) r
def Ag:∀(l l':List Fx)(s:St),k9 s (l++l')=k9 (k9 s l) l'|[],_,_=>rfl|_::r,l',_=>Ag r l' _
structure View(α:Type)where
 rV:St->α
 gF:Fx->Bool
 off:∀(s:St)(x:Fx),gF x=false->rV (s.app x.2.1 x.2.2)=rV s
 on:∀(s s':St)(x:Fx),rV s=rV s'->rV (s.app x.2.1 x.2.2)=rV (s'.app x.2.1 x.2.2)
section
variable{α:Type}(V:View α)
theorem View.congr:∀(l:List Fx){s s':St},V.rV s=V.rV s'->V.rV (k9 s l)=V.rV (k9 s' l)|[],_,_,h=>h|x::r,_,_,h=>View.congr r (V.on _ _ x h)
theorem View.filter:∀(l:List Fx)(s:St),V.rV (k9 s l)=V.rV (k9 s (l.filter V.gF))|[],_=>rfl|x::r,s=>by cases h:V.gF x with|true=>simp[te,h,kp,k9];exact View.filter r _|false=>simp[te,h,k9,kv,n3];exact(View.congr V r (V.off s x h)).trans (View.filter r s)
end
def uQ(t:Tr AV)(dst:Option Nat)(v:AV)(n:Nat):dL (oa t dst v) n=if dst=some n then v else dL t n:=by unfold dL oa;cases dst with|none=>simp|some d=>simp[Tr.cD,fj]<;>grind
def qM(s:St)(d:Option Nat)(r:ir):(s.app d r).slots=oa s.slots d r.val:=by cases r<;>rfl
def Oh(t:Nat):View AV where
 rV s:=dL s.slots t;gF x:=x.2.1==some t;off s x h:=by rw[qM,uQ,bi (by simpa using h)]
 on s s' x h:=by rw[qM,qM,uQ,uQ,h]
def nE(m:List (Tr bM))(lv sl:Nat)(e:Option bM):(cH m lv sl e).length=m.length:=by simp[cH]
def dM:∀(u:List (Nat×Nat×Option bM))(m:List (Tr bM)),(bI m u).length=m.length|[],_=>rfl|(lv,sl,e)::r,m=>(dM r _).trans (nE m lv sl e)
def isAll:ir->Bool|.cu _=>false|.all ..=>true
def aq2:View Nat where
 rV s:=s.mem.length;gF x:=isAll x.2.2;off s x h:=by obtain⟨i,d,r⟩:=x;cases r with|cu e=>exact dM _ _|all=>cases h
 on s s' x h:=by obtain⟨i,d,r⟩:=x;cases r with|cu e=>exact(dM _ _).trans (h.trans (dM _ _).symm)|all=>rfl
def nvV:View Nat where
 rV s:=s.nv;gF x:=isAll x.2.2;off s x h:=by obtain⟨i,d,r⟩:=x;cases r with|cu e=>rfl|all=>cases h
 on s s' x h:=by obtain⟨i,d,r⟩:=x;cases r with|cu e=>exact h|all=>rfl
def P0{s:St}{d:Option Nat}{r:ir}(h:mA r=false):(s.app d r).mem=s.mem/\(s.app d r).aO=s.aO/\(s.app d r).nv=s.nv:=by cases r with|cu e=>simp[mA,pB,ba,xr]at h;simp[St.app,h.1.2,h.2];grind[eO,bI]|all=>cases h
def aiT:View (List (Tr bM)×Tr Unit×Nat)where
 rV s:=(s.mem,s.aO,s.nv);gF x:=mA x.2.2;off s x h:=by obtain⟨h1,h2,h3⟩:=P0 (s:=s) (d:=x.2.1) h;simp only[h1,h2,h3]
 on s s' x h:=by obtain⟨i,d,r⟩:=x;simp only[fi]at h;cases r with|cu e=>simp only[St.app,h.1,h.2.1,h.2.2]|all=>rfl
def xz{lv sl:Nat}:∀(u:List (Nat×Nat×Option bM))(m m':List (Tr bM)),aT m lv sl=aT m' lv sl->m.length=m'.length->aT (bI m u) lv sl=aT (bI m' u) lv sl|[],_,_,h,_=>h|(a,b,e)::r,m,m',h,hl=>xz r _ _ (by rw[cM,cM,h,hl]) (by grind[aT,cH])
def xA{lv sl:Nat}:∀(u:List (Nat×Nat×Option bM))(m:List (Tr bM)),cF lv sl∉u.map (λu=>cF u.1 u.2.1)->aT (bI m u) lv sl=aT m lv sl|[],_,_=>rfl|(a,b,e)::r,m,h=>by simp only[gc,dq,tl]at h;rw[bI,xA r _ h.2,cM,bi]<;>grind
def xB{v:Nat}:∀(u:List (Nat×Bool))(m m':Tr Unit),m.get? v=m'.get? v->(eO m u).get? v=(eO m' u).get? v|[],_,_,h=>h|(a,b)::r,m,m',h=>xB r _ _ (by rw[Tr.cD,Tr.cD,h])
def xC{v:Nat}:∀(u:List (Nat×Bool))(m:Tr Unit),kZ v∉u.map (λu=>kZ u.1)->(eO m u).get? v=m.get? v|[],_,_=>rfl|(a,b)::r,m,h=>by simp only[gc,dq,tl]at h;rw[eO,xC r _ h.2,Tr.cD,bi]<;>grind
def lE(k:Nat×Nat×Nat):ir->Bool|.cu e=>decide (k∈e.wr)|.all ..=>true
def Zy(lv sl:Nat):View (Option bM×Nat)where
 rV s:=(aT s.mem lv sl,s.mem.length);gF x:=lE (cF lv sl) x.2.2;off s x h:=by obtain⟨i,d,r⟩:=x;cases r with|cu e=>simp only[lE,gu.wr,bm,tl,mt]at h;simp only[St.app,dM,xA _ _ h.1]|all=>cases h
 on s s' x h:=by obtain⟨i,d,r⟩:=x;simp only[fi]at h;cases r with|cu e=>simp only[St.app,dM,xz _ _ _ h.1 h.2,h.2]|all=>rfl
def adL(v:Nat):View (Option Unit)where
 rV s:=s.aO.get? v;gF x:=lE (kZ v) x.2.2;off s x h:=by obtain⟨i,d,r⟩:=x;cases r with|cu e=>simp only[lE,gu.wr,bm,tl,mt]at h;exact xC _ _ h.2|all=>cases h
 on s s' x h:=by obtain⟨i,d,r⟩:=x;cases r with|cu e=>exact xB _ _ _ h|all=>rfl
def Clear:ir->ir->Prop|.cu a,.cu b=>(∀k∈a.rd,k∉b.wr)/\(∀k∈a.wr,k∉b.rd)/\∀k∈a.wr,k∉b.wr|a,b=>¬(mA a=true/\mA b=true)
def Clear.symm{a b:ir}(h:Clear a b):Clear b a:=by cases a<;>cases b<;>grind[Clear]
def Ms{a b:ir}(h:wS a b=false):Clear a b:=by·simp[wS,kh]at h;grind[gu.wr,meets,Clear]
def Clear.all{a b:ir}(h:Clear a b)(hab:isAll a=true\/isAll b=true)(ha:mA a=true)(hb:mA b=true):False:=by cases a<;>cases b<;>grind[mA,isAll,Clear]
def vM{a:ir}(h:isAll a=true):mA a=true:=by cases a<;>first|rfl|cases h
def Clear.gF{a b:ir}(h:Clear a b){k:Nat×Nat×Nat}(ha:lE k a=true)(hb:lE k b=true)(hla:mA a=true)(hlb:mA b=true):False:=by cases a<;>cases b<;>grind[mA,lE,Clear]
def Cr{a:ir}{k:Nat×Nat×Nat}(h:lE k a=true):mA a=true:=by cases a with|cu e=>simp only[lE,dj,gu.wr,bm]at h<;>grind[lE,mA]|all=>rfl
def Cs{l:List Nat}{n:Nat}:LY l n=true↔n∈l:=by simp_all[LY]
structure Zz(x y:bG):Prop where
 xy:∀t,x.dst=some t->t∉y.looks
 yx:∀t,y.dst=some t->t∉x.looks
 ne:∀t,x.dst=some t->y.dst≠some t
def Zz.symm{x y:bG}(h:Zz x y):Zz y x:=⟨h.yx,h.xy,λt h1 h2=>h.ne t h2 h1⟩
def apart_spec{x y:bG}(h:x.apart y=true):Zz x y:=by
 simp[bG.apart,ba]at h;refine⟨λt ht hm=>?_,λt ht hm=>?_,λt ht h'=>?_⟩;.have:=h.1.1;simp[BT,ht,Cs.2 hm]at this
 .have:=h.1.2;simp[BT,ht,Cs.2 hm]at this
 simp_all[N4,BT]
def Mt{call:Call}{sh:Nat->Bool}{s s':St}{o:bG}{aZ:Nat}{r:ir}(h:o.step call sh s aZ=some r)(hs:∀t∈o.looks,dL s'.slots t=dL s.slots t)(hn:Bk s s' r):o.step call sh s' aZ=some r:=by
 have hw:jo s'.slots o=jo s.slots o:=by unfold jo;split<;>simp_all[Bk,bG.looks,bG.step,Call,dL]
 unfold bG.step at h⊢;rw[hw];split at h;.cases h
 .refine PZ h (λx hx=>?_) hn;cases x with|t n=>exact hs n (by simp only[bG.looks,bm,oi];exact .inl ⟨_,hx,by simp[cq.slot]⟩)|c v=>rfl
 omega
structure Oi(call:Call)(sh:Nat->Bool)(mG:Nat)(all:List bG)(s0:St)(L:List Fx):Prop where
 lt:L.Pairwise λx y=>x.1<y.1dom:∀i,i<all.length↔∃x∈L,x.1=i
 step:∀pre x post,L=pre++x::post->∃o,all[x.1]?=some o/\x.2.1=o.dst/\o.step call sh (k9 s0 pre) (mG+x.1)=some x.2.2meet:∀x y,x∈L->y∈L->x.1<y.1->∀o,all[y.1]?=some o->o.oW.testBit x.1=true\/Clear x.2.2 y.2.2
def Ct{oW:Nat}{e:ir}:∀{eH:List (Nat×ir)},clear oW e eH=true->∀y∈eH,oW.testBit y.1=true\/Clear y.2 e
 |[],_,y,hy=>by cases hy|(i,x)::r,h,y,hy=>by
  simp[clear,ba,ib,fr]at h;rcases dq.1 hy with rfl|hy;.exact h.1.imp id Ms
  .exact Ct h.2 y hy
def xD{call:Call}{sh:Nat->Bool}{mG:Nat}{all:List bG}:∀(ops:List bG)(i:Nat)(eH:List (Nat×ir))(s s':St),(∀k,ops[k]?=all[i+k]?)->kf call sh mG i ops eH s=some s'->∃L:List Fx,s'=k9 s L/\L.map (·.1)=List.range' i ops.length/\(∀pre x post,L=pre++x::post->∃o,all[x.1]?=some o/\x.2.1=o.dst/\o.step call sh (k9 s pre) (mG+x.1)=some x.2.2/\(∀y∈pre,o.oW.testBit y.1=true\/Clear y.2.2 x.2.2)/\∀y∈eH,o.oW.testBit y.1=true\/Clear y.2 x.2.2)
 |[],i,eH,s,s',_,h=>by simp[kf,fj]at h;exact⟨[],h.symm,rfl,λpre x post h=>by simp at h⟩|o::r,i,eH,s,s',hall,h=>by
  simp[kf]at h;split at h;.cases h
  .rename_i e he;split at h;.rename_i hc;obtain⟨L,h1,h2,h3⟩:=xD r (i+1) ((i,e)::eH) _ _ (λk=>by have:=hall (k+1);rw[List.getElem?_cons_succ]at this;rw[this];congr 1;omega) h;refine⟨(i,o.dst,e)::L,h1,by simp[h2,List.range'_succ],λpre x post hp=>?_⟩;cases pre with|nil=>cases hp;exact⟨o,by have:=hall 0;simpa using this.symm,rfl,he,⟨λy hy=>absurd hy d7,λy hy=>Ct hc y hy⟩⟩|cons p pre=>
    simp at hp;obtain⟨rfl,hp⟩:=hp;obtain⟨o',g1,g2,g3,g4,g5⟩:=h3 pre x post hp;refine⟨o',g1,g2,g3,λy hy=>?_,λy hy=>g5 y (dp _ hy)⟩;rcases dq.1 hy with rfl|hy;.exact g5 _ (ci ..)
    .exact g4 y hy
   .cases h
def Oi.adM{call:Call}{sh:Nat->Bool}{mG:Nat}{all:List bG}{s s':St}(h:kf call sh mG 0 all [] s=some s'):∃L,s'=k9 s L/\Oi call sh mG all s L:=by
 obtain⟨L,h1,h2,h3⟩:=xD (all:=all) all 0 [] s s' (λk=>by simp) h;refine⟨L,h1,?_,λi=>?_,λpre x post hp=>?_,λx y hx hy hlt o ho=>?_⟩
 .have:(L.map (·.1)).Pairwise (·<·):=by rw[h2];exact List.pairwise_lt_range'
  exact List.pairwise_map.1 this
 .have:i∈L.map (·.1)↔i<all.length:=by rw[h2,List.mem_range'_1];omega
  rw[<-this,j1]
 .obtain⟨o,g1,g2,g3,_⟩:=h3 pre x post hp;exact⟨o,g1,g2,g3⟩
 .obtain⟨pre,post,rfl⟩:=wn hy;obtain⟨o',g1,g2,g3,g4,_⟩:=h3 pre y post rfl;rw[ho]at g1;cases g1;refine g4 x ?_;have hL:(pre++y::post).Pairwise λx y:Fx=>x.1<y.1:=by
   have:((pre++y::post).map (·.1)).Pairwise (·<·):=by rw[h2];exact List.pairwise_lt_range'
   exact List.pairwise_map.1 this
  rcases bm.1 hx with hx|hx;.exact hx
  .rcases dq.1 hx with rfl|hx;.omega
   .have:=(pb.1 (ut.1 hL).2.1).1 x hx;omega
def xE{y:bG}:∀{eH:List bG}{i:Nat},Br y i eH=true->∀k x,eH[k]?=some x->y.oW.testBit (i+k)=true\/Zz x y|[],_,_,k,x,hx=>by grind|p::r,i,h,k,x,hx=>by simp[Br,ba,ib]at h;cases k with|zero=>cases hx;exact h.1.imp id apart_spec|succ k=>have:=xE h.2 k x (by simpa using hx);rwa[show i+(k+1)=i+1+k by omega]
def vm:∀{l eH:List bG},nM eH l=true->∀i j x y,(eH++l)[i]?=some x->(eH++l)[j]?=some y->i<j->eH.length<=j->y.oW.testBit i=true\/Zz x y
 |[],eH,_,i,j,x,y,_,hy,_,hj=>by grind|o::r,eH,h,i,j,x,y,hx,hy,hij,hj=>by
  simp[nM,ba]at h;rcases i9 eH.length j with hl|hl
  .have e:eH++o::r=eH++[o]++r:=by simp
   rw[e]at hx hy;exact vm h.2 i j x y hx hy hij (by simp;omega)
  .have:j=eH.length:=by omega
   subst this;simp at hy;rw[pw hij]at hx;have:=xE h.1 i x hx<;>grind
section
variable{call:Call}{sh:Nat->Bool}{mG:Nat}{all:List bG}{s0:St}{L:List Fx}
def IL(s0:St)(L:List Fx)(p:Nat->Bool):St:=k9 s0 (L.filter λx=>p x.1)
def Hz(all:List bG)(p:Nat->Bool):Prop:=∀j o,all[j]?=some o->p j=true->∀k,k<j->o.oW.testBit k=true->p k=true
def Oi.split(h:Oi call sh mG all s0 L){i:Nat}(hi:i<all.length):∃pre x post,L=pre++x::post/\x.1=i/\(∀y∈pre,y.1<i)/\∀y∈post,i<y.1:=by
 obtain⟨x,hx,rfl⟩:=(h.dom i).1 hi;obtain⟨pre,post,rfl⟩:=wn hx;refine⟨pre,x,post,rfl,rfl,λy hy=>?_,λy hy=>?_⟩;.exact(ut.1 h.lt).2.2 y hy x (ci ..)
 .exact(pb.1 (ut.1 h.lt).2.1).1 y hy
def Jt(all:List bG)(i:Nat)(y:Fx):Prop:=(y.1<i->∀o,all[i]?=some o->o.oW.testBit y.1=true)/\(i<y.1->∀o,all[y.1]?=some o->o.oW.testBit i=true)
def part{α:Type}(V:View α){pre post:List Fx}{x:Fx}{p:Nat->Bool}(hpre:∀y∈pre,V.gF y=true->p y.1=true)(hpost:∀y∈post,V.gF y=true->p y.1=false)(hx:p x.1=false)(s:St):V.rV (k9 s ((pre++x::post).filter λx=>p x.1))=V.rV (k9 s pre):=by
 rw[V.filter,V.filter pre,List.filter_append];simp[hx,i6,kv,n3];have e1:post.filter (λa=>V.gF a&&p a.1)=[]:=by refine t7.2 λy hy hb=>?_<;>grind
 have e2:pre.filter (λa=>V.gF a&&p a.1)=pre.filter V.gF:=by refine wx λy hy=>?_<;>grind
 grind
def Cu{α:Type}(V:View α){p:Nat->Bool}(hc:Hz all p){pre post:List Fx}{x:Fx}(hpre:∀y∈pre,y.1<x.1)(hpost:∀y∈post,x.1<y.1)(hi:p x.1=false){o:bG}(ho:all[x.1]?=some o)(hb:∀k,k<x.1->o.oW.testBit k=true->p k=true)(hdom:∀y∈post,∃o',all[y.1]?=some o')(hV:∀y∈pre++post,V.gF y=true->Jt all x.1 y)(s:St):V.rV (IL s (pre++x::post) p)=V.rV (k9 s pre):=by
 refine part V (λy hy ht=>?_) (λy hy ht=>?_) hi s;.exact hb _ (hpre y hy) ((hV y (dt _ hy) ht).1 (hpre y hy) o ho)
 .obtain⟨o',ho'⟩:=hdom y hy;cases hp:p y.1with|false=>rfl|true=>have:=hc _ _ ho' hp _ (hpost y hy) ((hV y (du _ hy) ht).2 (hpost y hy) o' ho')<;>grind
def aiU{α:Type}(V:View α){pre post:List Fx}{x:Fx}{p:Nat->Bool}(hpre:∀y∈pre,V.gF y=true->p y.1=true)(hpost:∀y∈post,V.gF y=true->p y.1=false)(hx:p x.1=true)(s:St):V.rV (k9 s ((pre++x::post).filter λx=>p x.1))=V.rV ((k9 s pre).app x.2.1 x.2.2):=by
 have e0:(k9 s pre).app x.2.1 x.2.2=k9 s (pre++[x]):=by rw[Ag];rfl
 rw[e0,V.filter,V.filter (pre++[x]),wl,List.filter_append];have e1:(x::post).filter (λa=>V.gF a&&p a.1)=[x].filter V.gF:=by
  have e1:post.filter (λa=>V.gF a&&p a.1)=[]:=by refine t7.2 λy hy hb=>?_<;>grind
  grind
 have e2:pre.filter (λa=>V.gF a&&p a.1)=pre.filter V.gF:=by refine wx λy hy=>?_<;>grind
 grind
def Oi.pair(h:Oi call sh mG all s0 L)(hap:nM [] all=true){x y:Fx}(hx:x∈L)(hy:y∈L)(hne:y.1≠x.1){o oy:bG}(ho:all[x.1]?=some o)(hoy:all[y.1]?=some oy):Jt all x.1 y\/(Zz oy o/\Clear y.2.2 x.2.2):=by
 have key:=λi j a b(ha:all[i]?=some a)(hb:all[j]?=some b)(hij:i<j)=>vm (eH:=[]) hap i j a b (by simpa using ha) (by simpa using hb) hij (yi _);rcases Nat.lt_or_gt_of_ne hne with hl|hl;.have b:o.oW.testBit y.1=true->Jt all x.1 y:=λhb=>⟨λ_ o' ho'=>by rw[ho]at ho';injection ho' with ho';rw[<-ho'];exact hb,λh=>by omega⟩;rcases h.meet y x hy hx hl o ho with h1|h1<;>grind
 .have b:oy.oW.testBit x.1=true->Jt all x.1 y:=λhb=>⟨λh=>by omega,λ_ o' ho'=>by rw[hoy]at ho';injection ho' with ho';rw[<-ho'];exact hb⟩;rcases h.meet x y hx hy hl oy hoy with h1|h1;.grind
  .rcases key _ _ _ _ ho hoy hl with h2|h2;.exact .inl (b h2)
   .exact .inr ⟨h2.symm,h1.symm⟩
def Oi.at(h:Oi call sh mG all s0 L){y:Fx}(hy:y∈L):∃o,all[y.1]?=some o/\y.2.1=o.dst:=by obtain⟨pre,post,rfl⟩:=wn hy;obtain⟨o,h1,h2,_⟩:=h.step pre y post rfl<;>grind
def Oi.any(h:Oi call sh mG all s0 L)(hap:nM [] all=true){p:Nat->Bool}(hc:Hz all p){i:Nat}{o:bG}(ho:all[i]?=some o)(hi:p i=false)(hb:∀k,k<i->o.oW.testBit k=true->p k=true):∃x∈L,x.1=i/\x.2.1=o.dst/\o.step call sh (IL s0 L p) (mG+i)=some x.2.2:=by
 obtain⟨pre,x,post,rfl,rfl,h1,h2⟩:=h.split (db.1 ho).1;obtain⟨o',g1,g2,g3⟩:=h.step pre x post rfl;rw[ho]at g1;cases g1;have hmem:x∈pre++x::post:=by simp
 refine⟨x,hmem,rfl,g2,?_⟩;have rV:∀{α:Type}(V:View α),(∀y oy,y∈pre++x::post->all[y.1]?=some oy->y.2.1=oy.dst->V.gF y=true->Zz oy o->Clear y.2.2 x.2.2->False)->V.rV (IL s0 (pre++x::post) p)=V.rV (k9 s0 pre):=by
  intro α V hV;refine Cu V hc h1 h2 hi ho hb (λy hy=>?_) (λy hy ht=>?_) s0;.obtain⟨o',h',_⟩:=h.at (y:=y) (by simp[hy])<;>grind
  .have hy':y∈pre++x::post:=by grind
   have hne:y.1≠x.1:=by grind
   obtain⟨oy,hoy,hd⟩:=h.at hy';rcases h.pair hap hmem hy' hne ho hoy with hh|hh<;>grind
 refine Mt g3 (λt ht=>?_) ?_;.refine rV (Oh t) λy oy _ _ hd vg hoff _=>?_;simp[Oh,ll]at vg;exact hoff.xy t (hd▸vg) ht
 .cases hr:x.2.2with
  |cu e=>
   refine⟨λhl=>?_,λk hk=>?_⟩;.refine rV aq2 λy oy _ _ _ vg _ ov=>?_;rw[hr]at ov;exact ov.all (.inl vg) (vM vg) hl
   .have aiV:mA (.cu e)=true:=by simp only[mA]<;>grind
    have rd:∀{b:ir},lE k b=true->Clear b (.cu e)->False:=by intro b hb ov;cases b with|cu b=>simp[lE,dj]at hb;exact ov.2.1 k hb hk|all=>exact ov.all (.inl rfl) rfl aiV
    obtain⟨k0,k1,k2⟩:=k;unfold lC;by_cases hk0:k0=0;.subst hk0;have:=rV (Zy k1 k2) λy oy _ _ _ vg _ ov=>rd (b:=y.2.2) vg (hr▸ov);simp[Zy,fi]at this<;>grind
    .by_cases hk1:k0=1/\k2=0;.obtain⟨rfl,rfl⟩:=hk1;have:=rV (adL k1) λy oy _ _ _ vg _ ov=>rd (b:=y.2.2) vg (hr▸ov);simp[adL]at this;simp[this]
     grind|all v m t n=>
   have:=rV aiT λy oy _ _ _ vg _ ov=>by rw[hr]at ov;exact ov.all (.inr rfl) vg rfl
   simp[aiT,fi]at this;exact this
structure St.aq3(s s':St):Prop where
 slots:∀t,dL s.slots t=dL s'.slots t
 mem:∀lv sl,aT s.mem lv sl=aT s'.mem lv sl
 aO:∀v,s.aO.get? v=s'.aO.get? v
 nv:s.nv=s'.nv
def Oi.after(h:Oi call sh mG all s0 L)(hap:nM [] all=true){p:Nat->Bool}(hc:Hz all p){x:Fx}(hx:x∈L){o:bG}(ho:all[x.1]?=some o)(hd:x.2.1=o.dst)(hi:p x.1=false)(hb:∀k,k<x.1->o.oW.testBit k=true->p k=true):St.aq3 (IL s0 L λj=>p j||j==x.1) ((IL s0 L p).app x.2.1 x.2.2):=by
 obtain⟨pre,x',post,rfl,hxx,h1,h2⟩:=h.split (db.1 ho).1;have aq4:x=x':=by grind
 subst aq4;have rV:∀{α:Type}(V:View α),(V.gF x=true->∀y oy,all[y.1]?=some oy->y.2.1=oy.dst->V.gF y=true->Zz oy o->Clear y.2.2 x.2.2->False)->V.rV (IL s0 (pre++x::post) λj=>p j||j==x.1)=V.rV ((IL s0 (pre++x::post) p).app x.2.1 x.2.2):=by intro α V hV;cases ht:V.gF x with|false=>rw[V.off _ _ ht];unfold IL;rw[V.filter,V.filter (List.filter (λx=>p x.1) _),wl,wl];congr 2;refine wx λy hy=>?_<;>grind|true=>
   have hV:=hV ht;have bound:∀y∈pre++post,V.gF y=true->Jt all x.1 y:=by
    intro y hy ht;have hy':y∈pre++x::post:=by rcases bm.1 hy with hy|hy<;>simp[hy]
    have hne:y.1≠x.1:=by
     rcases bm.1 hy with hy|hy;.exact Ha (h1 y hy)
     .exact(Ha (h2 y hy)).symm
    obtain⟨oy,hoy,hd⟩:=h.at hy';rcases h.pair hap hx hy' hne ho hoy with hh|hh;.exact hh
    .exact(hV y oy hoy hd ht hh.1 hh.2).elim
   have hdom:∀y∈post,∃o',all[y.1]?=some o':=λy hy=>by obtain⟨o',h',_⟩:=h.at (y:=y) (by simp[hy]);exact⟨o',h'⟩
   rw[V.on _ _ x (Cu V hc h1 h2 hi ho hb hdom bound s0)];refine aiU V (p:=λj=>p j||j==x.1) (λy hy ht=>?_) (λy hy ht=>?_) (by simp) s0;.simp[hb _ (h1 y hy) ((bound y (dt _ hy) ht).1 (h1 y hy) o ho)]
   .obtain⟨o',ho'⟩:=hdom y hy;have hne:(y.1==x.1)=false:=by simpa using(Ha (h2 y hy)).symm
    rw[hne];cases hp:p y.1with|false=>rfl|true=>have:=hc _ _ ho' hp _ (h2 y hy) ((bound y (du _ hy) ht).2 (h2 y hy) o' ho');rw[hi]at this;cases this
 have key:∀k,lE k x.2.2=true->∀(y:Fx),lE k y.2.2=true->Clear y.2.2 x.2.2->False:=λk hx y hy ov=>ov.gF hy hx (Cr hy) (Cr hx);refine⟨λt=>rV (Oh t) λhxt y oy _ hdy vg hoff _=>?_,λlv sl=>?_,λv=>rV (adL v) λhxt y _ _ _ vg _ ov=>key _ hxt y vg ov,rV nvV λhxt y _ _ _ vg _ ov=>ov.all (.inl vg) (vM vg) (vM hxt)⟩;.simp[Oh,ll]at hxt vg;exact hoff.ne t (hdy▸vg) (hd▸hxt)
 .have:=rV (Zy lv sl) λhxt y _ _ _ vg _ ov=>key _ hxt y vg ov;simp[Zy,fi]at this;exact this.1
end
end Go.bS
namespace Go.bS
open Go Go.RowKit
section
variable{P:Program}{X:Cx}{nt:NT}{s:St}{a:Act}{aZ:Nat}{call:Go.bS.Call}{sh:Nat->Bool}{dF:Nat->Option TypeId}
def fQ.put{Y:Cx}{dst:Option Nat}{r:ir}{v:Value}(hs:fQ X nt s a)(hx:Ext X Y)(hv:VR Y r.val v)(hm:aM Y (s.app dst r).mem (s.app dst r).aO)(hlt:dst.getD 0<nt):fQ Y nt (s.app dst r) (a.put dst v):=by cases dst with|none=>refine⟨λt=>?_,hs.size,hs.defers,hm⟩;rw[qM];exact(hs.slots t).ext hx|some d=>
  simp at hlt;refine⟨λt=>?_,by simp[Act.put,hs.size],hs.defers,hm⟩;rw[qM,uQ];simp only[fj];by_cases h:d=t
  .subst h;have:((a.put (some d) v).tmps.getD d undef)=v:=by simp[Act.put,hs.size,hlt]
   grind
  .rw[bi h];have:((a.put (some d) v).tmps.getD t undef)=a.tmps.getD t undef:=by simp[Act.put,Array.getElem?_setIfInBounds_ne h]
   rw[this];exact(hs.slots t).ext hx
def Fz(hs:fQ X nt s a){ops:Array Oper}{o:Oper}{ao:bG}(hgd:gdP ops o.guard=some ao.gd){b:Bool}(hw:jo s.slots ao=some b):Region.wanted o (yielded ops a.tmps)=b:=by unfold jo at hw;unfold Region.wanted;cases hg:o.guard with|none=>grind[dL,gdP]|some jb=>
 obtain⟨j,w⟩:=jb;rw[hg]at hgd;obtain⟨d,hd,hgd⟩:=aV hgd;rw[<-hgd]at hw;simp at hw⊢;have hv:=hs.slots d;have hy:yielded ops a.tmps j=match a.tmps[d]?with|some (.bool b)=>some b|_=>none:=by unfold yielded<;>grind
 rw[hy];split at hw;.rename_i t ht;rw[ht]at hv;have hv:=VR.sc hv;cases h:a.tmps[d]?with|none=>rw[lh,h]at hv;cases hv|some v=>simp_all
 .rename_i vs ht;rw[ht]at hv;obtain⟨us,hu,_⟩:=hv;cases hw;cases h:a.tmps[d]?with|none=>rfl|some v=>simp_all
 grind
def Oj(cP:eL P call)(ic:∀f T,dF f=some T->kr P f T)(hs:fQ X nt s a)(hfr:X.ρ aZ=none)(Cm:aZ<s.nv)(hdom:∀v,s.nv<=v->X.ρ v=none){ops:Array Oper}{i:Nat}{o:Oper}(hoi:ops[i]?=some o){ao:bG}(hop:Eu P dF o.op=some ao.op)(hd:ao.dst=o.dst)(hgd:gdP ops o.guard=some ao.gd)(hlt:ao.dst.getD 0<nt){r:ir}(hr:ao.step call sh s aZ=some r){K:Act->World->Prop}{Q:Exit->Act->World->Prop}(hK:∀Y a',Ext X Y->fQ Y nt (s.app ao.dst r) a'->gj X Y aZ s.nv (s.app ao.dst r).nv->K a' Y.w):wpOp P ops Q i K a X.w:=by
 unfold wpOp;simp[hoi];unfold bG.step at hr;split at hr;.cases hr
 .rename_i hw;rw[Fz hs hgd hw];refine .inl (adK (dst:=ao.dst) cP ic hs hfr Cm hdom hop hr K Q λY v hx hv hm hdm=>?_);rw[<-hd];exact hK Y _ hx (hs.put hx hv hm hlt) hdm
 .rename_i hw;rw[Fz hs hgd hw];cases hr;rw[<-hd];exact hK X _ (Ext.refl X) (hs.put (Ext.refl X) o7 hs.mem hlt) (gj.refl _ _ _)
structure Mu(P:Program)(dF:Nat->Option TypeId)(nt:Nat)(ops:Array Oper)(all:List bG):Prop where
 len:all.length=ops.size
 at_:∀(i:Nat)(ao:bG),all[i]?=some ao->∃o:Oper,ops[i]?=some o/\Eu P dF o.op=some ao.op/\ao.dst=o.dst/\gdP ops o.guard=some ao.gd/\ao.dst.getD 0<nt
def Ah{rows:List (Nat×Nat)}{ops:Array Oper}:∀{l:List (Oper×Nat)}{aU:List bG},yK P dF nt rows ops l=some aU->aU.length=l.length/\∀(i:Nat)(ao:bG),aU[i]?=some ao->∃(o:Oper)(b:Nat),l[i]?=some (o,b)/\ao.oW=b/\Eu P dF o.op=some ao.op/\ao.dst=o.dst/\gdP ops o.guard=some ao.gd/\ao.dst.getD 0<nt
 |[],aU,h=>by cases h<;>grind|(o,b)::r,aU,h=>by
  simp[yK]at h;split at h;.rename_i a' as' h1 h2;cases h;obtain⟨h3,h4⟩:=Ah h2;refine⟨by simp[h3],λi ao hi=>?_⟩;cases i with
   |zero=>
    cases hi;unfold abw at h1;split at h1
    .rename_i ap g hap hg;split at h1;.rename_i hlt;cases h1;exact⟨o,b,rfl,rfl,hap,rfl,hg,hlt⟩
     .cases h1
    .cases h1|succ i=>exact h4 i ao (by simpa using hi)
  .cases h
def FA(cP:eL P call)(ic:∀f T,dF f=some T->kr P f T){ops:Array Oper}{all:List bG}(xF:Mu P dF nt ops all){mG:Nat}{Q:Exit->Act->World->Prop}:∀(l:List bG)(i:Nat)(s s':St)(X:Cx)(a:Act),(∀k,l[k]?=all[i+k]?)->jz call sh mG i l s=some s'->fQ X nt s a->(∀k,i<=k->k<i+l.length->X.ρ (mG+k)=none)->mG+(i+l.length)<=s.nv->(∀v,s.nv<=v->X.ρ v=none)->(∀Y a',Ext X Y->fQ Y nt s' a'->s.nv<=s'.nv->(∀v L,Y.ρ v=some L->X.ρ v=some L\/(mG<=v/\v<s'.nv))->Q .normal a' Y.w)->wpOps P ops Q (List.range' i l.length) a X.w
 |[],i,s,s',X,a,_,h,hs,_,_,_,hQ=>by cases h;exact hQ X a (Ext.refl X) hs (bd _) λ_ _ h=>.inl h|o::r,i,s,s',X,a,hall,h,hs,hfr,Cm,hdom,hQ=>by
  simp[jz]at h;split at h;.cases h
  .rename_i e he;have h0:=hall 0;obtain⟨oc,g1,g2,g3,g4,g5⟩:=xF.at_ i o h0.symm;simp[eK]at hfr Cm;refine Oj cP ic hs (hfr i (bd _) (by omega)) (by omega) hdom g1 g2 g3 g4 g5 he λY a' hx hs' hd=>?_;obtain⟨d1,d2⟩:=hd;refine FA cP ic xF r (i+1) _ s' Y a' (λk=>by have:=hall (k+1);rw[List.getElem?_cons_succ]at this;rw[this];congr 1;omega) h hs' (λk h1 h2=>?_) (by omega) (λv hv=>?_) λZ a'' hz adO hn EH=>?_;.cases hY:Y.ρ (mG+k)with|none=>rfl|some L=>grind
   .cases hY:Y.ρ v with|none=>rfl|some L=>grind
   .refine hQ Z a'' (hx.trans hz) adO (nb d1 hn) λv L hv=>?_<;>grind
def FB{p q:Nat->Bool}:∀{l:List Nat},(∀x,q x=true->p x=true)->(∃x∈l,p x=true/\q x=false)->l.countP q<l.countP p
 |[],_,⟨x,hx,_⟩=>by cases hx|y::r,h,⟨x,hx,h1,h2⟩=>by
  have mono:r.countP q<=r.countP p:=List.countP_mono_left λx _=>h x;rcases dq.1 hx with rfl|hx;.grind
  .have:=FB h ⟨x,hx,h1,h2⟩<;>grind
def Cv{oW:List Nat}:∀{l:List Oper}{bs:List Nat}{i:Nat},E7 oW i l bs=true->∀k o,l[k]?=some o->∃b,bs[k]?=some b/\GW oW (i+k) o b=true|[],_,_,_,k,o,h=>by simp at h|o::r,[],i,h,_,_,_=>by simp[E7]at h|o::r,b::bs,i,h,k,o',hk=>by simp[E7,ba]at h;cases k with|zero=>grind|succ k=>obtain⟨b',h1,h2⟩:=Cv h.2 k o' (by simpa using hk)<;>grind
structure SU(ops:Array Oper)(all:List bG):Prop where
 back:∀(i:Nat)(o:Oper),ops[i]?=some o->∀e∈o.after,Region.binds .any e=true->e.on<i
 oW:∀(i:Nat)(o:Oper)(ao:bG),ops[i]?=some o->all[i]?=some ao->∀k,k<i->ao.oW.testBit k=true->∃e∈o.after,Region.binds .any e=true/\(e.on=k\/(k<e.on/\∀ao',all[e.on]?=some ao'->ao'.oW.testBit k=true))
def adP(cP:eL P call)(ic:∀f T,dF f=some T->kr P f T){ops:Array Oper}{all:List bG}(xF:Mu P dF nt ops all)(SV:SU ops all)(hap:nM [] all=true){mG:Nat}{s0:St}{L:List Fx}(SW:Oi call sh mG all s0 L){Q:Exit->Act->World->Prop}:∀(fuel:Nat)(listed:Array Bool)(X:Cx)(a:Act),listed.size=ops.size->(List.range ops.size).countP (λj=>!listed.getD j false)<=fuel->Hz all (λj=>listed.getD j false)->fQ X nt (IL s0 L λj=>listed.getD j false) a->(∀k,k<ops.size->listed.getD k false=false->X.ρ (mG+k)=none)->mG+ops.size<=(IL s0 L λj=>listed.getD j false).nv->(∀v,(IL s0 L λj=>listed.getD j false).nv<=v->X.ρ v=none)->(∀Y a',Ext X Y->fQ Y nt (k9 s0 L) a'->(IL s0 L λj=>listed.getD j false).nv<=(k9 s0 L).nv->(∀v M,Y.ρ v=some M->X.ρ v=some M\/(mG<=v/\v<(k9 s0 L).nv))->Q .normal a' Y.w)->wpAny P .any ops Q fuel listed a X.w:=by
 have adQ:∀(listed:Array Bool)(j:Nat),listed.size=ops.size->j<ops.size->listed.getD j true=listed.getD j false:=λlisted j h hj=>by simp[show j<listed.size by omega]
 have fin:∀(listed:Array Bool)(X:Cx)(a:Act),listed.size=ops.size->Region.ready .any ops listed=[]->fQ X nt (IL s0 L λj=>listed.getD j false) a->(∀Y a',Ext X Y->fQ Y nt (k9 s0 L) a'->(IL s0 L λj=>listed.getD j false).nv<=(k9 s0 L).nv->(∀v M,Y.ρ v=some M->X.ρ v=some M\/(mG<=v/\v<(k9 s0 L).nv))->Q .normal a' Y.w)->Q .normal a X.w:=by
  intro listed X a hsz hr hs hQ;have hall:∀j,j<ops.size->listed.getD j false=true:=by intro j;induction j using Nat.strongRecOn with|_ j ih=>intro hj;cases hl:listed.getD j false with|true=>rfl|false=>have hm:j∈Region.ready .any ops listed:=mem_ready.2 ⟨by rw[adQ _ _ hsz hj];exact hl,ops[j],px hj,λe he hb=>by have:=SV.back j _ (px hj) e he hb;exact ih _ this (by omega)⟩;rw[hr]at hm;cases hm
  have hst:(IL s0 L λj=>listed.getD j false)=k9 s0 L:=by unfold IL;rw[List.filter_eq_self.2 λx hx=>hall x.1 (xF.len▸(SW.dom x.1).2 ⟨x,hx,rfl⟩)]
  rw[hst]at hs hQ;exact hQ X a (Ext.refl X) hs (bd _) λ_ _ h=>.inl h
 intro fuel;induction fuel with|zero=>
  intro listed X a hsz aiW hc hs hfr Cm hdom hQ;have hr:Region.ready .any ops listed=[]:=by cases hr:Region.ready .any ops listed with|nil=>rfl|cons j r=>
    have hj:j∈Region.ready .any ops listed:=by rw[hr];exact ci ..
    obtain⟨h1,o,h2,_⟩:=mem_ready.1 hj;have hlt:j<ops.size:=(ma.1 h2).1;have:=List.countP_eq_zero.1 (Nat.le_zero.1 aiW) j (vd.2 hlt);rw[adQ _ _ hsz hlt]at h1;rw[h1]at this;exact absurd rfl this
  exact⟨hr,fin listed X a hsz hr hs hQ⟩|succ fuel ih=>
  intro listed X a hsz aiW hc hs hfr Cm hdom hQ;refine⟨λhr=>fin listed X a hsz hr hs hQ,λi hi=>?_⟩;obtain⟨hl,o,ho,adR⟩:=mem_ready.1 hi;have hlt:i<ops.size:=(ma.1 ho).1;rw[adQ _ _ hsz hlt]at hl;obtain⟨ao,hao⟩:∃ao,all[i]?=some ao:=⟨all[i]'(by rw[xF.len];exact hlt),aw _⟩;obtain⟨o',g1,g2,g3,g4,g5⟩:=xF.at_ i ao hao;rw[ho]at g1;injection g1 with g1;subst g1;have hb:∀k,k<i->ao.oW.testBit k=true->listed.getD k false=true:=by
   intro k hk SX;obtain⟨e,he,abH,h⟩:=SV.oW i o ao ho hao k hk SX;have hon:=adR e he abH;rcases h with h|⟨h1,h2⟩;.rw[<-h];exact hon
   .have hlt':e.on<all.length:=by rw[xF.len];have:=SV.back i o ho e he abH;omega
    exact hc e.on _ (aw hlt') hon k h1 (h2 _ (aw hlt'))
  obtain⟨x,hx,rfl,hxd,hstep⟩:=SW.any hap hc hao hl hb;have yR:(λj=>(listed.setIfInBounds x.1 true).getD j false)=λj=>listed.getD j false||j==x.1:=by
   funext j;by_cases hj:j=x.1;.subst hj;simp[show x.1<listed.size by omega]
   .rw[getD_set_ne false (pD hj),show(j==x.1)=false from by simpa using hj,EQ]
  have hsame:=SW.after hap hc hx hao hxd hl hb;rw[<-yR]at hsame;refine Oj cP ic hs (hfr _ hlt hl) (by omega) hdom ho g2 g3 g4 g5 hstep λY a' hx' hs' hd=>?_;rw[<-hxd]at hs' hd;obtain⟨d1,d2⟩:=hd;rw[<-hsame.nv]at d1 d2;refine ih (listed.setIfInBounds x.1 true) Y a' (by simpa using hsz) ?_ ?_ ⟨λt=>?_,hs'.size,hs'.defers,hs'.mem.congr hsame.mem hsame.aO⟩ (λk hk SY=>?_) (by omega) (λv hv=>?_) λZ a'' hz adO hn EH=>?_;.have:=FB (p:=λj=>!listed.getD j false) (q:=λj=>!(listed.setIfInBounds x.1 true).getD j false) (l:=List.range ops.size) (λj hj=>by have:=congrFun yR j;rw[this]at hj;simp only[fr,kh]at hj;simp only[fr];exact hj.1) ⟨x.1,vd.2 hlt,by simp only[hl,i5],by have:=congrFun yR x.1;simp only[this,im,xa,dk]⟩;omega
  .rw[yR];intro j oj hoj hj k hk SX;simp only[ib,ll]at hj⊢;rcases hj with hj|hj;.exact .inl (hc j oj hoj hj k hk SX)
   .subst hj;rw[hao]at hoj;injection hoj with hoj;subst hoj;exact .inl (hb k hk SX)
  .rw[hsame.slots];exact hs'.slots t
  .have hk':=congrFun yR k;rw[hk']at SY;simp only[kh,ml]at SY;cases hY:Y.ρ (mG+k)with|none=>rfl|some M=>
    rcases d2 _ _ hY with h|h|h;.rw[hfr k hk SY.1]at h;cases h
    .omega
    .omega
  .cases hY:Y.ρ v with|none=>rfl|some M=>
    rcases d2 _ _ hY with h|h|h;.rw[hdom v (by omega)]at h;cases h
    .omega
    .omega
  .refine hQ Z a'' (hx'.trans hz) adO (nb d1 hn) λv M hv=>?_;rcases EH v M hv with h|h
   .rcases d2 v M h with h|h|h;.exact .inl h
    .exact .inr (by omega)
    .exact .inr (by omega)
   .exact .inr h
end
def AX.exit':AX->Exit|.normal=>.normal|.exit id=>if Nat.blt id gb=true then .exit id else .goto ((id-gb)/2)|.ret=>.ret
def xG{id:Nat}(h:Nat.blt id gb=true):(AX.exit id).exit'=.exit id:=by simp[AX.exit',h]
def FC(l:Nat):(AX.exit (gid l)).exit'=.goto l:=by simp_all[gid,AX.exit']
def Post(X:Cx)(nt:NT)(s:St)(r:AX×St)(Q:Exit->Act->World->Prop):Prop:=∀Y a',Ext X Y->fQ Y nt r.2 a'->s.nv<=r.2.nv->(∀v L,Y.ρ v=some L->X.ρ v=some L\/(s.nv<=v/\v<r.2.nv))->Q r.1.exit' a' Y.w
def Post.trans{X Y:Cx}{nt:NT}{s s':St}{r:AX×St}{Q:Exit->Act->World->Prop}(h:Post X nt s r Q)(hx:Ext X Y)(hn:s.nv<=s'.nv)(hd:∀v L,Y.ρ v=some L->X.ρ v=some L\/(s.nv<=v/\v<s'.nv)):Post Y nt s' r Q:=by intro Z a' hz hs hn' hd';refine h Z a' (hx.trans hz) hs (nb hn hn') λv L hv=>?_<;>grind
def Post.now{X:Cx}{nt:NT}{s:St}{a:Act}{x:AX}{Q:Exit->Act->World->Prop}(h:Post X nt s (x,s) Q)(hs:fQ X nt s a):Q x.exit' a X.w:=h X a (Ext.refl X) hs (bd _) λ_ _ h=>.inl h
def xH{X Y:Cx}{n m:Nat}(h:∀v,n<=v->X.ρ v=none)(hn:n<=m)(hd:∀v L,Y.ρ v=some L->X.ρ v=some L\/(n<=v/\v<m)):∀v,m<=v->Y.ρ v=none:=by intro v hv;cases hY:Y.ρ v with|none=>rfl|some L=>grind
def Ext.drew(X:Cx):Ext X {X with w:=X.w.drew}:=⟨rfl,(fy.refl _ _).drew,λ_ _ h=>h,λ_ _ _=>rfl,λ_ _ h=>h,λ_ _ h=>.inl h⟩
def fQ.drew{X:Cx}{nt:NT}{s:St}{a:Act}(h:fQ X nt s a):fQ {X with w:=X.w.drew} nt s a:=⟨λt=>(h.slots t).ext (Ext.drew X),h.size,h.defers,h.mem.move (Ext.drew X) (λ_ _ _ _ _ _=>rfl) (λ_ _ _ _ _ _ _ h=>h) h.mem.qI⟩
section
variable{P:Program}{nt:NT}{call:Go.bS.Call}{sh:Nat->Bool}{dF:Nat->Option TypeId}{rows:List (Nat×Nat)}
def FD{ops:Array Oper}{bs:List Nat}{l:List bG}(hb:bs.length=ops.size)(h:yK P dF nt rows ops (ops.toList.zip bs)=some l):Mu P dF nt ops l/\∀(i:Nat)(ao:bG),l[i]?=some ao->bs[i]?=some ao.oW:=by
 obtain⟨h1,h2⟩:=Ah h;refine⟨⟨by rw[h1,List.length_zip];simp[hb],λi ao hi=>?_⟩,λi ao hi=>?_⟩;.obtain⟨o,b,g1,_,g2,g3,g4,g5⟩:=h2 i ao hi;have:=(List.getElem?_zip_eq_some.1 g1).1;exact⟨o,by simpa using this,g2,g3,g4,g5⟩
 .obtain⟨o,b,g1,g2,_⟩:=h2 i ao hi;have:=(List.getElem?_zip_eq_some.1 g1).2;rw[g2];exact this
def ZA{ops:Array Oper}{bs:List Nat}{l:List bG}(avC:l.length=ops.size)(hl:∀(i:Nat)(ao:bG),l[i]?=some ao->bs[i]?=some ao.oW)(h:E7 bs 0 ops.toList bs=true):SU ops l:=by
 have key:=λi o(ho:ops[i]?=some o)=>Cv h i o (by simpa using ho);refine⟨λi o ho e he hb=>?_,λi o ao ho hao k hk SX=>?_⟩
 .obtain⟨b,_,h2⟩:=key i o ho;simp only[GW,ba,lx,ib,fr]at h2;rcases h2.1 e (by simpa using he)with h|h;.rw[show Edge.GV e=Region.binds .any e from rfl,hb]at h;cases h
  .rw[m9]at h;exact Nat.blt_eq.mp h
 .obtain⟨b,h1,h2⟩:=key i o ho;simp only[GW,ba,lx,ib,fr,vd]at h2;rcases h2.2 k (by omega)with h|h;.grind
  .obtain⟨e,he,h⟩:=mn.1 h;simp only[ba,ib]at h;refine⟨e,by simpa using he,h.1,?_⟩;rcases h.2with h|h;.exact .inl (bb h)
   .refine .inr ⟨Nat.blt_eq.mp h.1,λao' aq7=>?_⟩;have:=hl _ _ aq7;rw[da,this]at h;exact h.2
def P3(hm:P.follows .mixedOrders=true)(cP:eL P call)(ic:∀f T,dF f=some T->kr P f T){X:Cx}{s s':St}{a:Act}{id:Nat}{ops:Array Oper}{draw:Bool}{l:List bG}{dr:Bool}(hp:Za P dF nt rows ops draw=some (.region l dr))(hr:gA call sh l dr s=some s')(hs:fQ X nt s a)(hdom:∀v,s.nv<=v->X.ρ v=none){Q:Exit->Act->World->Prop}(hQ:Post X nt s (.normal,s') Q):(Code.region id ops draw).wp P Q a X.w:=by
 have hs1:fQ X nt {s with nv:=s.nv+l.length} a:=⟨hs.slots,hs.size,hs.defers,hs.mem⟩;unfold Za at hp;cases draw with|false=>
  obtain⟨l',hl,hp⟩:=aV hp;injection hp with h1 h2;subst h1;subst h2;have hz:ops.toList.map (λo=>(o,0))=ops.toList.zip (List.replicate ops.size 0):=by
   apply List.ext_getElem;.simp
   .simp
  rw[hz]at hl;obtain⟨xF,_⟩:=FD (by simp) hl;refine wp_region ?_;rw[<-xF.len,List.range_eq_range'];refine FA cP ic xF l' 0 _ s' X a (λk=>by simp) hr hs1 (λk _ _=>hdom _ (by omega)) (by simp) (λv hv=>hdom v (by simp at hv;omega)) λY a' hx hs' hn hd=>?_;exact hQ Y a' hx hs' (by simp at hn⊢;omega) hd|true=>
  simp at hp;split at hp
  .rename_i l' hb hl;split at hp
   .rename_i hap;injection hp with hp;injection hp with h1 h2;subst h1;subst h2;simp at hb;obtain⟨xF,Hj⟩:=FD hb.1 hl;have SV:=ZA xF.len Hj hb.2;obtain⟨L,rfl,SW⟩:=Oi.adM hr;refine wp_region_any hm ?_;have hf:∀j,(Array.replicate ops.size false).getD j false=false:=λj=>by
     rw[lh];rcases i9 j ops.size with h|h;.simp[h]
     .simp[h]
    have hst:(IL {s with nv:=s.nv+l'.length} L λj=>(Array.replicate ops.size false).getD j false)={s with nv:=s.nv+l'.length}:=by unfold IL;rw[t7.2 λx _=>by show¬(Array.replicate ops.size false).getD x.1 false=true;rw[hf];exact Bool.false_ne_true];rfl
    refine adP cP ic xF SV hap SW ops.size _ {X with w:=X.w.drew} a (by simp) ?_ (λj o _ hj=>absurd ((hf j).symm.trans hj) (by decide)) ?_ (λk _ _=>hdom _ (by omega)) ?_ ?_ λY a' hx hs' hn hd=>?_;.simp_all
    .rw[hst];exact hs1.drew
    .rw[hst];simp[xF.len]
    .grind
    .rw[hst]at hn;exact hQ Y a' ((Ext.drew X).trans hx) hs' (by simp at hn⊢;omega) hd
   grind
  grind
def rW(P:Program)(c:Code)(Q:Exit->Act->World->Prop)(a:Act)(w:World):Prop:=∀(b:Frame)(k:List Item)(cs:List Frame),∃e a' w',Q e a' w'/\Arrives P (lone (b.at a (.code c::.inLoop c::k)) cs w) b k cs e a' w'
def rW.round{c:Code}{Q:Exit->Act->World->Prop}{a:Act}{w:World}(h:c.wp P (Exit.then (rW P c Q) Q) a w):rW P c Q a w:=by intro b k cs;obtain⟨e,a₁,w₁,hq,Ju⟩:=h b (.inLoop c::k) cs;cases e with|normal=>obtain⟨e₂,a₂,w₂,hq₂,aiY⟩:=hq b k cs;exact⟨e₂,a₂,w₂,hq₂,.of_steps (Steps.trans Ju (.one step_inLoop)) aiY⟩|exit id=>exact⟨_,a₁,w₁,hq,.pass (x:=.inLoop c) rfl (λ_ _=>.inl (by simp)) Ju⟩|goto l=>exact⟨_,a₁,w₁,hq,.pass (x:=.inLoop c) rfl (λ_ _=>.inl (by simp)) Ju⟩|ret=>exact⟨_,a₁,w₁,hq,.pass (x:=.inLoop c) rfl (λ_ _=>.inl (by simp)) Ju⟩|panic ch=>exact⟨_,a₁,w₁,hq,.pass (x:=.inLoop c) rfl (λ_ _=>.inl (by simp)) Ju⟩|outgrown=>exact⟨_,a₁,w₁,hq,.pass (x:=.inLoop c) rfl (λ_ _=>.inl (by simp)) Ju⟩
def rW.wp{c:Code}{Q:Exit->Act->World->Prop}{a:Act}{w:World}(h:rW P c Q a w):(Code.loop c).wp P Q a w:=λb k cs=>let⟨e,a',w',hq,Ju⟩:=h b k cs;⟨e,a',w',hq,.of_steps (.one step_loop) Ju⟩
def jh(n:Nat)(c:AC)(s:St):exec call sh (n+1) c s=match c with
 |.skip=>some (.normal,s)|.region ops draw=>(gA call sh ops draw s).map λs'=>(.normal,s')|.seq a b=>match exec call sh n a s with|some (.normal,s')=>exec call sh n b s'|r=>r
 |.cond c a b=>match jW (c.ev s.slots)with|some true=>exec call sh n a s|some false=>exec call sh n b s|none=>none
 |.block id c=>match exec call sh n c s with
  |some (.exit id',s')=>match Nat.beq id' id with|true=>some (.normal,s')|false=>some (.exit id',s')
  |r=>r
 |.loop c=>match exec call sh n c s with|some (.normal,s')=>exec call sh n (.loop c) s'|r=>r
 |.exit id=>some (.exit id,s)|.ret=>some (.ret,s):=rfl
def P4:∀(n:Nat)(c:AC)(s:St)(r:AX×St),exec call sh n c s=some r->exec call sh (n+1) c s=some r:=by intro n;induction n with|zero=>simp_all[Call,exec]|succ n ih=>intro c s r h;cases c with
 |skip=>exact h|region ops draw=>exact h|exit id=>exact h|ret=>exact h|seq a b=>
  rw[jh n]at h;rw[jh (n+1)];dsimp at h⊢;split at h;.rename_i s' he;rw[ih _ _ _ he];exact ih _ _ _ h
  .rename_i hne;rw[ih _ _ _ h];obtain⟨x,s'⟩:=r;cases x with|normal=>exact absurd h (hne s')|exit id=>rfl|ret=>rfl
 |cond c a b=>
  rw[jh n]at h;rw[jh (n+1)];dsimp at h⊢;split at h;.exact ih _ _ _ h
  .exact ih _ _ _ h
  .cases h|block id c=>
  rw[jh n]at h;rw[jh (n+1)];dsimp at h⊢;split at h;.rename_i he;rw[ih _ _ _ he];exact h
  .rename_i hne;rw[ih _ _ _ h];obtain⟨x,s'⟩:=r;cases x with|normal=>rfl|exit id=>exact absurd h (hne id s')|ret=>rfl
 |loop c=>
  rw[jh n]at h;rw[jh (n+1)];dsimp at h⊢;split at h;.rename_i s' he;rw[ih _ _ _ he];exact ih _ _ _ h
  .rename_i hne;rw[ih _ _ _ h];obtain⟨x,s'⟩:=r;cases x with|normal=>exact absurd h (hne s')|exit id=>rfl|ret=>rfl
def HA{n m:Nat}(hle:n<=m){c:AC}{s:St}{r:AX×St}(h:exec call sh n c s=some r):exec call sh m c s=some r:=by induction hle with|refl=>exact h|step _ ih=>exact P4 _ _ _ _ ih
def FE{p:Nat->Bool}:∀(n:Nat)(c:AC)(s s':St)(id:Nat),leaves p c=true->exec call sh n c s=some (.exit id,s')->p id=true:=by intro n;induction n with|zero=>simp_all[Call,exec,leaves]|succ n ih=>intro c s s' id hl h;cases c with|skip=>simp[exec]at h|region ops draw=>simp_all[exec,leaves,Call]|exit id'=>cases h;exact hl|ret=>simp[exec]at h|seq a b=>simp[leaves,ba]at hl;simp[exec]at h<;>grind|cond c a b=>simp[leaves,ba]at hl;simp[exec]at h<;>grind|block id' c=>simp[leaves]at hl;simp[exec]at h<;>grind|loop c=>
 simp[leaves]at hl;simp[exec]at h;split at h;.exact ih (.loop c) _ _ _ hl h
 grind
def Jv{n l:Nat}{c:AC}{s:St}{r:AX×St}(h:exec call sh n (.loop (.block (gid l) (.seq c (.exit (Bg l))))) s=some r):∃m x s',m<n/\exec call sh m c s=some (x,s')/\((x=.exit (gid l)/\exec call sh (n-1) (.loop (.block (gid l) (.seq c (.exit (Bg l))))) s'=some r)\/(x=.normal/\r=(.exit (Bg l),s'))\/(x≠.normal/\x≠.exit (gid l)/\r=(x,s'))):=by cases n with|zero=>simp[exec]at h|succ n=>
 have hk:Nat.beq (Bg l) (gid l)=false:=by cases hb:Nat.beq (Bg l) (gid l)with|false=>rfl|true=>simp_all[Bg,gid,exec,Call]
 simp[exec]at h;cases n with|zero=>simp[exec]at h|succ n=>cases n with|zero=>simp[exec]at h|succ n=>cases hc:exec call sh n c s with|none=>simp[exec,hc]at h|some xs=>obtain⟨x,s'⟩:=xs;refine⟨n,x,s',by omega,hc,?_⟩;cases n with|zero=>simp[exec]at hc|succ n=>cases x with
  |normal=>
   have e1:exec call sh (n+1) (.exit (Bg l)) s'=some (.exit (Bg l),s'):=rfl;have e2:exec call sh (n+1+1) (.seq c (.exit (Bg l))) s=some (.exit (Bg l),s'):=by rw[exec];simp[hc,e1]
   have e3:exec call sh (n+1+1+1) (.block (gid l) (.seq c (.exit (Bg l)))) s=some (.exit (Bg l),s'):=by rw[exec];simp[e2,hk]
   rw[e3]at h;simp at h;exact .inr (.inl ⟨rfl,h.symm⟩)|exit id=>
   have e2:exec call sh (n+1+1) (.seq c (.exit (Bg l))) s=some (.exit id,s'):=by rw[exec];simp[hc]
   cases hb:Nat.beq id (gid l)with|true=>
    have e3:exec call sh (n+1+1+1) (.block (gid l) (.seq c (.exit (Bg l)))) s=some (.normal,s'):=by rw[exec];simp[e2,hb]
    rw[e3]at h;exact .inl ⟨by rw[bb hb],h⟩|false=>
    have e3:exec call sh (n+1+1+1) (.block (gid l) (.seq c (.exit (Bg l)))) s=some (.exit id,s'):=by rw[exec];simp[e2,hb]
    rw[e3]at h;simp at h;exact .inr (.inr ⟨by simp,λhx=>by injection hx with hx;exact na hb hx,h.symm⟩)
  |ret=>
   have e2:exec call sh (n+1+1) (.seq c (.exit (Bg l))) s=some (.ret,s'):=by rw[exec];simp[hc]
   have e3:exec call sh (n+1+1+1) (.block (gid l) (.seq c (.exit (Bg l)))) s=some (.ret,s'):=by rw[exec];simp[e2]
   rw[e3]at h;simp at h;exact .inr (.inr ⟨by simp,by simp,h.symm⟩)
section
open Classical
def lF(call:Call)(sh:Nat->Bool)(nt:NT)(Q:Exit->Act->World->Prop)(l:Nat)(c:AC)(m:Nat)(a:Act)(w:World):Prop:=∃Y s r,Y.w=w/\fQ Y nt s a/\(∀v,s.nv<=v->Y.ρ v=none)/\exec call sh m (.loop (.block (gid l) (.seq c (.exit (Bg l))))) s=some r/\Post Y nt s ((match r.1with|.exit id=>if id=Bg l then .normal else .exit id|x=>x),r.2) Q
def least{p:Nat->Prop}:∀{n:Nat},p n->∃m,p m/\∀k,p k->m<=k:=by intro n;induction n using Nat.strongRecOn with|_ n ih=>grind
noncomputable def rounds(call:Call)(sh:Nat->Bool)(nt:NT)(Q:Exit->Act->World->Prop)(l:Nat)(c:AC)(a:Act)(w:World):Nat:=if h:∃m,lF call sh nt Q l c m a w then Classical.choose (least (p:=λm=>lF call sh nt Q l c m a w) h.choose_spec)else 0
def FF{Q:Exit->Act->World->Prop}{l:Nat}{c:AC}{m:Nat}{a:Act}{w:World}(h:lF call sh nt Q l c m a w):rounds call sh nt Q l c a w<=m:=by have hh:∃m,lF call sh nt Q l c m a w:=⟨m,h⟩;unfold rounds<;>grind
def P5{Q:Exit->Act->World->Prop}{l:Nat}{c:AC}{m:Nat}{a:Act}{w:World}(h:lF call sh nt Q l c m a w):lF call sh nt Q l c (rounds call sh nt Q l c a w) a w:=by have hh:∃m,lF call sh nt Q l c m a w:=⟨m,h⟩;unfold rounds;rw[dif_pos hh];exact(Classical.choose_spec (least (p:=λm=>lF call sh nt Q l c m a w) hh.choose_spec)).1
end
def FG{A:Act->World->Prop}{Q:Exit->Act->World->Prop}{id:Nat}{a:Act}{w:World}(h:Q (AX.exit id).exit' a w):Exit.then A Q (AX.exit id).exit' a w:=by
 unfold AX.exit' at h⊢;simp at h⊢;split;.rename_i hb;rw[be hb]at h;exact h
 .rename_i hb;rw[bi hb]at h;exact h
section
variable{n:Nat}(IM:∀(c:Code)(ac:AC)(X:Cx)(s:St)(a:Act)(r:AX×St)(Q:Exit->Act->World->Prop),eu P dF nt rows c none=some ac->exec call sh n ac s=some r->fQ X nt s a->(∀v,s.nv<=v->X.ρ v=none)->Post X nt s r Q->c.wp P Q a X.w)
include IM
theorem Cw{c0:Code}{ac:AC}{l m:Nat}{a:Act}{w:World}{Q:Exit->Act->World->Prop}(hc:eu P dF nt rows c0 none=some ac)(hl:leaves (λid=>Nat.blt id gb||Nat.beq id (gid l)) ac=true)(hm:m<=n)(h:lF call sh nt Q l ac m a w):c0.wp P (Exit.jump l (λa' w'=>(∃k,k<=n/\lF call sh nt Q l ac k a' w')/\rounds call sh nt Q l ac a' w'<m) Q) a w:=by
 obtain⟨Y,s,r,rfl,hs,hdom,hex,hpost⟩:=h;obtain⟨m1,x,s',hlt,hx,aiZ⟩:=Jv hex;refine IM c0 ac Y s a (x,s') _ hc (HA (by omega) hx) hs hdom λZ a' hYZ YZ hn hd=>?_;rcases aiZ with⟨rfl,h1⟩|⟨rfl,h1⟩|⟨h1,h2,h3⟩;.rw[FC];have hR:lF call sh nt Q l ac (m-1) a' Z.w:=⟨Z,s',r,rfl,YZ,xH hdom hn hd,h1,hpost.trans hYZ hn hd⟩;have:=FF hR;exact⟨rfl,⟨m-1,by omega,hR⟩,by omega⟩
 .subst h1;have:=hpost Z a' hYZ YZ hn hd;simp at this;exact this
 .subst h3;cases x with|normal=>grind|exit id=>
  have hb:=FE _ _ _ _ _ hl hx;have hlt':Nat.blt id gb=true:=by simp_all
  have hk:id≠Bg l:=by have:=i7 hlt';simp[Bg];omega
  have:=hpost Z a' hYZ YZ hn hd;simp[bi hk]at this;rw[xG hlt']at this⊢;exact this|ret=>exact hpost Z a' hYZ YZ hn hd
theorem Ai:∀(c:Code)(ac:AC)(l:Nat),eu P dF nt rows c (some l)=some ac->∃c0 R5,findLabel c l=some (.seq .skip c0)/\eu P dF nt rows c0 none=some R5/\leaves (λid=>Nat.blt id gb||Nat.beq id (gid l)) R5=true/\∀(m:Nat)(X:Cx)(s:St)(a:Act)(r:AX×St)(Q:Exit->Act->World->Prop),m<=n+1->exec call sh m ac s=some r->fQ X nt s a->(∀v,s.nv<=v->X.ρ v=none)->Post X nt s r Q->c.wp P (Exit.jump l (λa' w'=>∃k,k<=n/\lF call sh nt Q l R5 k a' w') Q) a X.w
 |.seq x y,ac,l,hc=>by
  rw[eu]at hc;split at hc
  .rename_i l' SZ;have hx:x=.label l':=by cases x<;>simp only[adr]at SZ<;>first|(injection SZ with SZ;rw[SZ])|cases SZ
   subst hx;split at hc
   .rename_i R5 hb hc0;have hl':=bb hb;subst hl';unfold Sp at hc;split at hc
    .rename_i hl;cases hc;refine⟨y,R5,by simp[findLabel],hc0,hl,λm X s a r Q hm hex hs hdom hpost=>?_⟩;have key:∃k r',k<=n/\exec call sh k (.loop (.block (gid l') (.seq R5 (.exit (Bg l'))))) s=some r'/\r=((match r'.1with|.exit id=>if id=Bg l' then .normal else .exit id|x=>x),r'.2):=by cases m with|zero=>simp[exec]at hex|succ k=>
       rw[jh k]at hex;dsimp at hex;split at hex
       .rename_i id s' he;refine⟨k,_,by omega,he,?_⟩;split at hex;.simp_all
        .rename_i hid;cases hex;simp[bi (na hid)]
       .refine⟨k,_,by omega,hex,?_⟩;obtain⟨z,s'⟩:=r<;>simp_all
     obtain⟨k,r',hk,aq8,rfl⟩:=key;have hp:=Cw IM hc0 hl hk ⟨X,s,r',rfl,hs,hdom,aq8,hpost⟩;have yR:=wp_mono (Q':=Exit.jump l' (λa' w'=>∃k,k<=n/\lF call sh nt Q l' R5 k a' w') Q) hp λe a w h=>by cases e with|goto l=>exact⟨h.1,h.2.1⟩|_=>exact h
     exact wp_seq (wp_label yR)
    grind
   grind
  .split at hc
   .rename_i ax ay hf hx hy;split at hc;.rename_i hlv;cases hc;obtain⟨c0,R5,h1,h2,h3,h4⟩:=Ai y ay l hy;refine⟨c0,R5,by simp[findLabel,hf,h1],h2,h3,λm X s a r Q hm hex hs hdom hpost=>?_⟩;cases m with|zero=>simp[exec]at hex|succ k=>
      rw[jh k]at hex;dsimp at hex;refine wp_seq ?_;split at hex;.rename_i s' he;refine IM x ax X s a (.normal,s') _ hx (HA (by omega) he) hs hdom λY a' hx' hs' hn hd=>?_;exact h4 k Y s' a' r Q (by omega) hex hs' (xH hdom hn hd) (hpost.trans hx' hn hd)
      .refine IM x ax X s a r _ hx (HA (by omega) hex) hs hdom λY a' hx' hs' hn hd=>?_;have:=hpost Y a' hx' hs' hn hd;obtain⟨z,s'⟩:=r;cases z with|normal=>grind|exit id=>have hb:=FE _ _ _ _ _ hlv hex;rw[xG hb]at this⊢;exact this|ret=>exact this
    grind
   grind|.skip,_,_,hc=>by simp[eu]at hc|.region ..,_,_,hc=>by simp[eu]at hc|.cond ..,_,_,hc=>by simp[eu]at hc|.block ..,_,_,hc=>by simp[eu]at hc|.loop ..,_,_,hc=>by simp[eu]at hc|.exit ..,_,_,hc=>by simp[eu]at hc|.goto ..,_,_,hc=>by simp[eu]at hc|.label ..,_,_,hc=>by simp[eu]at hc|.scope ..,_,_,hc=>by simp[eu]at hc|.ret,_,_,hc=>by simp[eu]at hc|.rangeFunc ..,_,_,hc=>by simp[eu]at hc|.refuse ..,_,_,hc=>by simp[eu]at hc
end
def Bu(hm:P.follows .mixedOrders=true)(cP:eL P call)(ic:∀f T,dF f=some T->kr P f T):∀(n:Nat),(∀(c:Code)(ac:AC)(X:Cx)(s:St)(a:Act)(r:AX×St)(Q:Exit->Act->World->Prop),eu P dF nt rows c none=some ac->exec call sh n ac s=some r->fQ X nt s a->(∀v,s.nv<=v->X.ρ v=none)->Post X nt s r Q->c.wp P Q a X.w)/\(∀(c:Code)(ac:AC)(X:Cx)(s:St)(a:Act)(r:AX×St)(Q:Exit->Act->World->Prop),eu P dF nt rows c none=some ac->exec call sh n (.loop ac) s=some r->fQ X nt s a->(∀v,s.nv<=v->X.ρ v=none)->Post X nt s r Q->rW P c Q a X.w):=by intro n;induction n with|zero=>simp_all[eL,Call,rW,Post,exec,eu]|succ n ih=>
 obtain⟨IM,ihB⟩:=ih;have B:∀(c:Code)(ac:AC)(X:Cx)(s:St)(a:Act)(r:AX×St)(Q:Exit->Act->World->Prop),eu P dF nt rows c none=some ac->exec call sh (n+1) (.loop ac) s=some r->fQ X nt s a->(∀v,s.nv<=v->X.ρ v=none)->Post X nt s r Q->rW P c Q a X.w:=by
   intro c ac X s a r Q hc hr hs hdom hQ;simp[exec]at hr;refine rW.round ?_;split at hr;.rename_i s' he;refine IM c ac X s a (.normal,s') _ hc he hs hdom λY a' hx hs' hn hd=>?_;exact ihB c ac Y s' a' r Q hc hr hs' (xH hdom hn hd) (hQ.trans hx hn hd)
   .rename_i hne;refine IM c ac X s a r _ hc hr hs hdom λY a' hx hs' hn hd=>?_;have:=hQ Y a' hx hs' hn hd;obtain⟨x,s'⟩:=r;cases x with|normal=>exact absurd hr (hne s')|exit id=>exact FG this|ret=>exact this
 refine⟨λc ac X s a r Q hc hr hs hdom hQ=>?_,B⟩;cases c with
 |skip=>cases hc;cases hr;exact wp_skip (hQ.now hs)|region id ops draw=>
   simp[eu]at hc;have:∃l dr,ac=.region l dr:=by
    unfold Za at hc;split at hc;.obtain⟨l,_,rfl⟩:=aV hc;exact⟨_,_,rfl⟩
    .simp at hc;split at hc
     .split at hc;.injection hc with hc;exact⟨_,_,hc.symm⟩
      .cases hc
     .cases hc
   obtain⟨l,dr,rfl⟩:=this;obtain⟨s',hr',rfl⟩:=aV hr;exact P3 hm cP ic hc hr' hs hdom hQ|seq x y=>
   simp[eu]at hc;split at hc
   .rename_i ax ay hx hy;cases hc;simp[exec]at hr;refine wp_seq ?_;split at hr;.rename_i s' he;refine IM x ax X s a (.normal,s') _ hx he hs hdom λY a' hx' hs' hn hd=>?_;exact IM y ay Y s' a' r Q hy hr hs' (xH hdom hn hd) (hQ.trans hx' hn hd)
    .rename_i hne;refine IM x ax X s a r _ hx hr hs hdom λY a' hx' hs' hn hd=>?_;have:=hQ Y a' hx' hs' hn hd;obtain⟨z,s'⟩:=r;cases z with|normal=>exact absurd hr (hne s')|exit id=>exact FG this|ret=>exact this
   .cases hc|cond c x y=>
   simp[eu]at hc;split at hc
   .rename_i c' ax ay Ew hx hy;cases hc;simp[exec]at hr;have hv:=bD hs Ew;split at hr;.rename_i hb;exact wp_cond_true (o8 hb hv) (IM x ax X s a r Q hx hr hs hdom hQ)
    .rename_i hb;exact wp_cond_false (o8 hb hv) (IM y ay X s a r Q hy hr hs hdom hQ)
    .cases hr
   .cases hc|block id c=>
   simp[eu]at hc;split at hc
   .rename_i adS;obtain⟨ac',Ew,rfl⟩:=aV hc;simp[exec]at hr;refine wp_block ?_;split at hr
    .rename_i id' s' he;split at hr;.rename_i hid;cases hr;refine IM c ac' X s a (.exit id',s') _ Ew he hs hdom λY a' hx' hs' hn hd=>?_;have:=hQ Y a' hx' hs' hn hd;have hid:=bb hid;subst hid;rw[xG adS];simp[Exit.inBlock,kp];exact this
     .rename_i hid;cases hr;refine IM c ac' X s a (.exit id',s') _ Ew he hs hdom λY a' hx' hs' hn hd=>?_;have:=hQ Y a' hx' hs' hn hd;simp[AX.exit']at this⊢;split;.rename_i hb;rw[be hb]at this;simp[Exit.inBlock,na hid,n3];exact this
      .rename_i hb;rw[bi hb]at this;exact this
    .rename_i hne;refine IM c ac' X s a r _ Ew hr hs hdom λY a' hx' hs' hn hd=>?_;have:=hQ Y a' hx' hs' hn hd;obtain⟨z,s'⟩:=r;cases z with|normal=>exact this|exit id=>exact absurd hr (hne id s')|ret=>exact this
   .cases hc|loop c=>obtain⟨ac',Ew,rfl⟩:=aV hc;exact(B c ac' X s a r Q Ew hr hs hdom hQ).wp|exit id=>
   simp[eu]at hc;split at hc;.rename_i adS;cases hc;cases hr;have:=hQ.now hs;rw[xG adS]at this;exact wp_exit this
   .cases hc|goto l=>cases hc;cases hr;have:=hQ.now hs;rw[FC]at this;exact wp_goto this|scope c=>
   simp[eu]at hc;split at hc;.rename_i l hl;obtain⟨c0,R5,h1,h2,h3,h4⟩:=Ai IM c ac l hc;refine wp_scope_jumps l (λa w=>∃k,k<=n/\lF call sh nt Q l R5 k a w) (rounds call sh nt Q l R5) h1 (h4 (n+1) X s a r Q (bd _) hr hs hdom hQ) λa w hJ=>?_;obtain⟨k,hk,hR⟩:=hJ;exact wp_seq (wp_skip (Cw IM h2 h3 (nb (FF hR) hk) (P5 hR)))
   .cases hc|ret=>cases hc;cases hr;exact wp_ret (hQ.now hs)|_=>simp[eu]at hc
end
end Go.bS
