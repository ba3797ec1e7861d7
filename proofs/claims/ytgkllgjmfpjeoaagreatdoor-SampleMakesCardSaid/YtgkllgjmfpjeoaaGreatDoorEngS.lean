/- Calls that work on the caller's memory. -/
import Derived.Test.YtgkllgjmfpjeoaaGreatDoorEngR
set_option linter.unusedVariables false
set_option linter.unusedSimpArgs false
namespace Go.bJ
open Go Go.RowKit
theorem aN{α β:Type}{x:Option α}{f:α->β}{y:β}(h:x.map f=some y):∃z,x=some z/\f z=y:=by simp_all
theorem aR{α β:Type}{x:Option α}{f:α->Option β}{y:β}(h:x.bind f=some y):∃z,x=some z/\f z=some y:=by cases x with|none=>cases h|some z=>grind
theorem bH{v:AV}{r:hU}(h:fH.pure v=some r):r=.bW {val:=v,cV:=[],cD:=[],rd:=[]}:=by grind[fH.pure]
theorem V1.Ds{X:Cx}{x:AV}{v:Value}(h:fM x=true)(hv:VR X x v):V1 X x v:=by cases x with|iY=>cases h|_=>exact hv
theorem aC.fM{X:Cx}:∀{xs:List AV}{vs:List Value},xs.all Go.bJ.fM=true->aC (VR X) xs vs->aC (V1 X) xs vs|[],[],_,_=>trivial|x::xs,v::vs,h,hv=>by simp only[List.all_cons,Bool.and_eq_true]at h;exact⟨V1.Ds h.1 hv.1,aC.fM h.2 hv.2⟩|[],_::_,_,hv=>hv.elim|_::_,[],_,hv=>hv.elim
theorem o8(m:List (Tr bB))(lv sl:Nat):aK (m++[.lf]) lv sl=aK m lv sl:=by unfold aK;grind[Tr.get?]
section
variable{P:Program}{X:Cx}{nt:Nat}{s:St}{a:Act}{o:Oper}{dst:Option Nat}{aO:Nat}
theorem Hu{call:Go.bJ.Call}(cT:cM P call)(hs:fo X nt s a)(hfr:X.ρ aO=none)(Ay:aO<s.nv)(hdom:∀v,s.nv<=v->X.ρ v=none){f pk lv sl:Nat}{args:List AV}{ck:Array Value}{r val:AV}{cm:List (Tr bB)}{ts:Tr Unit}{n':Nat}{us:List (List (List D))}{u:List (Nat×Nat×Option bB)}(hargs:aC (VR X) args ck.toList)(hnt:args.all fM=true)(hc:call f args (s.mem++[.lf]) s.aI s.nv=some (r,cm,ts,n'))(hi:gC cm s.mem.length pk lv sl aO r=some (val,us))(hu:jZ lv sl aO us=some u)(hrun:(∃fn,P.funcs[f]?=some fn/\fn.body.isSome=true/\(fn.name== "runtime.NumGoroutine")=false)->(execOp a.eval o).run P X.w=.ok (.enter f ck) X.w):dh P X s a o dst aO (.all val (bw (cm.take s.mem.length) u) ts n'):=by
 intro K Q hK;have hm0:aH X (s.mem++[.lf]) s.aI:=hs.mem.congr (λlv sl=>o8 _ _ _) λ_=>rfl;obtain⟨hfn,ue⟩:=cT f args (s.mem++[.lf]) s.aI s.nv r cm ts n' hc X ck hm0 hdom (aC.fM hnt hargs);unfold Oper.wp;rw[hrun hfn];refine Calls.mono ue ?_;rintro e w'⟨Z,v,rfl,rfl,JN,ZT,NN,hn,hdZ⟩;have adC:Z.ρ aO=none:=by cases hz:Z.ρ aO with|none=>rfl|some L=>grind
 have Md:aH Z (cm.take s.mem.length) ts:=NN.less (λlv sl e he=>by
  rw[n7]at he;split at he;.exact he
  .cases he) λ_ h=>h;have Mm:∀{k:Nat×Nat×Nat}{v:Nat},Holds (cm.take s.mem.length) ts k v->Holds cm ts k v/\∀cL dU,s.mem.length<=cL->k≠cq cL dU:=by
  rintro k v(⟨cL,dU,e',rfl,he',kO⟩|⟨rfl,he'⟩)
  .rw[n7]at he';split at he';.refine⟨.inl ⟨cL,dU,e',rfl,he',kO⟩,λapy apz hle hq=>?_⟩;have:=(Ab hq).1<;>omega
   grind
  .exact⟨.inr ⟨rfl,he'⟩,λ_ _ _ hq=>eX hq.symm⟩
 let G:Option Nat->Nat->Nat->Prop:=λp b _=>some b≠p/\∃cL dU e L,s.mem.length<=cL/\aK cm cL dU=some e/\e.fz=false/\Z.ρ e.ah=some L/\0<L.cap/\L.b=b;have mk:∀p,Ext Z (Z.more (G p))/\aH (Z.more (G p)) (cm.take s.mem.length) ts:=by
  intro p;have hin:∀b o,G p b o->¬Z.old b/\b<Z.w.heap.size:=by rintro b o⟨_,cL,dU,e,L,_,hg,hz,hL,hc,rfl⟩;obtain⟨M,hM,h2⟩:=NN.dG (.inl ⟨cL,dU,e,rfl,hg,rfl,hz⟩)<;>grind
  refine⟨Ext.more λb o h=>(hin b o h).1,Md.more hin ?_⟩;rintro k v M o hk hv wL⟨_,cL,dU,e,L,hle,hg,hz,hL,hc,hb⟩;obtain⟨h1,h2⟩:=Mm hk;exact NN.apart _ _ _ _ _ _ h1 (.inl ⟨cL,dU,e,rfl,hg,rfl,hz⟩) (h2 cL dU hle) hv hL wL hc hb.symm
 rcases J4 NN hi ZT with⟨rfl,hb⟩|⟨els,len,sz,v',rfl,⟨hpk,⟨L,off,ad,cap,g3,g4,g5,g6,ZU⟩⟩,hb⟩|hlen
 .cases hu;obtain⟨y5,y6⟩:=mk none;refine hK (Z.more (G none)) v (JN.trans y5) (hb (Z.more (G none)) ⟨rfl,λb o h=>.inl h,λ_ _ _ h=>h,λ_ cL dU e L hle hg hz hL hc o=>.inr ⟨by simp,cL,dU,e,L,hle,hg,hz,hL,hc,rfl⟩⟩) y6 ⟨hn,λu L hL=>?_⟩;rcases hdZ u L hL with h|h;.grind
  .exact .inr (.inr h)
 .cases hu;subst g3;have g7:=λhc=>(ZU hc).2;obtain⟨y5,y6⟩:=mk (some L.b);obtain⟨W,w1,w2,w3,w4,w5,w6,w7⟩:=Aw (Z:=Z) (Y:=Z.more (G (some L.b))) (lv:=lv) (sl:=sl) (ah:=aO) y6 rfl (λb o h=>.inl h) (λ_ h=>h) adC g4 g5 g6 g7 λhc=>⟨λo h=>by
    rcases h with h|h;.exact(g7 hc).2.2.2.2.2.1 o h
    .exact h.1 rfl,λk u M hk hM wL=>by obtain⟨h1,h2⟩:=Mm hk;obtain⟨cL,dU,e,g0,g1,g2⟩:=(ZU hc).1;exact NN.apart _ _ _ _ _ _ h1 (.inl ⟨cL,dU,e,rfl,g1.1,rfl,g1.2⟩) (h2 cL dU g0) hM g2 wL (g7 hc).2.2.2.1⟩;have hxW:Ext (Z.more (G (some L.b))) W:=⟨w3,by rw[w1];exact eo.refl _ _,λb o h=>by rw[w2];exact h,λb o _=>by rw[w1],w4,λb o h=>by rw[w2]at h;exact .inl h⟩;rw[show Z.w=W.w from w1.symm];refine hK W v ((JN.trans y5).trans hxW) (hb W ⟨w1,λb o h=>by rw[w2];exact .inl h,λ_ u M hM=>w4 u M hM,λh=>absurd h hpk⟩ w7) w6 ⟨hn,λu M hM=>?_⟩;rcases w5 u M hM with h|h
  .rcases hdZ u M h with h|h;.exact .inl h
   .exact .inr (.inr h)
  omega
 .match us,hlen with|_::_::_,_=>simp[jZ]at hu
theorem NO{call:Go.bJ.Call}(cT:cM P call)(hs:fo X nt s a)(hdom:∀v,s.nv<=v->X.ρ v=none){f:Nat}{args:List AV}{ck:Array Value}{r:hU}(hargs:aC (VR X) args ck.toList)(hr:p6 call s f args=some r)(hrun:(∃fn,P.funcs[f]?=some fn/\fn.body.isSome=true/\(fn.name== "runtime.NumGoroutine")=false)->(execOp a.eval o).run P X.w=.ok (.enter f ck) X.w):dh P X s a o dst aO r:=by
 unfold p6 at hr;split at hr;.cases hr
 .rename_i hnt;split at hr;.cases hr
  .rename_i r' cm ts n' hc;cases hr;intro K Q hK;have hm0:aH X (s.mem++[.lf]) s.aI:=hs.mem.congr (λlv sl=>o8 _ _ _) λ_=>rfl;obtain⟨hfn,ue⟩:=cT f args (s.mem++[.lf]) s.aI s.nv r' cm ts n' hc X ck hm0 hdom (aC.fM hnt hargs);unfold Oper.wp;rw[hrun hfn];refine Calls.mono ue ?_;rintro e w'⟨Z,v,rfl,rfl,JN,ZT,NN,hn,hdZ⟩;exact hK Z v JN ZT NN ⟨hn,λu L hL=>(hdZ u L hL).imp id .inr⟩
theorem NP{call:Go.bJ.Call}(cT:cM P call)(hs:fo X nt s a)(hfr:X.ρ aO=none){f:Nat}{args:List AV}{ck:Array Value}{r:hU}(hargs:aC (VR X) args ck.toList)(hr:ni call s aO f args=some r)(hrun:(∃fn,P.funcs[f]?=some fn/\fn.body.isSome=true/\(fn.name== "runtime.NumGoroutine")=false)->(execOp a.eval o).run P X.w=.ok (.enter f ck) X.w):dh P X s a o dst aO r:=by
 unfold ni at hr;split at hr;.cases hr
 .rename_i aL ks hl;split at hr;.cases hr
  .rename_i r' cm ts n' hc;split at hr;.rename_i v hi;have hV:=Hs hs.mem (ks:=ks) hl hargs λp hp=>hp;have:=Ax (dst:=dst) cT hs hfr (pk:=0) (lv:=0) (sl:=0) (rd:=args.flatMap ec) hV hc hi (u:=[]) rfl hrun<;>grind
   grind
def Cx.all(X:Cx):Cx:={w:=X.w,F:=λb _=>b<X.w.heap.size,ρ:=λ_=>none,old:=λb=>b<X.w.heap.size}
theorem NQ{call:Go.bJ.Call}(cT:cM P call)(hs:fo X nt s a)(hfr:X.ρ aO=none){f:Nat}{args:List AV}{ck:Array Value}{r:hU}(hargs:aC (VR X) args ck.toList)(hr:nj call s aO f args=some r)(hrun:(∃fn,P.funcs[f]?=some fn/\fn.body.isSome=true/\(fn.name== "runtime.NumGoroutine")=false)->(execOp a.eval o).run P X.w=.ok (.enter f ck) X.w):dh P X s a o dst aO r:=by
 unfold nj at hr;split at hr;.cases hr
 .rename_i aL hl;split at hr;.cases hr
  .rename_i r' cm ts n' hc;split at hr;.rename_i v hi;cases hr;have hV:=Dq hs.mem [] hl hargs;have:=Ax (dst:=dst) cT hs hfr (pk:=0) (lv:=0) (sl:=0) (rd:=args.flatMap ec) hV hc hi (ks:=[]) (u:=[]) rfl hrun;exact this
   grind
theorem Vs(X:Cx)(hl:ZE X):aH X.all [.lf] .lf:=by
 refine⟨λlv sl e he=>?_,λv hv=>by simp at hv,λk k' v v' L L' _ _ _ hv _ _ _=>?_,λ_ _ h=>h,λ_ h=>h,λb hb=>hl.lt b (hl.gb b hb),hl.gk⟩;.unfold aK at he;grind[Tr.get?,ny,bB.ah,Cx.all]
 .cases hv
theorem Az{m:List (Tr bB)}{t:Tr Unit}(h:aH X m t){x:AV}{y:D}{v:Value}(hx:ia m x=some y)(hv:VC X x v):DR X.w X.all.F y v:=by
 have hsub:∀b o,X.F b o->X.all.F b o:=λb o hb=>h.oL b o hb;have QF:∀{els a cap sz b o}{R:Nat->Nat->Prop},v=.slice a els.length cap->els.length<=cap->(0<els.length->a=some ⟨b,o,none⟩)->ei X.w X.F R els b o sz->DR X.w X.all.F (.sl els) v:=by rintro els a cap sz b o R rfl h2 h3 h4;exact DR.gE (h4.mono hsub λq hq _=>Mk hq) rfl h2 h3
 cases x with
 |d x=>cases hx;exact DR.mono hsub hv|own els ow=>cases hx;cases ow with|full=>obtain⟨a,b,o,sz,h1,h2,h3⟩:=hv<;>grind|cD ah tz=>obtain⟨a,b,o,sz,cap,h1,h2,h3,h4,_⟩:=hv<;>grind|bC=>obtain⟨a,b,o,sz,cap,h1,h2,h3,h4⟩:=hv<;>grind
 |ref lv sl ah off len sz=>simp[ia]at hx;cases he:dc m (.ref lv sl ah off len sz)with|none=>grind|some els=>obtain⟨a,cap,sz',b,o,h1,h2,h3,h4⟩:=rz h he (.fI hv)<;>grind
 |_=>cases hx
theorem Dt{m:List (Tr bB)}{t:Tr Unit}(h:aH X m t):∀{xs:List AV}{ys:List D}{vs:List Value},iF m xs=some ys->aC (VC X) xs vs->aC (DR X.w X.all.F) ys vs
 |[],ys,[],hx,_=>by cases hx;trivial|x::xs,ys,v::vs,hx,hv=>by
  simp[iF]at hx;split at hx;.rename_i y ys' h1 h2;cases hx;exact⟨Az h h1 hv.1,Dt h h2 hv.2⟩
  grind|[],_,_::_,_,hv=>hv.elim|_::_,_,[],_,hv=>hv.elim
theorem Du{α:Type}{sz:Nat}:∀{n:Nat}{l:List α},l.length=n*sz->(chunk sz n l).length=n/\(∀e∈chunk sz n l,e.length=sz)/\∀(i j:Nat)e x,(chunk sz n l)[i]?=some e->e[j]?=some x->j<sz/\i<n/\l[i*sz+j]?=some x
 |0,l,h=>⟨rfl,λe he=>(by cases he),λi j e x h1 _=>by simp[chunk]at h1⟩|n+1,l,h=>by
  have hl:(l.drop sz).length=n*sz:=by rw[List.length_drop,h,Nat.succ_mul];omega
  obtain⟨h1,h2,h3⟩:=Du (sz:=sz) hl;have ht:(l.take sz).length=sz:=by rw[List.length_take,h,Nat.succ_mul];omega
  refine⟨by simp[chunk,h1],λe he=>?_,λi j e x he hx=>?_⟩
  .simp[chunk,List.mem_cons]at he;rcases he with rfl|he;.exact ht
   .exact h2 e he
  .cases i with|zero=>
    cases he;have hj:j<sz:=by have:=(List.getElem?_eq_some_iff.1 hx).1;omega
    rw[List.getElem?_take,if_pos hj]at hx;exact⟨hj,by omega,by rw[Nat.zero_mul,Nat.zero_add];exact hx⟩|succ i=>obtain⟨g1,g2,g3⟩:=h3 i j e x he hx;refine⟨g1,by omega,?_⟩;simp at g3;rw[Nat.succ_mul,show i*sz+sz+j=sz+(i*sz+j)by omega];exact g3
theorem Vt{m:List (Tr bB)}{t:Tr Unit}(h:aH X m t){x y:AV}{v:Value}(hx:kL m x=some y)(hv:VR X x v):V1 X.all y v:=by
 have one:∀{x:AV},(ia m x).map AV.d=some y->VC X x v->V1 X.all y v:=by intro x hx hv;obtain⟨d,hd,rfl⟩:=aN hx;exact .fI (Az h hd hv)
 cases x with
 |agg cs=>obtain⟨ds,hd,rfl⟩:=aN hx;obtain⟨vs,rfl,h3⟩:=hv;exact⟨vs,rfl,(Dt h hd h3).ZM (X:=X.all)⟩|gp f c=>cases c with|nil=>cases hx;exact .fI (Fj hv)|cons=>simp[kL,ia]at hx
 |fe lv sl ah off n sz=>
  simp[kL]at hx;split at hx
  .rename_i cs hb;split at hx
   .obtain⟨ds,hd,rfl⟩:=aN hx;obtain⟨L,hL,rfl,hn⟩:=hv;have hg:aK m lv sl=some (.box ah cs):=by
     unfold nZ at hb;split at hb
     .split at hb;.simp_all
      .cases hb
     .cases hb
    obtain⟨L',hL',hE⟩:=h.fN lv sl _ hg;have hL':X.ρ ah=some L':=hL';rw[hL]at hL';cases hL';obtain⟨_,hblk,hno,hcell⟩:=hE;have hlen:((cs.drop off).take (n*sz)).length=n*sz:=by simp;omega
    have hdl:ds.length=n*sz:=by
     have:∀{xs:List AV}{ys:List D},iF m xs=some ys->ys.length=xs.length:=by intro xs;induction xs with|nil=>intro ys h;cases h;rfl|cons x xs ih=>
       intro ys h;simp[iF]at h;split at h;.rename_i h2;cases h;simp[ih h2]
       .cases h
     rw[this hd,hlen]
    obtain⟨c1,c2,c3⟩:=Du hdl;refine .fI (DR.gE (b:=L.b) (o:=L.o+off) (sz:=sz) ⟨c2,λi e j x h1 h2=>?_⟩ c1 (Nat.le_refl _) λ_=>rfl);obtain⟨g1,g2,g3⟩:=c3 i j e x h1 h2;refine⟨hblk.lt,?_⟩;have cell:∀{xs:List AV}{ys:List D},iF m xs=some ys->∀(k:Nat)(y:D),ys[k]?=some y->∃a,xs[k]?=some a/\ia m a=some y:=by intro xs;induction xs with|nil=>intro ys h k y hk;cases h;simp at hk|cons a xs ih=>
      intro ys h k y hk;simp[iF]at h;split at h;.rename_i z zs h1 h2;cases h;cases k with|zero=>cases hk;exact⟨a,rfl,h1⟩|succ k=>simpa using ih h2 k y (by simpa using hk)
      .cases h
    obtain⟨a,ha,hca⟩:=cell hd _ _ g3;rw[List.getElem?_take]at ha;split at ha;.simp at ha;obtain⟨u,hu,hvc⟩:=hcell _ _ ha;refine⟨u,?_,Az h hca hvc⟩;rw[show L.o+off+i*sz+j=L.o+(off+(i*sz+j))by omega];exact hu
    .cases ha
   grind
  grind|iY cs=>simp[kL,ia]at hx|_=>simp only[kL]at hx;exact one hx hv
theorem Hv{m:List (Tr bB)}{t:Tr Unit}(h:aH X m t):∀{xs ys:List AV}{vs:List Value},uV m xs=some ys->aC (VR X) xs vs->aC (V1 X.all) ys vs
 |[],ys,[],hx,_=>by cases hx;trivial|x::xs,ys,v::vs,hx,hv=>by
  simp[uV]at hx;split at hx;.rename_i y ys' h1 h2;cases hx;exact⟨Vt h h1 hv.1,Hv h h2 hv.2⟩
  grind|[],_,_::_,_,hv=>hv.elim|_::_,_,[],_,hv=>hv.elim
theorem AA{A B:Cx}{x:AV}{v:Value}(h:z7 x=true)(hv:VC A x v):VC B x v:=by
 unfold z7 at h;split at h;.cases hv with|sc v h1=>exact DR.sc v h1
 .cases hv with|sl els a n cap sz b o g hn hcap hsz ha hF hc hr=>exact DR.sl [] a n cap sz b o g hn hcap (λ_ h=>by cases h) ha (λ_ _ _ _ h=>by cases h) (λ_ _ _ _ h=>by cases h) (λ_ _ _ _ h=>by cases h)
 grind
theorem yb{A B:Cx}:∀{xs:List AV}{vs:List Value},xs.all z7=true->aC (VC A) xs vs->aC (VC B) xs vs|[],[],_,_=>trivial|x::xs,v::vs,h,hv=>by rw[List.all_cons,Bool.and_eq_true]at h;exact⟨AA h.1 hv.1,yb h.2 hv.2⟩|[],_::_,_,hv=>hv.elim|_::_,[],_,hv=>hv.elim
theorem uf{A B:Cx}{x:AV}{v:Value}(h:C9 x=true)(hv:V1 A x v):V1 B x v:=by cases x with|agg cs=>obtain⟨vs,rfl,h3⟩:=hv;exact⟨vs,rfl,yb h h3⟩|d x=>exact .fI (AA (A:=A) h hv)|_=>cases h
theorem yc{A B:Cx}:∀{xs:List AV}{vs:List Value},xs.all C9=true->aC (V1 A) xs vs->aC (V1 B) xs vs|[],[],_,_=>trivial|x::xs,v::vs,h,hv=>by rw[List.all_cons,Bool.and_eq_true]at h;exact⟨uf h.1 hv.1,yc h.2 hv.2⟩|[],_::_,_,hv=>hv.elim|_::_,[],_,hv=>hv.elim
theorem J5{A B:Cx}{x:AV}{v:Value}(h:Qh x=true)(hv:VR A x v):VR B x v:=by cases x with|iY cs=>obtain⟨vs,rfl,h3⟩:=hv;exact⟨vs,rfl,yc h h3⟩|agg cs=>exact .uZ (uf (A:=A) h hv)|d x=>exact .uZ (uf (A:=A) h hv)|_=>cases h
theorem Dv{call:Go.bJ.Call}(cT:cM P call)(hs:fo X nt s a){f:Nat}{args:List AV}{ck:Array Value}{r:hU}(hargs:aC (VR X) args ck.toList)(hr:j0 call s f args=some r)(hrun:(∃fn,P.funcs[f]?=some fn/\fn.body.isSome=true/\(fn.name== "runtime.NumGoroutine")=false)->(execOp a.eval o).run P X.w=.ok (.enter f ck) X.w):dh P X s a o dst aO r:=by
 unfold j0 at hr;split at hr;.cases hr
 .rename_i aL hl;split at hr;.cases hr
  .rename_i r' cm ts n' hc;split at hr;case h_2=>cases hr
   rename_i v hi;split at hr;case h_2=>cases hr
   rename_i hfl;cases hr;intro K Q hK;have hV:=Hv hs.mem hl hargs;obtain⟨hfn,ue⟩:=cT f aL [.lf] .lf 0 r' cm ts n' hc X.all ck (Vs X hs.mem.tG) (λ_ _=>rfl) hV;unfold Oper.wp;rw[hrun hfn];refine Calls.mono ue ?_;rintro e w'⟨Z,v',rfl,rfl,JN,ZT,NN,_,_⟩;have hblk:∀b,b<X.w.heap.size->Z.w.heap[b]?=X.w.heap[b]?:=λb hb=>JN.below.block b hb;let Y:Cx:={w:=Z.w,F:=X.F,ρ:=X.ρ,old:=X.old};have hx:Ext X Y:=⟨rfl,JN.below.mono hs.mem.low,λ_ _ h=>h,λb o h=>JN.keep b o (hs.mem.oL b o h),λ_ _ h=>h,λ_ _ h=>.inl h⟩;have hm:aH Y s.mem s.aI:=hs.mem.move hx (λk v L hk hv hc=>by obtain⟨M,hM,h2⟩:=hs.mem.dG hk;rw[hv]at hM;injection hM with hM;subst hM;exact hblk _ (h2 hc).1) (λ_ _ _ _ _ _ _ h=>h) λb o h=>Nat.lt_of_lt_of_le (hs.mem.oL b o h) JN.below.size;have hvr:VR Y v v':=by
    rcases J4 NN hi ZT with⟨_,hb⟩|⟨_,_,_,_,h,_⟩|h;.exact J5 hfl (hb {Z with F:=λ_ _=>True} ⟨rfl,λ_ _ _=>trivial,λh=>absurd h (by omega),λ_ _ _ _ _ _ _ _ _ _ _=>trivial⟩)
    .cases h
    .simp at h
   refine hK Y v' hx hvr ?_ (fy.G2 rfl);exact hm
theorem wV{call:Go.bJ.Call}(cT:cM P call)(hs:fo X nt s a)(hfr:X.ρ aO=none)(Ay:aO<s.nv)(hdom:∀v,s.nv<=v->X.ρ v=none){shared:Bool}{f pk lv sl:Nat}{args:List AV}{ck:Array Value}{r:hU}(hargs:aC (VR X) args ck.toList)(hr:gr call shared pk s lv sl aO f args=some r)(hrun:(∃fn,P.funcs[f]?=some fn/\fn.body.isSome=true/\(fn.name== "runtime.NumGoroutine")=false)->(execOp a.eval o).run P X.w=.ok (.enter f ck) X.w):dh P X s a o dst aO r:=by
 unfold gr at hr;split at hr
 .split at hr;.cases hr
  .rename_i aL ks hl;split at hr;.cases hr
   .rename_i r' cm ts n' hc;split at hr;.cases hr
    .rename_i v us hi;split at hr;.cases hr
     .rename_i u hu;cases hr;exact Ax cT hs hfr (Hr hs.mem (ks:=ks) hl hargs λp hp=>hp) hc hi hu hrun
 .split at hr;.cases hr
  .rename_i hnt;split at hr;.cases hr
   .rename_i r' cm ts n' hc;split at hr;.cases hr
    .rename_i v us hi;split at hr;.cases hr
     .rename_i u hu;cases hr;exact Hu cT hs hfr Ay hdom hargs hnt hc hi hu hrun
end
end Go.bJ
