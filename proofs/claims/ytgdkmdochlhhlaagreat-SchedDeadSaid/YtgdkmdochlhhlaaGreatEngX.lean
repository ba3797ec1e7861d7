/- Parts of the proof. -/
import Derived.Test.YtgdkmdochlhhlaaGreatEngQ
import Derived.Laws.BytesArg
import Derived.Laws.IdiomStrings
import Derived.MapKept
set_option linter.unusedVariables false
set_option linter.unusedSimpArgs false
set_option linter.defProp false
namespace Go.bL
open Go Go.RowKit
structure Good(Z:Cx)(cm:List (Tr bu))(top pk:Nat)(Y:Cx):Prop where
 w:Y.w=Z.w
 F:∀b o,Z.F b o->Y.F b o
 ρ:0<top->∀v L,Z.ρ v=some L->Y.ρ v=some L
 fz:pk=0->∀cC cW e L,top<=cC->aG cm cC cW=some e->e.fz=false->Z.ρ e.aq=some L->0<L.cap->∀o,Y.F L.b o
def eD{α:Type}(Z:Cx)(cm:List (Tr bu))(top pk lv sl aq:Nat)(R:Cx->α->Prop)(y:α)(us:List (List (List D))):Prop:=(us=[]/\∀Y,Good Z cm top pk Y->R Y y)\/(∃els len sz v',us=[els]/\(pk≠0/\Ul Z top cm els len sz v')/\∀Y,Good Z cm top pk Y->VC Y (.ref lv sl aq 0 len sz) v'->R Y y)\/2<=us.length
def eD.map{α β:Type}{Z:Cx}{cm:List (Tr bu)}{top pk lv sl aq:Nat}{R:Cx->α->Prop}{S:Cx->β->Prop}{y:α}{z:β}{us:List (List (List D))}(h:eD Z cm top pk lv sl aq R y us)(TF:∀Y,R Y y->S Y z):eD Z cm top pk lv sl aq S z us:=by grind[eD]
def eD.pair{α β γ:Type}{Z:Cx}{cm:List (Tr bu)}{top pk lv sl aq:Nat}{R:Cx->α->Prop}{S:Cx->β->Prop}{T:Cx->γ->Prop}{y:α}{z:β}{x:γ}{us vs:List (List (List D))}(h:eD Z cm top pk lv sl aq R y us)(k:eD Z cm top pk lv sl aq S z vs)(TF:∀Y,R Y y->S Y z->T Y x):eD Z cm top pk lv sl aq T x (us++vs):=by grind[eD]
section
variable{Z:Cx}{cm:List (Tr bu)}{ts:Tr Unit}{top pk lv sl aq:Nat}
def Gm(h:aH Z cm ts){k:Nat}{x y:AV}{us:List (List (List D))}{v:Value}(hx:bG cm top pk k lv sl aq x=some (y,us))(hv:VC Z x v):eD Z cm top pk lv sl aq (λY y=>VC Y y v) y us:=by
 by_cases hu:us=[];.refine .inl ⟨hu,λY hY=>?_⟩;rcases CV h hY.w hY.F hY.ρ hY.fz hx hv with⟨_,h⟩|⟨_,_,_,h,_⟩<;>grind
 .rcases CV (Y:={Z with F:=λ_ _=>True}) h rfl (λ_ _ _=>trivial) (λ_ _ _ h=>h) (λ_ _ _ _ _ _ _ _ _ _ _=>trivial) hx hv with⟨h,_⟩|⟨els,len,sz,h1,rfl,h2,h3⟩<;>grind[bG,VC,eD]
def CX(h:aH Z cm ts):∀{k:Nat}{xs ys:List AV}{us:List (List (List D))}{vs:List Value},dN cm top pk lv sl aq k xs=some (ys,us)->aD (VC Z) xs vs->eD Z cm top pk lv sl aq (λY ys=>aD (VC Y) ys vs) ys us
 |k,[],ys,us,[],hx,_=>by grind[dN,VC,aD,eD]|k,x::xs,ys,us,v::vs,hx,hv=>by
  simp[dN]at hx;split at hx;.rename_i y u ys' us' h1 h2;cases hx;exact(Gm h h1 hv.1).pair (CX h h2 hv.2) λY a b=>⟨a,b⟩
  grind|_,[],_,_,_::_,_,hv=>hv.elim|_,_::_,_,_,[],_,hv=>hv.elim
def Um(h:aH Z cm ts){k:Nat}{x y:AV}{us:List (List (List D))}{v:Value}(hx:lH cm top pk lv sl aq k x=some (y,us))(hv:V1 Z x v):eD Z cm top pk lv sl aq (λY y=>V1 Y y v) y us:=by cases x with
 |agg cs=>simp only[lH]at hx;cases hd:dN cm top pk lv sl aq k cs with|none=>grind|some p=>rw[hd]at hx;cases hx;obtain⟨vs,rfl,h3⟩:=hv;exact(CX h (us:=p.2) hd h3).map λY h=>⟨vs,rfl,h⟩
 |fu cs=>cases hx|_=>simp only[lH]at hx;exact(Gm h hx hv).map λY h=>.k9 h
def Kh(h:aH Z cm ts):∀{k:Nat}{xs ys:List AV}{us:List (List (List D))}{vs:List Value},fX cm top pk lv sl aq k xs=some (ys,us)->aD (V1 Z) xs vs->eD Z cm top pk lv sl aq (λY ys=>aD (V1 Y) ys vs) ys us
 |k,[],ys,us,[],hx,_=>by grind[fX,V1,aD,eD]|k,x::xs,ys,us,v::vs,hx,hv=>by
  simp[fX]at hx;split at hx;.rename_i y u ys' us' h1 h2;cases hx;exact(Um h h1 hv.1).pair (Kh h h2 hv.2) λY a b=>⟨a,b⟩
  grind|_,[],_,_,_::_,_,hv=>hv.elim|_,_::_,_,_,[],_,hv=>hv.elim
def Is(h:aH Z cm ts){x y:AV}{us:List (List (List D))}{v:Value}(hx:gY cm top pk lv sl aq x=some (y,us))(hv:VR Z x v):eD Z cm top pk lv sl aq (λY y=>VR Y y v) y us:=by cases x with
 |fu cs=>simp only[gY]at hx;cases hd:fX cm top pk lv sl aq 1 cs with|none=>grind|some p=>rw[hd]at hx;cases hx;obtain⟨vs,rfl,h3⟩:=hv;exact(Kh h (us:=p.2) hd h3).map λY h=>⟨vs,rfl,h⟩
 |_=>simp only[gY]at hx;exact(Um h hx hv).map λY h=>.vM h
def CY{Y:Cx}{m:List (Tr bu)}{t:Tr Unit}{els:List (List D)}{len sz off cap:Nat}{a:Option Addr}{L:Loc}(hm:aH Y m t)(hw:Y.w=Z.w)(hF:∀b o,Z.F b o->Y.F b o)(hb:∀b,Y.old b->Z.old b)(hfr:Y.ρ aq=none)(h1:len<=cap)(h2:els.length=len)(h3:∀e∈els,e.length=sz)(h4:0<cap->a=some ⟨L.b,L.o+off*sz,none⟩/\off+cap<=L.cap/\L.sz=sz/\0<L.cap/\Block Z L.b (L.o+L.cap*L.sz)/\(∀o,¬Z.F L.b o)/\∀i e j x,els[i]?=some e->e[j]?=some x->∃u,Z.w.cell? ⟨L.b,L.o+off*sz+i*sz+j,none⟩=some u/\DR Z.w Z.F x u)(hno:0<cap->(∀o,¬Y.F L.b o)/\∀k u M,Holds m t k u->Y.ρ u=some M->0<M.cap->M.b≠L.b):∃W:Cx,W.w=Y.w/\W.F=Y.F/\W.old=Y.old/\(∀u M,Y.ρ u=some M->W.ρ u=some M)/\(∀u M,W.ρ u=some M->Y.ρ u=some M\/u=aq)/\aH W (bJ m lv sl (some (.row aq els))) t/\VC W (.ref lv sl aq 0 len sz) (.slice a len cap):=by
 let L':Loc:=⟨L.b,L.o+off*sz,sz,cap⟩;refine⟨Y.name aq L',rfl,rfl,rfl,(eC hfr).loc,λu M hu=>?_,?_,L',a,cap,eU,rfl,rfl,h1,λhc=>⟨by rw[(h4 hc).1];simp[L'],by simp[L']⟩⟩;.grind[Cx.name,Holds,Block]
 .refine(gK hm hfr).add (e:=.row aq els) (L:=L') eU ⟨by rw[h2];exact h1,h3,λhc=>?_,λi e j x hi hj=>?_⟩ λk u M hk _ hu xq hc=>?_;.obtain⟨g1,g2,g3,g4,⟨g5,C,ce,g6,g7⟩,g8,_⟩:=h4 hc;refine⟨⟨λq=>g5 (hb _ q),C,ce,by show Y.w.heap[L.b]?=_;rw[hw];exact g6,?_⟩,(hno hc).1⟩;have:=d6 sz g2<;>grind
  .have hi':i<els.length:=(ci.1 hi).1;obtain⟨u,hu,hd⟩:=(h4 (by omega)).2.2.2.2.2.2 i e j x hi hj;refine⟨u,?_,?_⟩;.grind[Holds,Block,Cx.name]
   .show DR Y.w Y.F x u;rw[hw];exact hd.mono hF
  .obtain⟨M',kR,_⟩:=hm.dn hk<;>grind[Cx.name,bX,Holds,Block]
end
def nN(m:List (Tr bu))(k lv sl:Nat):aG (m.take k) lv sl=if lv<k then aG m lv sl else none:=by grind[aG]
section
variable{P:Program}{X:Cx}{nt:NT}{s:St}{a:Act}{o:Oper}{dst:Option Nat}{aR:Nat}
def CZ{call:Go.bL.Call}(cH:cD P call)(hs:fM X nt s a)(hfr:X.ρ aR=none){f pk lv sl:Nat}{bV:Array Value}{aL:List AV}{ks:List (Nat×Nat)}{r val:AV}{cm:List (Tr bu)}{ts:Tr Unit}{n':Nat}{us:List (List (List D))}{u:List (Nat×Nat×Option bu)}{rd:List (Nat×Nat×Nat)}(hV:aD (V1 (X.nD s.mem ks).inner) aL bV.toList)(hc:call f aL [.lf] .lf 0=some (r,cm,ts,n'))(hi:gY cm 0 pk lv sl aR r=some (val,us))(hu:kQ lv sl aR us=some u)(hrun:(∃fn,P.funcs[f]?=some fn/\fn.body.isSome=true/\(fn.name== "runtime.NumGoroutine")=false)->(execOp a.eval o).run P X.w=.ok (.enter f bV) X.w):dK P X s a o dst aR (.bZ {val,dx:=eY s.mem ks++u,cU:=[],rd}):=by
 intro K Q hK;have zf:=Ih hs.mem ks;have hx1:=r6 hs.mem ks;obtain⟨hfn,wv⟩:=cH f aL [.lf] .lf 0 r cm ts n' hc (X.nD s.mem ks).inner bV (Gl zf) (λ_ _=>rfl) hV;unfold Oper.wp;rw[hrun hfn];refine Calls.mono wv ?_;rintro e w'⟨Z,v,rfl,rfl,It,hvZ,Rn,_,_⟩;have hblk:∀b,b<X.w.heap.size->Z.w.heap[b]?=X.w.heap[b]?:=λb hb=>It.below.block b hb;have Un:Z.old=λb=>b<X.w.heap.size:=It.base;have hZF:∀b o,Z.F b o->(X.nD s.mem ks).F b o\/X.w.heap.size<=b:=λb o h=>(It.new b o h).imp id λh=>Nat.le_of_not_lt h;have mk:∀(p:Option Nat),∃Y:Cx,Y.w=Z.w/\Y.old=X.old/\Y.ρ=X.ρ/\(∀b o,Y.F b o↔Z.F b o\/(X.w.heap.size<=b/\b<Z.w.heap.size/\some b≠p))/\Ext X Y/\aH Y (aU s.mem (eY s.mem ks)) s.aI:=by
  intro p;let Y:Cx:={w:=Z.w,F:=λb o=>Z.F b o\/(X.w.heap.size<=b/\b<Z.w.heap.size/\some b≠p),ρ:=X.ρ,old:=X.old};have hx:Ext (X.nD s.mem ks) Y:=by
   refine⟨rfl,It.below.mono hs.mem.low,λb o h=>.inl (It.T4 b o h),λb o h=>?_,λ_ _ h=>h,λb o h=>?_⟩;.exact It.keep b o h
   .rcases h with h|h;.exact(hZF b o h).imp id λh q=>mn _ (iv (hs.mem.low _ q) h)
    .exact .inr λq=>mn _ (iv (hs.mem.low _ q) h.1)
  refine⟨Y,rfl,rfl,rfl,λ_ _=>zt,hx1.trans hx,zf.move hx (λk v L hk hv hc=>?_) (λk v L o hk hv hc h=>?_) λb o h=>?_⟩;.obtain⟨M,hM,h2⟩:=zf.dn hk;rw[hv]at hM;cases hM;exact hblk _ (h2 hc).1
  .obtain⟨M,hM,h2⟩:=zf.dn hk;rw[hv]at hM;cases hM;have:=(h2 hc).1;have this:L.b<X.w.heap.size:=this<;>grind
  .rcases h with h|h;.exact Rn.nH b o h
   grind
 rcases Is Rn hi hvZ with⟨rfl,hb⟩|⟨els,len,sz,v',rfl,⟨hpk,⟨L,off,ad,cap,g3,g4,g5,g6,g7'⟩⟩,hb⟩|hlen
 .cases hu;obtain⟨Y,y1,y2,y3,y4,y5,y6⟩:=mk none;rw[<-y1];refine hK Y v y5 (hb Y ⟨y1,λb o h=>(y4 b o).2 (.inl h),λh=>absurd h (by omega),λ_ cC cW e L _ hg hz hL hc o=>?_⟩) ?_ ?_;.obtain⟨M,hM,h2⟩:=Rn.dn (.inl ⟨cC,cW,e,rfl,hg,rfl,hz⟩)<;>grind
  .rw[dt];exact y6
  .exact fP.J4 y3
 .cases hu;subst g3;have g7:=λhc=>(g7' hc).2;obtain⟨Y,y1,y2,y3,y4,y5,y6⟩:=mk (some L.b);have hLb:0<cap->X.w.heap.size<=L.b:=λhc=>by have:=(g7 hc).2.2.2.2.1.1;rw[Un]at this;exact Nat.le_of_not_lt this
  obtain⟨W,w1,w2,w3,w4,w5,w6,w7⟩:=CY (Z:=Z) (lv:=lv) (sl:=sl) (aq:=aR) y6 y1 (λb o h=>(y4 b o).2 (.inl h)) (by rw[y2,Un];exact hs.mem.low) (by rw[y3];exact hfr) g4 g5 g6 g7 λhc=>⟨λo h=>by
    rcases(y4 _ _).1 h with h|h;.exact(g7 hc).2.2.2.2.2.1 o h
    .exact h.2.2 rfl,λk u M hk hM xq=>by obtain⟨M',kR,h2⟩:=zf.dn hk;rw[y3]at hM;have kR:X.ρ u=some M':=kR;rw[hM]at kR;injection kR with kR;subst kR;have:M.b<X.w.heap.size:=(h2 xq).1;have:=hLb hc;omega⟩;have hxW:Ext Y W:=⟨w3,by rw[w1];exact fC.refl _ _,λb o h=>by rw[w2];exact h,λb o _=>by rw[w1],w4,λb o h=>by rw[w2]at h;exact .inl h⟩;rw[<-y1,<-w1];refine hK W v (y5.trans hxW) (hb W ⟨w1.trans y1,λb o h=>by rw[w2];exact(y4 b o).2 (.inl h),λh=>absurd h (by omega),λh=>absurd h hpk⟩ w7) ?_ ?_;.show aH W (aU s.mem (eY s.mem ks++_)) s.aI;rw[kJ];exact w6
  .refine⟨bc _,λu M hM=>?_⟩<;>grind
 .match us,hlen with|_::_::_,_=>simp[kQ]at hu
end
def aJ{α β:Type}{x:Option α}{f:α->β}{y:β}(h:x.map f=some y):∃z,x=some z/\f z=y:=by simp_all
def aV{α β:Type}{x:Option α}{f:α->Option β}{y:β}(h:x.bind f=some y):∃z,x=some z/\f z=some y:=by cases x with|none=>cases h|some z=>grind
def bU{v:AV}{r:iu}(h:fy.pure v=some r):r=.bZ {val:=v,dx:=[],cU:=[],rd:=[]}:=by grind[fy.pure]
def V1.Gn{X:Cx}{x:AV}{v:Value}(h:fY x=true)(hv:VR X x v):V1 X x v:=by cases x with|fu=>cases h|_=>exact hv
def aD.fY{X:Cx}:∀{xs:List AV}{vs:List Value},xs.all Go.bL.fY=true->aD (VR X) xs vs->aD (V1 X) xs vs|[],[],_,_=>trivial|x::xs,v::vs,h,hv=>by simp only[dC,al]at h;exact⟨V1.Gn h.1 hv.1,aD.fY h.2 hv.2⟩|[],_::_,_,hv=>hv.elim|_::_,[],_,hv=>hv.elim
def mG(m:List (Tr bu))(lv sl:Nat):aG (m++[.lf]) lv sl=aG m lv sl:=by unfold aG;grind[Tr.get?]
section
variable{P:Program}{X:Cx}{nt:NT}{s:St}{a:Act}{o:Oper}{dst:Option Nat}{aR:Nat}
def xQ{call:Go.bL.Call}(cH:cD P call)(Iu:aH X s.mem s.aI)(hfr:X.ρ aR=none)(xR:aR<s.nv)(hdom:∀v,s.nv<=v->X.ρ v=none){f pk lv sl:Nat}{args:List AV}{bV:Array Value}{r val:AV}{cm:List (Tr bu)}{ts:Tr Unit}{n':Nat}{us:List (List (List D))}{u:List (Nat×Nat×Option bu)}(hargs:aD (VR X) args bV.toList)(hnt:args.all fY=true)(hc:call f args (s.mem++[.lf]) s.aI s.nv=some (r,cm,ts,n'))(hi:gY cm s.mem.length pk lv sl aR r=some (val,us))(hu:kQ lv sl aR us=some u)(hrun:(∃fn,P.funcs[f]?=some fn/\fn.body.isSome=true/\(fn.name== "runtime.NumGoroutine")=false)->(execOp a.eval o).run P X.w=.ok (.enter f bV) X.w):dK P X s a o dst aR (.all val (aU (cm.take s.mem.length) u) ts n' [] []):=by
 intro K Q hK;have hm0:aH X (s.mem++[.lf]) s.aI:=Iu.congr (λlv sl=>mG _ _ _) λ_=>rfl;obtain⟨hfn,wv⟩:=cH f args (s.mem++[.lf]) s.aI s.nv r cm ts n' hc X bV hm0 hdom (aD.fY hnt hargs);unfold Oper.wp;rw[hrun hfn];refine Calls.mono wv ?_;rintro e w'⟨Z,v,rfl,rfl,It,hvZ,Rn,hn,hdZ⟩;have ake:Z.ρ aR=none:=by cases hz:Z.ρ aR with|none=>rfl|some L=>grind
 have CL:aH Z (cm.take s.mem.length) ts:=Rn.less (λlv sl e he=>by
  rw[nN]at he;split at he;.exact he
  .cases he) λ_ h=>h;have PV:∀{k:Nat×Nat×Nat}{v:Nat},Holds (cm.take s.mem.length) ts k v->Holds cm ts k v/\∀cC cW,s.mem.length<=cC->k≠bX cC cW:=by
  rintro k v(⟨cC,cW,e',rfl,he',nh⟩|⟨rfl,he'⟩)
  .rw[nN]at he';split at he';.refine⟨.inl ⟨cC,cW,e',rfl,he',nh⟩,λaAr aAs hle hq=>?_⟩;have:=(xz hq).1<;>omega
   grind
  .exact⟨.inr ⟨rfl,he'⟩,λ_ _ _ hq=>dX hq.symm⟩
 let G:Option Nat->Nat->Nat->Prop:=λp b _=>some b≠p/\∃cC cW e L,s.mem.length<=cC/\aG cm cC cW=some e/\e.fz=false/\Z.ρ e.aq=some L/\0<L.cap/\L.b=b;have mk:∀p,Ext Z (Z.more (G p))/\aH (Z.more (G p)) (cm.take s.mem.length) ts:=by
  intro p;have hin:∀b o,G p b o->¬Z.old b/\b<Z.w.heap.size:=by rintro b o⟨_,cC,cW,e,L,_,hg,hz,hL,hc,rfl⟩;obtain⟨M,hM,h2⟩:=Rn.dn (.inl ⟨cC,cW,e,rfl,hg,rfl,hz⟩)<;>grind
  refine⟨Ext.more λb o h=>(hin b o h).1,CL.more hin ?_⟩;rintro k v M o hk hv xq⟨_,cC,cW,e,L,hle,hg,hz,hL,hc,hb⟩;obtain⟨h1,h2⟩:=PV hk;exact Rn.apart _ _ _ _ _ _ h1 (.inl ⟨cC,cW,e,rfl,hg,rfl,hz⟩) (h2 cC cW hle) hv hL xq hc hb.symm
 rcases Is Rn hi hvZ with⟨rfl,hb⟩|⟨els,len,sz,v',rfl,⟨hpk,⟨L,off,ad,cap,g3,g4,g5,g6,g7'⟩⟩,hb⟩|hlen
 .cases hu;obtain⟨y5,y6⟩:=mk none;refine hK (Z.more (G none)) v (It.trans y5) (hb (Z.more (G none)) ⟨rfl,λb o h=>.inl h,λ_ _ _ h=>h,λ_ cC cW e L hle hg hz hL hc o=>.inr ⟨by simp,cC,cW,e,L,hle,hg,hz,hL,hc,rfl⟩⟩) y6 ⟨hn,λu L hL=>?_⟩;rcases hdZ u L hL with h|h;.grind
  .exact .inr (.inr h)
 .cases hu;subst g3;have g7:=λhc=>(g7' hc).2;obtain⟨y5,y6⟩:=mk (some L.b);obtain⟨W,w1,w2,w3,w4,w5,w6,w7⟩:=CY (Z:=Z) (Y:=Z.more (G (some L.b))) (lv:=lv) (sl:=sl) (aq:=aR) y6 rfl (λb o h=>.inl h) (λ_ h=>h) ake g4 g5 g6 g7 λhc=>⟨λo h=>by
    rcases h with h|h;.exact(g7 hc).2.2.2.2.2.1 o h
    .exact h.1 rfl,λk u M hk hM xq=>by obtain⟨h1,h2⟩:=PV hk;obtain⟨cC,cW,e,g0,g1,g2⟩:=(g7' hc).1;exact Rn.apart _ _ _ _ _ _ h1 (.inl ⟨cC,cW,e,rfl,g1.1,rfl,g1.2⟩) (h2 cC cW g0) hM g2 xq (g7 hc).2.2.2.1⟩;have hxW:Ext (Z.more (G (some L.b))) W:=⟨w3,by rw[w1];exact fC.refl _ _,λb o h=>by rw[w2];exact h,λb o _=>by rw[w1],w4,λb o h=>by rw[w2]at h;exact .inl h⟩;rw[show Z.w=W.w from w1.symm];refine hK W v ((It.trans y5).trans hxW) (hb W ⟨w1,λb o h=>by rw[w2];exact .inl h,λ_ u M hM=>w4 u M hM,λh=>absurd h hpk⟩ w7) w6 ⟨hn,λu M hM=>?_⟩;rcases w5 u M hM with h|h
  .rcases hdZ u M h with h|h;.exact .inl h
   .exact .inr (.inr h)
  omega
 .match us,hlen with|_::_::_,_=>simp[kQ]at hu
def Ki{call:Go.bL.Call}(cH:cD P call)(hs:fM X nt s a)(hfr:X.ρ aR=none)(xR:aR<s.nv)(hdom:∀v,s.nv<=v->X.ρ v=none){f pk lv sl:Nat}{args:List AV}{bV:Array Value}{r val:AV}{cm:List (Tr bu)}{ts:Tr Unit}{n':Nat}{us:List (List (List D))}{u:List (Nat×Nat×Option bu)}(hargs:aD (VR X) args bV.toList)(hnt:args.all fY=true)(hc:call f args (s.mem++[.lf]) s.aI s.nv=some (r,cm,ts,n'))(hi:gY cm s.mem.length pk lv sl aR r=some (val,us))(hu:kQ lv sl aR us=some u)(hrun:(∃fn,P.funcs[f]?=some fn/\fn.body.isSome=true/\(fn.name== "runtime.NumGoroutine")=false)->(execOp a.eval o).run P X.w=.ok (.enter f bV) X.w):dK P X s a o dst aR (.all val (aU (cm.take s.mem.length) u) ts n' [] []):=xQ cH hs.mem hfr xR hdom hargs hnt hc hi hu hrun
def Ro{call:Go.bL.Call}(cH:cD P call)(hs:fM X nt s a)(hdom:∀v,s.nv<=v->X.ρ v=none){f:Nat}{args:List AV}{bV:Array Value}{r:iu}(hargs:aD (VR X) args bV.toList)(hr:rU call s f args=some r)(hrun:(∃fn,P.funcs[f]?=some fn/\fn.body.isSome=true/\(fn.name== "runtime.NumGoroutine")=false)->(execOp a.eval o).run P X.w=.ok (.enter f bV) X.w):dK P X s a o dst aR r:=by
 unfold rU at hr;split at hr;.cases hr
 .rename_i hnt;split at hr;.cases hr
  .rename_i r' cm ts n' hc;cases hr;intro K Q hK;have hm0:aH X (s.mem++[.lf]) s.aI:=hs.mem.congr (λlv sl=>mG _ _ _) λ_=>rfl;obtain⟨hfn,wv⟩:=cH f args (s.mem++[.lf]) s.aI s.nv r' cm ts n' hc X bV hm0 hdom (aD.fY hnt hargs);unfold Oper.wp;rw[hrun hfn];refine Calls.mono wv ?_;rintro e w'⟨Z,v,rfl,rfl,It,hvZ,Rn,hn,hdZ⟩;exact hK Z v It hvZ Rn ⟨hn,λu L hL=>(hdZ u L hL).imp id .inr⟩
def Rp{call:Go.bL.Call}(cH:cD P call)(hs:fM X nt s a)(hfr:X.ρ aR=none){f:Nat}{args:List AV}{bV:Array Value}{r:iu}(hargs:aD (VR X) args bV.toList)(hr:oW call s aR f args=some r)(hrun:(∃fn,P.funcs[f]?=some fn/\fn.body.isSome=true/\(fn.name== "runtime.NumGoroutine")=false)->(execOp a.eval o).run P X.w=.ok (.enter f bV) X.w):dK P X s a o dst aR r:=by
 unfold oW at hr;split at hr;.cases hr
 .rename_i aL ks hl;split at hr;.cases hr
  .rename_i r' cm ts n' hc;split at hr;.rename_i v hi;have hV:=Kg hs.mem (ks:=ks) hl hargs λp hp=>hp;have:=CZ (dst:=dst) cH hs hfr (pk:=0) (lv:=0) (sl:=0) (rd:=args.flatMap fL) hV hc hi (u:=[]) rfl hrun<;>grind
   grind
def Cx.all(X:Cx):Cx:={w:=X.w,F:=λb _=>b<X.w.heap.size,ρ:=λ_=>none,old:=λb=>b<X.w.heap.size}
def Rq{call:Go.bL.Call}(cH:cD P call)(hs:fM X nt s a)(hfr:X.ρ aR=none){f:Nat}{args:List AV}{bV:Array Value}{r:iu}(hargs:aD (VR X) args bV.toList)(hr:oX call s aR f args=some r)(hrun:(∃fn,P.funcs[f]?=some fn/\fn.body.isSome=true/\(fn.name== "runtime.NumGoroutine")=false)->(execOp a.eval o).run P X.w=.ok (.enter f bV) X.w):dK P X s a o dst aR r:=by
 unfold oX at hr;split at hr;.cases hr
 .rename_i aL hl;split at hr;.cases hr
  .rename_i r' cm ts n' hc;split at hr;.rename_i v hi;cases hr;have hV:=Gk hs.mem [] hl hargs;have:=CZ (dst:=dst) cH hs hfr (pk:=0) (lv:=0) (sl:=0) (rd:=args.flatMap fL) hV hc hi (ks:=[]) (u:=[]) rfl hrun;exact this
   grind
def aaO(X:Cx)(hl:Low X):aH X.all [.lf] .lf:=by
 refine⟨λlv sl e he=>?_,λv hv=>by simp at hv,λk k' v v' L L' _ _ _ hv _ _ _=>?_,λ_ _ h=>h,λ_ h=>h,λb hb=>hl.lt b (hl.gb b hb),hl.gk⟩;.unfold aG at he;grind[Tr.get?,ou,bu.aq,Cx.all]
 .cases hv
def Kj{m:List (Tr bu)}{t:Tr Unit}(h:aH X m t){x:AV}{y:D}{v:Value}(hx:jj m x=some y)(hv:VC X x v):DR X.w X.all.F y v:=by
 have hsub:∀b o,X.F b o->X.all.F b o:=λb o hb=>h.nH b o hb;have Rm:∀{els a cap sz b o}{R:Nat->Nat->Prop},v=.slice a els.length cap->els.length<=cap->(0<els.length->a=some ⟨b,o,none⟩)->eO X.w X.F R els b o sz->DR X.w X.all.F (.sl els) v:=by rintro els a cap sz b o R rfl h2 h3 h4;exact DR.gI (h4.mono hsub λq hq _=>Iq hq) rfl h2 h3
 cases x with
 |d x=>cases hx;exact DR.mono hsub hv|own els ow=>cases hx;cases ow with|full=>obtain⟨a,b,o,sz,h1,h2,h3⟩:=hv<;>grind|cU aq tz=>obtain⟨a,b,o,sz,cap,h1,h2,h3,h4,_⟩:=hv<;>grind|bD=>obtain⟨a,b,o,sz,cap,h1,h2,h3,h4⟩:=hv<;>grind
 |ref lv sl aq off len sz=>simp[jj]at hx;cases he:dJ m (.ref lv sl aq off len sz)with|none=>grind|some els=>obtain⟨a,cap,sz',b,o,h1,h2,h3,h4⟩:=o9 h he (.k9 hv)<;>grind
 |_=>cases hx
def zp{α:Type}{sz:Nat}:∀{n:Nat}{l:List α},l.length=n*sz->(chunk sz n l).length=n/\(∀e∈chunk sz n l,e.length=sz)/\∀(i j:Nat)e x,(chunk sz n l)[i]?=some e->e[j]?=some x->j<sz/\i<n/\l[i*sz+j]?=some x
 |0,l,h=>⟨rfl,λe he=>(by cases he),λi j e x h1 _=>by simp[chunk]at h1⟩|n+1,l,h=>by
  have hl:(l.drop sz).length=n*sz:=by rw[oi,h,yi];omega
  obtain⟨h1,h2,h3⟩:=zp (sz:=sz) hl;have ht:(l.take sz).length=sz:=by rw[i7,h,yi];omega
  refine⟨by simp[chunk,h1],λe he=>?_,λi j e x he hx=>?_⟩
  .simp[chunk,dl]at he;rcases he with rfl|he;.exact ht
   .exact h2 e he
  .cases i with|zero=>
    cases he;have hj:j<sz:=by have:=(ci.1 hx).1;omega
    rw[fx,ba hj]at hx;exact⟨hj,by omega,by rw[xt,kb];exact hx⟩|succ i=>obtain⟨g1,g2,g3⟩:=h3 i j e x he hx;refine⟨g1,by omega,?_⟩;simp at g3;rw[yi,show i*sz+sz+j=sz+(i*sz+j)by omega];exact g3
def zq{f:AV->Option D}:∀{xs:List AV}{ys:List D},lI f xs=some ys->ys.length=xs.length/\∀(k:Nat)(y:D),ys[k]?=some y->∃a,xs[k]?=some a/\f a=some y
 |[],ys,h=>by grind[lI]|a::xs,ys,h=>by
  simp[lI]at h;split at h;.rename_i z zs h1 h2;cases h;obtain⟨g1,g2⟩:=zq h2<;>grind
  grind
def xS{m:List (Tr bu)}{t:Tr Unit}(h:aH X m t):∀(k:Nat){x:AV}{y:D}{v:Value},lJ m k x=some y->VC X x v->DR X.w X.all.F y v
 |0,_,_,_,hx,hv=>Kj h hx hv|k+1,x,y,v,hx,hv=>by
  unfold lJ at hx;split at hx
  .rename_i lv sl aq off n sz;split at hx
   .rename_i cs hb;split at hx
    .rename_i hoff;obtain⟨ds,hd,rfl⟩:=aJ hx;obtain⟨L,aaD,hL,rfl,hcap,hn,_⟩:=hv;obtain⟨L',hL',hE⟩:=h.fI lv sl _ (qW hb);have hL':X.ρ aq=some L':=hL';rw[hL]at hL';injection hL' with hL';subst hL';obtain⟨_,hblk,hno,hcell⟩:=hE;obtain⟨hdl,cell⟩:=zq hd;have hdl:ds.length=n*sz:=by rw[hdl,i7,oi];omega
     obtain⟨c1,c2,c3⟩:=zp hdl;refine DR.gI (b:=L.b) (o:=L.o+off) (sz:=sz) ⟨c2,λi e j x h1 h2=>?_⟩ c1 hcap λ_=>rfl;obtain⟨g1,g2,g3⟩:=c3 i j e x h1 h2;refine⟨hblk.lt,?_⟩;obtain⟨a,ha,hca⟩:=cell _ _ g3;rw[fx]at ha;split at ha;.rw[pd]at ha;obtain⟨u,hu,hvc⟩:=hcell _ _ ha;refine⟨u,?_,xS h k hca hvc⟩;rw[show L.o+off+i*sz+j=L.o+(off+(i*sz+j))by omega];exact hu
     .cases ha
    grind
   grind
  .exact Kj h hx hv
def Gp{m:List (Tr bu)}{t:Tr Unit}(h:aH X m t){k:Nat}:∀{xs:List AV}{ys:List D}{vs:List Value},lI (lJ m k) xs=some ys->aD (VC X) xs vs->aD (DR X.w X.all.F) ys vs
 |[],ys,[],hx,_=>by cases hx;trivial|x::xs,ys,v::vs,hx,hv=>by
  simp[lI]at hx;split at hx;.rename_i y ys' h1 h2;cases hx;exact⟨xS h k h1 hv.1,Gp h h2 hv.2⟩
  grind|[],_,_::_,_,hv=>hv.elim|_::_,_,[],_,hv=>hv.elim
def aaP{m:List (Tr bu)}{t:Tr Unit}(h:aH X m t){x y:AV}{v:Value}(hx:ku m x=some y)(hv:VR X x v):V1 X.all y v:=by
 have one:∀{x:AV},(lJ m 2 x).map AV.d=some y->VC X x v->V1 X.all y v:=by intro x hx hv;obtain⟨d,hd,rfl⟩:=aJ hx;exact .k9 (xS h 2 hd hv)
 cases x with
 |agg cs=>obtain⟨ds,hd,rfl⟩:=aJ hx;obtain⟨vs,rfl,h3⟩:=hv;exact⟨vs,rfl,(Gp h hd h3).aaI (X:=X.all)⟩|fK f c=>cases c with|nil=>simp only[ku]at hx;injection hx with hx;subst hx;exact .k9 (Ir hv)|cons=>simp[ku,lJ,jj]at hx
 |fu cs=>simp[ku,lJ,jj]at hx|e9 e off=>
  simp only[ku]at hx;injection hx with hx;subst hx;obtain⟨b,o,rfl,hc⟩:=hv;refine⟨b,o,rfl,λj x hj=>?_⟩;obtain⟨hF,u,hu,hd⟩:=hc j x hj;refine⟨.inl ?_,u,hu,DR.mono (λb o hb=>h.nH b o hb) hd⟩;rcases hF with hF|hF;.exact h.nH _ _ hF
  .exact h.low _ hF|ptr lv sl aq i off=>
  simp only[ku]at hx;split at hx;.rename_i cs hb hi;obtain⟨ds,hd,rfl⟩:=aJ hx;have hi:=am hi;subst hi;obtain⟨L,hL,rfl⟩:=hv;obtain⟨L',hL',hE⟩:=h.fI lv sl _ (qW hb);have hL':X.ρ aq=some L':=hL';rw[hL]at hL';injection hL' with hL';subst hL';obtain⟨_,hblk,hno,hcell⟩:=hE;obtain⟨_,cell⟩:=zq hd;refine⟨L.b,L.o,by rw[xt,fb],λj x hj=>⟨.inl hblk.lt,?_⟩⟩;obtain⟨a,ha,hca⟩:=cell _ _ hj;obtain⟨u,hu,hvc⟩:=hcell _ _ ha;exact⟨u,hu,xS h 2 hca hvc⟩
  .cases hx|_=>simp only[ku]at hx;exact one hx hv
def Kk{m:List (Tr bu)}{t:Tr Unit}(h:aH X m t):∀{xs ys:List AV}{vs:List Value},xw m xs=some ys->aD (VR X) xs vs->aD (V1 X.all) ys vs
 |[],ys,[],hx,_=>by cases hx;trivial|x::xs,ys,v::vs,hx,hv=>by
  simp[xw]at hx;split at hx;.rename_i y ys' h1 h2;cases hx;exact⟨aaP h h1 hv.1,Kk h h2 hv.2⟩
  grind|[],_,_::_,_,hv=>hv.elim|_::_,_,[],_,hv=>hv.elim
def C0{A B:Cx}{x:AV}{v:Value}(h:CC x=true)(hv:VC A x v):VC B x v:=by
 unfold CC at h;split at h;.cases hv with|sc v h1=>exact DR.sc v h1
 .cases hv with|sl els a n cap sz b o g hn hcap hsz ha hF hc hr=>exact DR.sl [] a n cap sz b o g hn hcap (λ_ h=>by cases h) ha (λ_ _ _ _ h=>by cases h) (λ_ _ _ _ h=>by cases h) (λ_ _ _ _ h=>by cases h)
 grind
def AJ{A B:Cx}:∀{xs:List AV}{vs:List Value},xs.all CC=true->aD (VC A) xs vs->aD (VC B) xs vs|[],[],_,_=>trivial|x::xs,v::vs,h,hv=>by rw[dC,al]at h;exact⟨C0 h.1 hv.1,AJ h.2 hv.2⟩|[],_::_,_,hv=>hv.elim|_::_,[],_,hv=>hv.elim
def wz{A B:Cx}{x:AV}{v:Value}(h:FT x=true)(hv:V1 A x v):V1 B x v:=by cases x with|agg cs=>obtain⟨vs,rfl,h3⟩:=hv;exact⟨vs,rfl,AJ h h3⟩|d x=>exact .k9 (C0 (A:=A) h hv)|_=>cases h
def AK{A B:Cx}:∀{xs:List AV}{vs:List Value},xs.all FT=true->aD (V1 A) xs vs->aD (V1 B) xs vs|[],[],_,_=>trivial|x::xs,v::vs,h,hv=>by rw[dC,al]at h;exact⟨wz h.1 hv.1,AK h.2 hv.2⟩|[],_::_,_,hv=>hv.elim|_::_,[],_,hv=>hv.elim
def NH{A B:Cx}{x:AV}{v:Value}(h:TV x=true)(hv:VR A x v):VR B x v:=by cases x with|fu cs=>obtain⟨vs,rfl,h3⟩:=hv;exact⟨vs,rfl,AK h h3⟩|agg cs=>exact .vM (wz (A:=A) h hv)|d x=>exact .vM (wz (A:=A) h hv)|_=>cases h
def Gq{call:Go.bL.Call}(cH:cD P call)(hs:fM X nt s a){f:Nat}{args:List AV}{bV:Array Value}{r:iu}(hargs:aD (VR X) args bV.toList)(hr:lK call s f args=some r)(hrun:(∃fn,P.funcs[f]?=some fn/\fn.body.isSome=true/\(fn.name== "runtime.NumGoroutine")=false)->(execOp a.eval o).run P X.w=.ok (.enter f bV) X.w):dK P X s a o dst aR r:=by
 unfold lK at hr;split at hr;.cases hr
 .rename_i aL hl;split at hr;.cases hr
  .rename_i r' cm ts n' hc;split at hr;case h_2=>cases hr
   rename_i v hi;split at hr;case h_2=>cases hr
   rename_i hfl;cases hr;intro K Q hK;have hV:=Kk hs.mem hl hargs;obtain⟨hfn,wv⟩:=cH f aL [.lf] .lf 0 r' cm ts n' hc X.all bV (aaO X hs.mem.p8) (λ_ _=>rfl) hV;unfold Oper.wp;rw[hrun hfn];refine Calls.mono wv ?_;rintro e w'⟨Z,v',rfl,rfl,It,hvZ,Rn,_,_⟩;have hblk:∀b,b<X.w.heap.size->Z.w.heap[b]?=X.w.heap[b]?:=λb hb=>It.below.block b hb;let Y:Cx:={w:=Z.w,F:=X.F,ρ:=X.ρ,old:=X.old};have hx:Ext X Y:=⟨rfl,It.below.mono hs.mem.low,λ_ _ h=>h,λb o h=>It.keep b o (hs.mem.nH b o h),λ_ _ h=>h,λ_ _ h=>.inl h⟩;have hm:aH Y s.mem s.aI:=hs.mem.move hx (λk v L hk hv hc=>by obtain⟨M,hM,h2⟩:=hs.mem.dn hk;rw[hv]at hM;injection hM with hM;subst hM;exact hblk _ (h2 hc).1) (λ_ _ _ _ _ _ _ h=>h) λb o h=>iv (hs.mem.nH b o h) It.below.size;have hvr:VR Y v v':=by
    rcases Is Rn hi hvZ with⟨_,hb⟩|⟨_,_,_,_,h,_⟩|h;.exact NH hfl (hb {Z with F:=λ_ _=>True} ⟨rfl,λ_ _ _=>trivial,λh=>absurd h (by omega),λ_ _ _ _ _ _ _ _ _ _ _=>trivial⟩)
    .cases h
    .simp at h
   refine hK Y v' hx hvr ?_ (fP.J4 rfl);exact hm
def zu{call:Go.bL.Call}(cH:cD P call)(hs:fM X nt s a)(hfr:X.ρ aR=none)(xR:aR<s.nv)(hdom:∀v,s.nv<=v->X.ρ v=none){shared:Bool}{f pk lv sl:Nat}{args:List AV}{bV:Array Value}{r:iu}(hargs:aD (VR X) args bV.toList)(hr:gZ call shared pk s lv sl aR f args=some r)(hrun:(∃fn,P.funcs[f]?=some fn/\fn.body.isSome=true/\(fn.name== "runtime.NumGoroutine")=false)->(execOp a.eval o).run P X.w=.ok (.enter f bV) X.w):dK P X s a o dst aR r:=by
 unfold gZ at hr;split at hr
 .split at hr;.cases hr
  .rename_i aL ks hl;split at hr;.cases hr
   .rename_i r' cm ts n' hc;split at hr;.cases hr
    .rename_i v us hi;split at hr;.cases hr
     .rename_i u hu;cases hr;exact CZ cH hs hfr (Kf hs.mem (ks:=ks) hl hargs λp hp=>hp) hc hi hu hrun
 .split at hr;.cases hr
  .rename_i hnt;split at hr;.cases hr
   .rename_i r' cm ts n' hc;split at hr;.cases hr
    .rename_i v us hi;split at hr;.cases hr
     .rename_i u hu;cases hr;exact Ki cH hs hfr xR hdom hargs hnt hc hi hu hrun
end
def tZ(f:Nat×Nat->Option bu):∀(kp:List (Nat×Nat))(m:List (Tr bu))(lv sl:Nat),aG (aU m (kp.map λk=>(k.1,k.2,f k))) lv sl=if(lv,sl)∈kp/\lv<m.length then f (lv,sl)else aG m lv sl|[],m,lv,sl=>by simp[aU]|(a,b)::r,m,lv,sl=>by simp only[f2,aU];rw[tZ f r,cQ]<;>grind[bJ,aU,aG]
def qd(m:List (Tr bu))(kp:List (Nat×Nat))(lv sl:Nat):aG (j8 m kp) lv sl=if(lv,sl)∈kp then none else aG m lv sl:=by unfold j8;rw[tZ (λ_=>none)]<;>grind[aU,aG]
def r7:∀(u:List (Nat×Nat×Option bu))(m:List (Tr bu)),(aU m u).length=m.length|[],_=>rfl|(lv,sl,e)::r,m=>(r7 r _).trans (by simp[bJ])
def ua(m:List (Tr bu))(kp:List (Nat×Nat)):(j8 m kp).length=m.length:=r7 _ _
def C1(old m:List (Tr bu)):(fit old m).length=old.length:=by grind[fit]
def NI(old m:List (Tr bu))(lv sl:Nat):aG (fit old m) lv sl=if lv<old.length then aG m lv sl else none:=by unfold fit aG;grind[Tr.get?]
def uc(old m:List (Tr bu))(kp:List (Nat×Nat))(lv sl:Nat):aG (back old m kp) lv sl=if kp=[]then aG m lv sl else if(lv,sl)∈kp then aG old lv sl else if lv<old.length then aG m lv sl else none:=by cases kp with|nil=>simp[back]|cons k r=>rw[bi (by simp)];unfold back;rw[tZ (λk=>aG old k.1 k.2),C1,NI]<;>grind[fit,aU,aG]
def nO{old m:List (Tr bu)}{kp:List (Nat×Nat)}(h:kp≠[]):(back old m kp).length=old.length:=by cases kp with|nil=>grind|cons k r=>unfold back;rw[r7,C1]
def Gr{old m:List (Tr bu)}{kp kr:List (Nat×Nat)}(hkr:∀k∈kr,k∉kp->aG m k.1 k.2=aG old k.1 k.2){lv sl:Nat}{e:bu}(h:aG (back old m (kp++kr)) lv sl=some e):((lv,sl)∈kp/\aG old lv sl=some e)\/((lv,sl)∉kp/\aG m lv sl=some e):=by
 rw[uc]at h;split at h;.simp_all
 grind
def akf{a b:Value}(h:sV a b=true):a=b:=by
 unfold sV at h;split at h;.grind
 .grind
 .rename_i a b;have:=dv h;have:a=b:=by cases a with|mk a=>simp_all
  rw[this]
 .rfl
 grind
def Gs{α:Type}{f:α->α->Bool}(hf:∀a b,f a b=true->a=b):∀{l m:List α},sL f l m=true->l=m|[],[],_=>rfl|a::l,b::m,h=>by simp[sL,al]at h;rw[hf a b h.1,Gs hf h.2]|[],_::_,h=>by cases h|_::_,[],h=>by cases h
def Uo:∀(k:Nat)(a b:D),sD k a b=true->a=b
 |0,_,_,h=>by cases h|k+1,a,b,h=>by
  unfold sD at h;split at h;.rw[akf h]
  .rw[Gs (λ_ _ h=>Gs (λa b h=>Uo k a b h) h) h]
  .rfl
  grind
def akg(a b:AV)(h:sA a b=true):a=b:=by
 have n:∀{a b:Nat},Nat.beq a b=true->a=b:=am;unfold sA at h;split at h;.rw[Uo _ _ _ h]
 .rw[Gs (λ_ _ h=>Gs (λa b h=>Uo 9 a b h) h) h]
 .simp only[al]at h;obtain⟨h1,h2,h3,h4,h5,h6⟩:=h;rw[n h1,n h2,n h3,n h4,n h5,n h6]
 .simp only[al]at h;obtain⟨h1,h2,h3,h4,h5,h6⟩:=h;rw[n h1,n h2,n h3,n h4,n h5,n h6]
 .simp only[al]at h;obtain⟨h1,h2,h3,h4,h5⟩:=h;rw[n h1,n h2,n h3,n h4,n h5]
 .cases h
def akh{a b:Option bu}(h:sE a b=true):a=b:=by
 unfold sE at h;split at h;.rw[al]at h;rw[am h.1,Gs akg h.2]
 .rfl
 grind
def Iv:∀{t:Tr bu}{n:Nat}{e:bu},okT t=true->t.get? n=some e->okE e=true
 |.lf,_,_,_,h=>by cases h|.nd v l r,n,e,ho,h=>by
  simp[okT,al]at ho;unfold Tr.get? at h;split at h;.grind
  .split at h;.exact Iv ho.2.1 h
   .exact Iv ho.2.2 h
def aaQ{m:List (Tr bu)}{lv sl:Nat}{e:bu}(ho:m.all okT=true)(h:aG m lv sl=some e):okE e=true:=by unfold aG at h;cases hm:m[lv]?with|none=>grind|some t=>rw[hm]at h;exact Iv (fr.1 ho t (eQ hm)) h
section
variable{X:Cx}{O:Nat->Prop}
def Cx.olds(X:Cx)(O:Nat->Prop):Cx:={w:=X.w,F:=X.F,ρ:=X.ρ,old:=O}
def CF.more(h:∀b,X.old b->O b){x:AV}{v:Value}(hv:CF X x v):CF (X.olds O) x v:=by cases x with
 |own els o=>cases o with|bD=>obtain⟨a,b,o,sz,cap,h1,h2,h3,h4⟩:=hv;exact⟨a,b,o,sz,cap,h1,h2,h3,h4.region λb _ hb=>h b hb⟩|full=>exact hv|cU aq tz=>exact hv
 |e9 e off=>obtain⟨b,o,hp,hc⟩:=hv;exact⟨b,o,hp,λj x hj=>⟨(hc j x hj).1.imp id (h b),(hc j x hj).2⟩⟩|d x=>exact hv|ref=>exact hv|ptr=>exact hv|dz=>exact hv|mp=>exact hv|agg=>exact hv.elim|fu=>exact hv.elim|fK=>exact hv.elim
def VC.more(h:∀b,X.old b->O b){x:AV}{v:Value}(hv:VC X x v):VC (X.olds O) x v:=by cases x with|fK f c=>obtain⟨vs,h1,h2⟩:=hv;exact⟨vs,h1,h2.mono λ_ _=>CF.more h⟩|_=>simp only[VC]at hv⊢;exact CF.more h hv
def V1.more(h:∀b,X.old b->O b){x:AV}{v:Value}(hv:V1 X x v):V1 (X.olds O) x v:=by cases x with|agg cs=>obtain⟨vs,h1,h2⟩:=hv;exact⟨vs,h1,h2.mono λ_ _=>VC.more h⟩|_=>simp only[V1]at hv⊢;exact VC.more h hv
def VR.more(h:∀b,X.old b->O b){x:AV}{v:Value}(hv:VR X x v):VR (X.olds O) x v:=by cases x with|fu cs=>obtain⟨vs,h1,h2⟩:=hv;exact⟨vs,h1,h2.mono λ_ _=>V1.more h⟩|_=>simp only[VR]at hv⊢;exact V1.more h hv
def Iw{x:AV}{v:Value}(ho:okC x=true)(hv:VC X x v):VC (X.olds O) x v:=by cases x with
 |own els o=>cases o with|bD=>cases ho|full=>exact hv|cU aq tz=>exact hv
 |e9 e off=>cases ho|fK f c=>obtain⟨vs,h1,h2⟩:=hv;grind[CF,aD,okC,Cx.olds,VC]|d x=>exact hv|ref=>exact hv|ptr=>exact hv|dz=>exact hv|mp=>exact hv|agg=>exact hv.elim|fu=>exact hv.elim
def Kl:∀{xs:List AV}{vs:List Value},xs.all okC=true->aD (VC X) xs vs->aD (VC (X.olds O)) xs vs|[],[],_,_=>trivial|x::xs,v::vs,ho,hv=>by rw[dC,al]at ho;exact⟨Iw ho.1 hv.1,Kl ho.2 hv.2⟩|[],_::_,_,hv=>hv.elim|_::_,[],_,hv=>hv.elim
def PW{x:AV}{v:Value}(ho:ok1 x=true)(hv:V1 X x v):V1 (X.olds O) x v:=by cases x with|agg cs=>obtain⟨vs,h1,h2⟩:=hv;exact⟨vs,h1,Kl ho h2⟩|_=>simp only[V1]at hv⊢;exact Iw ho hv
def Km:∀{xs:List AV}{vs:List Value},xs.all ok1=true->aD (V1 X) xs vs->aD (V1 (X.olds O)) xs vs|[],[],_,_=>trivial|x::xs,v::vs,ho,hv=>by rw[dC,al]at ho;exact⟨PW ho.1 hv.1,Km ho.2 hv.2⟩|[],_::_,_,hv=>hv.elim|_::_,[],_,hv=>hv.elim
def aaR{x:AV}{v:Value}(ho:CB x=true)(hv:VR X x v):VR (X.olds O) x v:=by cases x with|fu cs=>obtain⟨vs,h1,h2⟩:=hv;exact⟨vs,h1,Km ho h2⟩|_=>simp only[VR]at hv⊢;exact PW ho hv
end
section
variable{P:Program}{X:Cx}{s:St}{a:Act}{o:Oper}{dst:Option Nat}{aR:Nat}
def Hid(X:Cx)(m:List (Tr bu))(kp:List (Nat×Nat))(b:Nat):Prop:=∃lv sl e L,(lv,sl)∈kp/\aG m lv sl=some e/\e.fz=false/\X.ρ e.aq=some L/\0<L.cap/\L.b=b
def Gt{nt:NT}{call:Go.bL.Call}(cH:cD P call)(hs:fM X nt s a)(hfr:X.ρ aR=none)(xR:aR<s.nv)(hdom:∀v,s.nv<=v->X.ρ v=none){row:Nat}{kp kr:List (Nat×Nat)}{lv sl f:Nat}{args:List AV}{bV:Array Value}{r:iu}(hargs:aD (VR X) args bV.toList)(hr:qC call row kp kr s lv sl aR f args=some r)(hrun:(∃fn,P.funcs[f]?=some fn/\fn.body.isSome=true/\(fn.name== "runtime.NumGoroutine")=false)->(execOp a.eval o).run P X.w=.ok (.enter f bV) X.w):dK P X s a o dst aR r:=by
 have hmem:=hs.mem;unfold qC at hr;split at hr;.cases hr
 rename_i hnt;split at hr;.cases hr
 rename_i r' cm ts n' hc;split at hr;.cases hr
 rename_i val us hi;split at hr;.cases hr
 rename_i u hu;split at hr;case h_2=>cases hr
 rename_i hok;cases hr;rw[al,al]at hok;have hkr:∀k∈kr,k∉kp->aG (aU (cm.take s.mem.length) u) k.1 k.2=aG s.mem k.1 k.2:=λk hk hn=>by have:=akh (fr.1 hok.2.2 k hk);rw[this,qd,bi hn]
 have hok:CB val=true/\(aU (cm.take s.mem.length) u).all okT=true:=⟨hok.1,hok.2.1⟩;let O:Nat->Prop:=λb=>X.old b\/Hid X s.mem kp b;have hO:∀b,X.old b->O b:=λb hb=>.inl hb;let X':=X.olds O;let s':St:={s with mem:=j8 s.mem kp};have hlen:s'.mem.length=s.mem.length:=ua _ _;have nK:∀{lv sl:Nat}{e:bu},aG (j8 s.mem kp) lv sl=some e->(lv,sl)∉kp/\aG s.mem lv sl=some e:=by intro lv sl e h;rw[qd]at h<;>grind
 have adp:∀{k:Nat×Nat×Nat}{v:Nat}{L:Loc},Holds s.mem s.aI k v->(∀lv sl,(lv,sl)∈kp->k≠bX lv sl)->X.ρ v=some L->0<L.cap->¬O L.b:=by
  rintro k v L hk hne hL hc(h|⟨lv0,sl0,e0,L0,h1,h2,h3,h4,h5,h6⟩);.obtain⟨M,hM,h2⟩:=hmem.dn hk<;>grind
  .exact hmem.apart k (bX lv0 sl0) v e0.aq L L0 hk (.inl ⟨lv0,sl0,e0,rfl,h2,rfl,h3⟩) (hne _ _ h1) hL h4 hc h5 h6.symm
 have blk:∀{b n:Nat},¬O b->Block X b n->Block X' b n:=λho hb=>⟨ho,hb.2⟩;have aki:aH X' (j8 s.mem kp) s.aI:=by
  refine⟨λlv sl e he=>?_,λv hv=>?_,λk k' v v' L L' h1 h2 h3 h4 h5=>?_,hmem.nH,?_,?_,hmem.p8.gk⟩;.obtain⟨hk,he⟩:=nK he;obtain⟨L,hL,hE⟩:=hmem.fI lv sl e he;refine⟨L,hL,?_⟩;have hold:e.fz=false->0<L.cap->¬O L.b:=λhz hc=>adp (.inl ⟨lv,sl,e,rfl,he,rfl,hz⟩) (λlv0 sl0 h0 hq=>by obtain⟨rfl,rfl⟩:=xz hq;exact hk h0) hL hc;cases e with|row v els=>exact⟨hE.1,hE.2.1,λhc=>⟨blk (hold rfl hc) (hE.2.2.1 hc).1,(hE.2.2.1 hc).2⟩,hE.2.2.2⟩|box v cells=>exact⟨hE.1,blk (hold rfl (by have:=hE.1;omega)) hE.2.1,hE.2.2.1,λj x hj=>by obtain⟨u,h1,h2⟩:=hE.2.2.2 j x hj;exact⟨u,h1,h2.more hO⟩⟩|Ni v els=>exact hE|mp v ks=>exact⟨hE.1,hold rfl (by have:=hE.1;omega),hE.2.2⟩
  .obtain⟨L,hL,hT⟩:=hmem.aI v hv;exact⟨L,hL,λhc=>⟨blk (adp (.inr ⟨rfl,hv⟩) (λ_ _ _ hq=>dX hq.symm) hL hc) (hT hc).1,(hT hc).2⟩⟩
  .have up:∀{k:Nat×Nat×Nat}{v:Nat},Holds (j8 s.mem kp) s.aI k v->Holds s.mem s.aI k v:=by
    rintro k v(⟨lv,sl,e,hk,he,hv⟩|h);.exact .inl ⟨lv,sl,e,hk,(nK he).2,hv⟩
    .exact .inr h
   exact hmem.apart k k' v v' L L' (up h1) (up h2) h3 h4 h5
  .rintro b(h|⟨lv0,sl0,e0,L0,h1,h2,h3,h4,h5,rfl⟩);.exact hmem.low b h
   .obtain⟨M,hM,hq⟩:=hmem.dn (k:=bX lv0 sl0) (v:=e0.aq) (.inl ⟨lv0,sl0,e0,rfl,h2,rfl,h3⟩);rw[h4]at hM;injection hM with hM;subst hM;exact(hq h5).1
  .exactλb hb=>.inl (hmem.p8.gb b hb)
 have ae2:aD (VR X') args bV.toList:=hargs.mono λ_ _ h=>h.more hO;have core:=xQ (X:=X') (s:=s') (dst:=dst) cH aki hfr xR hdom ae2 hnt hc (by rw[hlen];exact hi) hu hrun;intro K Q hK;refine core K Q λY' v' hx' nh hm' hd'=>?_;let Y:=Y'.olds X.old;have hx:Ext X Y:=⟨rfl,hx'.below.mono hO,hx'.T4,hx'.keep,hx'.loc,λb o hb=>(hx'.new b o hb).imp id λh q=>h (hO b q)⟩;rw[hlen]at hm';have old':∀b,¬Y'.old b->¬X.old b/\¬O b:=λb hb=>by rw[hx'.base]at hb;exact⟨λq=>hb (hO b q),hb⟩
 have ae3:∀{b n:Nat},Block Y' b n->Block Y b n:=λhb=>⟨(old' _ hb.1).1,hb.2⟩;have asC:∀{lv sl:Nat}{e:bu},(lv,sl)∈kp->aG s.mem lv sl=some e->∃L,X.ρ e.aq=some L/\Y.ρ e.aq=some L/\ou Y e L:=by
  intro lv sl e hk he;obtain⟨L,hL,hE⟩:=hmem.fI lv sl e he;refine⟨L,hL,hx'.loc _ _ hL,?_⟩;have hid:e.fz=false->0<L.cap->O L.b:=λhz hc=>.inr ⟨lv,sl,e,L,hk,he,hz,hL,hc,rfl⟩;have heap:e.fz=false->0<L.cap->Y'.w.heap[L.b]?=X.w.heap[L.b]?:=λhz hc=>hx'.below.block _ (hid hz hc);have cel:∀{b:Nat}(o:Nat),Y'.w.heap[b]?=X.w.heap[b]?->Y'.w.cell? ⟨b,o,none⟩=X.w.cell? ⟨b,o,none⟩:=λo hb=>by simp[World.cell?,hb]
  have noF:e.fz=false->0<L.cap->(∀o,¬X.F L.b o)->∀o,¬Y'.F L.b o:=λhz hc hn o hF=>by
   rcases hx'.new _ _ hF with h|h;.exact hn o h
   .exact h (hid hz hc)
  have akj:e.fz=false->0<L.cap->∀{n:Nat},Block X L.b n->Block Y L.b n:=λhz hc n hb=>by obtain⟨h1,c,ce,h2,h3⟩:=hb;exact⟨h1,c,ce,by show Y'.w.heap[L.b]?=_;rw[heap hz hc];exact h2,h3⟩
  cases e with|Ni v els=>exact⟨hE.1,hE.2.ext hx⟩|row v els=>
   refine⟨hE.1,hE.2.1,λhc=>⟨akj rfl hc (hE.2.2.1 hc).1,noF rfl hc (hE.2.2.1 hc).2⟩,λi e j x h1 h2=>?_⟩;have hc:0<L.cap:=by have:=(ci.1 h1).1;have:=hE.1;omega
   obtain⟨u,hu,hd⟩:=hE.2.2.2 i e j x h1 h2;exact⟨u,(cel _ (heap rfl hc)).trans hu,hd.ext hx⟩|box v cells=>
   have hc:0<L.cap:=by have:=hE.1;omega
   refine⟨hE.1,akj rfl hc hE.2.1,noF rfl hc hE.2.2.1,λj x hj=>?_⟩;obtain⟨u,hu,hd⟩:=hE.2.2.2 j x hj;exact⟨u,(cel _ (heap rfl hc)).trans hu,hd.ext hx⟩|mp v ks=>
   have hc:0<L.cap:=by have:=hE.1;omega
   obtain⟨h1,h2,h3,es,clock,h4,h5⟩:=hE;exact⟨h1,h2,noF rfl hc h3,es,clock,(heap rfl hc).trans h4,h5⟩
 have rest:∀{k:Nat×Nat×Nat}{v:Nat}{L:Loc},Holds (aU (cm.take s.mem.length) u) ts k v->Y.ρ v=some L->0<L.cap->¬O L.b:=by intro k v L hk hL hc;obtain⟨M,hM,h2⟩:=hm'.dn hk;have:Y.ρ v=some M:=hM<;>grind
 refine hK Y v' hx (aaR hok.1 nh) ?_ hd';refine⟨λlv sl e he=>?_,λv hv=>?_,λk k' v v' L L' h1 h2 hne h3 h4 h5 h6=>?_,hm'.nH,λb hb=>iv (hmem.low b hb) hx.below.size,hmem.p8.gb,hm'.p8.gk⟩
 .rcases Gr hkr he with⟨hk,he⟩|⟨hk,he⟩;.grind
  .obtain⟨L,hL,hE⟩:=hm'.fI lv sl e he;refine⟨L,hL,?_⟩;have hoe:=aaQ hok.2 he;cases e with|Ni v els=>exact hE|row v els=>exact⟨hE.1,hE.2.1,λhc=>⟨ae3 (hE.2.2.1 hc).1,(hE.2.2.1 hc).2⟩,hE.2.2.2⟩|box v cells=>exact⟨hE.1,ae3 hE.2.1,hE.2.2.1,λj x hj=>by obtain⟨u,g1,g2⟩:=hE.2.2.2 j x hj;exact⟨u,g1,Iw (fr.1 hoe x (eQ hj)) g2⟩⟩|mp v ks=>exact⟨hE.1,(old' _ hE.2.1).1,hE.2.2⟩
 .obtain⟨L,hL,hT⟩:=hm'.aI v hv;exact⟨L,hL,λhc=>⟨ae3 (hT hc).1,(hT hc).2⟩⟩
 .have cls:∀{k:Nat×Nat×Nat}{v:Nat},Holds (back s.mem (aU (cm.take s.mem.length) u) (kp++kr)) ts k v->(∃lv sl e,(lv,sl)∈kp/\k=bX lv sl/\aG s.mem lv sl=some e/\e.aq=v/\e.fz=false)\/Holds (aU (cm.take s.mem.length) u) ts k v:=by
   rintro k v(⟨lv,sl,e,hk,he,hv⟩|h)
   .rcases Gr hkr he with⟨hk',he⟩|⟨hk',he⟩;.exact .inl ⟨lv,sl,e,hk',hk,he,hv⟩
    .exact .inr (.inl ⟨lv,sl,e,hk,he,hv⟩)
   .exact .inr (.inr h)
  have ae4:∀{lv sl:Nat}{e:bu}{M:Loc},(lv,sl)∈kp->aG s.mem lv sl=some e->e.fz=false->Y.ρ e.aq=some M->0<M.cap->X.ρ e.aq=some M/\O M.b:=by intro lv sl e M hk he hz hM hc;obtain⟨L,g1,g2,_⟩:=asC hk he;rw[hM]at g2;injection g2 with g2;subst g2;exact⟨g1,.inr ⟨lv,sl,e,M,hk,he,hz,g1,hc,rfl⟩⟩
  rcases cls h1 with⟨lv,sl,e,q1,q2,q3,rfl,q5⟩|h1
  .obtain⟨x1,x2⟩:=ae4 q1 q3 q5 h3 h5;rcases cls h2 with⟨cC,cW,e',p1,p2,p3,rfl,p5⟩|h2;.obtain⟨y1,_⟩:=ae4 p1 p3 p5 h4 h6;exact hmem.apart k k' _ _ L L' (.inl ⟨lv,sl,e,q2,q3,rfl,q5⟩) (.inl ⟨cC,cW,e',p2,p3,rfl,p5⟩) hne x1 y1 h5 h6
   grind
  .rcases cls h2 with⟨cC,cW,e',p1,p2,p3,rfl,p5⟩|h2;.obtain⟨_,y2⟩:=ae4 p1 p3 p5 h4 h6;intro hb;exact rest h1 h3 h5 (hb▸y2)
   .exact hm'.apart k k' v v' L L' h1 h2 hne h3 h4 h5 h6
end
def Ix:∀{els:List (List D)}{l:List UInt8},bytesOf els=some l->∃xs:List Int,els=xs.map (λn=>[.sc (.int .u8 n)])/\l=xs.map λn=>UInt8.ofNat n.toNat:=by intro els;induction els with|nil=>simp_all[bytesOf]|cons e r ih=>
 intro l h;unfold bytesOf at h;split at h;.grind
 .rename_i n r' hq;cases hq;obtain⟨l',hl',rfl⟩:=fg.1 h;obtain⟨xs,rfl,rfl⟩:=ih hl';exact⟨n::xs,rfl,rfl⟩
 grind
section
variable{P:Program}{X:Cx}{nt:NT}{s:St}{a:Act}{o:Oper}{dst:Option Nat}{aR:Nat}
def ae5(hs:fM X nt s a){src ds e:TypeId}{x:Operand}{x':cx}{els:List (List D)}{l:List UInt8}(ho:o.op=.convert src ds x)(h1:P.underlying src=some (.slice e))(h2:P.underlying e=some (.int .u8))(h3:P.underlying ds=some .string)(hx:dH x=some x')(he:dJ s.mem (x'.ev s.slots)=some els)(hl:bytesOf els=some l):Quiet P X o a (nC (.string (od l))):=by
 obtain⟨xs,rfl,rfl⟩:=Ix hl;obtain⟨ad,cap,sz,b,off,hv,_,had,Nz⟩:=o9 hs.mem he (bE hs hx);refine⟨.string (od (xs.map λn=>UInt8.ofNat n.toNat)),?_,.nC rfl⟩;have key:(convert src ds (a.eval x)).run P X.w=.ok (.string (od (xs.map λn=>UInt8.ofNat n.toNat))) X.w:=by
  rw[hv];by_cases h0:xs.length=0;.have BW:xs=[]:=eb h0;subst BW;rw[run_convert_bytes_string X.w src ds e ad _ cap h1 h2 h3];cases ad with|none=>rfl|some ad=>rfl
  .have hlt:0<(xs.map (λn=>([.sc (.int .u8 n)]:List D))).length:=by grind
   have:=had hlt;subst this;have hsz:sz=1:=by have:=Nz.1 _ (i9 hlt)<;>grind
   subst hsz;exact run_convert_bytes_arg X.w src e h1 h2 b off _ cap xs (by simp) (λi hi=>by simp at hi;obtain⟨_,v,hv,hd⟩:=Nz.2 i [.sc (.int .u8 xs[i])] 0 (.sc (.int .u8 xs[i])) (by simp[aw hi]) rfl;cases hd;simp only[rc,fb]at hv;rw[hv];simp[List.getD,aw hi]) ds h3
 simp[execOp,ho,key]
def Cx.qG(X:Cx)(ob:Obj)(v:Nat)(L:Loc):Cx:={X with w:=X.w.alloc ob,ρ:=λu=>if u=v then some L else X.ρ u}
def wA{ob:Obj}{v:Nat}{L:Loc}(hin:∀b o,X.F b o->b<X.w.heap.size)(nI:∀b,X.old b->b<X.w.heap.size)(hv:X.ρ v=none):Ext X (X.qG ob v L):=⟨rfl,(fC.refl _ _).alloc nI _,λ_ _ h=>h,λb o h=>rY (hin b o h),λu M hu=>by grind[Cx.qG],λ_ _ h=>.inl h⟩
def C2{m:List (Tr bu)}{t:Tr Unit}{ob:Obj}{v:Nat}{L:Loc}(h:aH X m t)(hv:X.ρ v=none):aH (X.qG ob v L) m t:=h.move (wA h.nH h.low hv) (λk u M hk hu hc=>by obtain⟨M',kR,h2⟩:=h.dn hk;rw[hu]at kR;cases kR;exact heap_alloc_old _ _ _ (h2 hc).1) (λ_ _ _ _ _ _ _ h=>h) (λb o hb=>by have:=h.nH b o hb;show b<(X.w.alloc _).heap.size;rw[World.size_alloc];omega)
def C3{ob:Obj}{v:Nat}{L:Loc}{n:Nat}:fP X (X.qG ob v L) v n n:=⟨bc _,λu M h=>by grind[Cx.qG]⟩
def ae6(hs:fM X nt s a)(hfr:X.ρ aR=none){src ds e:TypeId}{x:Operand}{x':cx}{b:ByteArray}{rd:List (Nat×Nat×Nat)}(ho:o.op=.convert src ds x)(h1:P.underlying src=some .string)(h2:P.underlying ds=some (.slice e))(h3:P.underlying e=some (.int .u8))(hx:dH x=some x')(he:x'.ev s.slots=.d (.sc (.string b))):dK P X s a o dst aR (.bZ {val:=.d (.sl (b.data.toList.map λc=>[.sc (.int .u8 c.toNat)])),dx:=[],cU:=[],rd}):=by
 have hv:=bE hs hx;rw[he]at hv;have hv:=hv.sc;have hrun:=run_bytes_of_string (P:=P) X.w src ds e b h1 h2 h3;have hcap:b.size<=grownCap X.w b.size 0 e:=grownCap_ge _ _ _ _;generalize grownCap X.w b.size 0 e=cap at hrun hcap;let ob:Obj:=.cells (bytesRow b cap) e ((bytesRow b cap).size,(bytesRow b cap).size+1);let X2:=X.drew.qG ob aR ⟨0,0,0,0⟩;let X3:=X2.more λb' q=>b'=X.w.heap.size/\q<b.size;have m1:aH X.drew s.mem s.aI:=xJ hs.mem;have e2:Ext X.drew X2:=wA m1.nH m1.low hfr;have m2:aH X2 s.mem s.aI:=C2 m1 hfr;have hsz:X2.w.heap.size=X.w.heap.size+1:=World.size_alloc _ _;have e3:Ext X2 X3:=Ext.more λb' q hq=>by rw[hq.1];exact hs.mem.fresh
 have m3:aH X3 s.mem s.aI:=m2.more (λb' q hq=>by rw[hq.1];exact⟨hs.mem.fresh,by omega⟩) λk u M q hk hu hc hq=>by obtain⟨M',kR,g⟩:=m1.dn hk;have:X2.ρ u=some M':=e2.loc _ _ kR;rw[hu]at this;injection this with this;subst this;have h4:=(g hc).1;have h5:X.drew.w.heap.size=X.w.heap.size:=rfl;have h6:=hq.1;omega
 have hheap:X3.w.heap[X.w.heap.size]?=some ob:=heap_alloc_new X.drew.w ob;have hx3:Ext X X3:=(nL.trans e2).trans e3;refine .value (Y:=X3) (v:=.slice (some ⟨X.w.heap.size,0,none⟩) b.size cap) ?_ hx3 ?_ m3 ⟨bc _,λu M hu=>?_⟩;.simp[execOp,ho,hv,hrun];rfl
 .refine DR.gI (b:=X.w.heap.size) (o:=0) (sz:=1) ⟨λf hf=>?_,λi f j y hi hj=>?_⟩ (by simp) hcap λ_=>rfl;.grind
  .rw[fi]at hi;obtain⟨c,hc,rfl⟩:=fg.1 hi;have AM:i<b.data.toList.length:=(ci.1 hc).1;match j,hj with|0,hj=>simp at hj;subst hj;refine⟨.inr ⟨rfl,by simpa using AM⟩,.int .u8 c.toNat,?_,.sc _ rfl⟩;simp[World.cell?,hheap,ob,kb,rc,fb,o0,kx,n3];unfold bytesRow<;>grind
 .rcases(C3 (X:=X.drew) (ob:=ob) (v:=aR) (L:=⟨0,0,0,0⟩) (n:=s.nv)).2 u M hu with q|q|q<;>grind[Cx.drew,VR,cx.ev,dH,St.app]
def Up{lq:Nat}(hs:fM X nt s a)(hfr:X.ρ aR=none){t:TypeId}{d:Nat}(ho:o.op=.makeMap t none):dK P X s a o dst aR (.bZ {val:=.mp lq d aR,dx:=[(lq,d,some (.mp aR []))],cU:=[],rd:=[]}):=by
 have hρ:(X.qG (.map #[] 0) aR ⟨X.w.heap.size,0,0,1⟩).ρ aR=some ⟨X.w.heap.size,0,0,1⟩:=ba rfl;refine .value (Y:=X.qG (.map #[] 0) aR ⟨X.w.heap.size,0,0,1⟩) (v:=.map (some X.w.heap.size)) ?_ (wA hs.mem.nH hs.mem.low hfr) ⟨_,hρ,rfl⟩ ?_ C3;.simp[execOp,ho,Instr.makeMap,Cx.qG]
 .refine(C2 hs.mem hfr).add (e:=.mp aR []) (L:=⟨X.w.heap.size,0,0,1⟩) hρ ⟨rfl,hs.mem.fresh,λo ho=>mn _ (hs.mem.nH _ _ ho),#[],0,heap_alloc_new _ _,rfl⟩ λk u M hk _ hu hc _=>?_;obtain⟨M',kR,h2⟩:=hs.mem.dn hk<;>grind[bX,St.app,Holds,Cx.qG]
def Ko{m:List (Tr bu)}{t:Tr Unit}(h:aH X m t){lv sl aq:Nat}{ks:List (List UInt8)}(hr:setAt m lv sl aq=some ks):∃L,X.ρ aq=some L/\ou X (.mp aq ks) L/\aG m lv sl=some (.mp aq ks):=by
 unfold setAt at hr;split at hr
 .rename_i v ks' hg;split at hr;.rename_i hv;cases hr;have hv:=beq_true.1 hv;subst hv;obtain⟨L,hL,hE⟩:=h.fI _ _ _ hg;exact⟨L,hL,hE,hg⟩
  grind
 grind
def Uq(b:ByteArray)(l:List UInt8):(b==od l)=decide (b.data.toList=l):=by
 have hb:∀x y:ByteArray,(x==y)=(x.data==y.data):=λx y=>by cases x;cases y;rfl
 grind[od]
def C4{b:ByteArray}:∀{es:List MapEntry}{ks:List (List UInt8)}(i:Nat),es.map (λe=>(e.key,e.val))=ks.map (λl=>(Value.string (od l),Value.bool true))->(hasB ks b.data.toList=false/\Instr.findNow .string (.string b) es i=some none)\/(hasB ks b.data.toList=true/\∃j e,es[j]?=some e/\e.key=.string b/\e.val=.bool true/\Instr.findNow .string (.string b) es i=some (some (i+j,.bool true)))
 |[],[],i,_=>.inl ⟨rfl,rfl⟩|[],_::_,i,h=>by simp at h|_::_,[],i,h=>by simp at h|e::es,l::ks,i,h=>by
  simp at h;obtain⟨⟨hk,hv⟩,h⟩:=h;have hsame:Instr.sameNow .string (.string b) e.key=some (decide (b.data.toList=l)):=by rw[hk];simp[Instr.sameNow];rw[Uq]
  by_cases hq:b.data.toList=l
  .refine .inr ⟨by simp[hasB,hq],0,e,rfl,?_,hv,?_⟩;.rw[hk,<-hq];simp[od]
   .simp[Instr.findNow,hsame,hq,hv]
  .rcases C4 (b:=b) (i+1) h with⟨h1,h2⟩|⟨h1,j,e',h2,h3,h4,h5⟩;.exact .inl ⟨by simpa[hasB,hq]using h1,by simp[Instr.findNow,hsame,hq,h2]⟩
   .refine .inr ⟨by simpa[hasB,hq]using h1,j+1,e',by simpa using h2,h3,h4,?_⟩;simp only[Instr.findNow,hsame,hq,tb,h5]<;>grind
def Ur{w:World}{c:Bool}{k:TypeId}{b:ByteArray}(hk:P.underlying k=some .string):(Instr.checkKey c 10000 k (.string b)).run P w=.ok () w:=by rw[Instr.checkKey];simp[run_underlying hk]
def Us{n:Nat}{b:ByteArray}:Instr.sameBits n (.string b) (.string b)=true:=by
 have h:(b==b)=true:=by have:=Uq b b.data.toList;simp_all[od]
 cases n<;>exact h
def aaS(hs:fM X nt s a){t k e:TypeId}{m x:Operand}{m' x':cx}{lv sl aq:Nat}{b:ByteArray}{ks:List (List UInt8)}(ho:o.op=.lookup t m x false)(ht:P.underlying t=some (.map k e))(hk:P.underlying k=some .string)(hz:(P.info? e).bind (·.zero)=some (.bool false))(hm:dH m=some m')(hx:dH x=some x')(h1:m'.ev s.slots=.mp lv sl aq)(h2:x'.ev s.slots=.d (.sc (.string b)))(h3:setAt s.mem lv sl aq=some ks):Quiet P X o a (nC (.bool (hasB ks b.data.toList))):=by
 have g1:=bE hs hm;rw[h1]at g1;have g2:=bE hs hx;rw[h2]at g2;have g2:=g2.sc;obtain⟨L,hL,g1⟩:=g1;obtain⟨L',hL',hE,_⟩:=Ko hs.mem h3;simp_all;obtain⟨_,_,_,es,clock,hb,hf⟩:=hE;refine⟨.bool (hasB ks b.data.toList),?_,.nC rfl⟩;obtain⟨i,hi,Ik⟩:=lr.1 hz;have hc:=Ur (P:=P) (w:=X.w) (c:=es.isEmpty) (b:=b) hk;rcases C4 (b:=b) 0 hf with⟨q1,q2⟩|⟨q1,j,e',q2,q3,q4,q5⟩;.simp[execOp,ho,g1,g2,Instr.lookup,run_underlying ht,MapKept.run_getObj_map hb,hc,Instr.findKey,run_underlying hk,q2,zeroValue,typeInfo,hi,Ik,q1]
 .simp[execOp,ho,g1,g2,Instr.lookup,run_underlying ht,MapKept.run_getObj_map hb,hc,Instr.findKey,run_underlying hk,q5,q1]
def Cx.BY(X:Cx)(g:Nat)(ob:Obj):Cx:={X with w:={X.w with heap:=X.w.heap.setIfInBounds g ob}}
def Rr{g:Nat}{ob ob':Obj}(hg:X.w.heap[g]?=some ob'):(X.BY g ob).w.heap[g]?=some ob:=by grind[Cx.BY]
def wB{g b:Nat}{ob:Obj}(h:b≠g):(X.BY g ob).w.heap[b]?=X.w.heap[b]?:=by simp[Cx.BY,pw h]
def Kp{g:Nat}{ob:Obj}(hb:¬X.old g)(hF:∀o,¬X.F g o):Ext X (X.BY g ob):=by
 refine⟨rfl,⟨rfl,rfl,rfl,by simp[Cx.BY],λk hk=>wB λe=>hb (e▸hk)⟩,λ_ _ h=>h,λb o h=>?_,λ_ _ h=>h,λ_ _ h=>.inl h⟩;have hne:b≠g:=by grind
 simp[World.cell?,wB hne]
def aaT(hs:fM X nt s a){t k e:TypeId}{m x:Operand}{m' x':cx}{lv sl aq:Nat}{b:ByteArray}{ks:List (List UInt8)}{rd:List (Nat×Nat×Nat)}(ho:o.op=.mapUpdate t m x (.const (.bool true)))(ht:P.underlying t=some (.map k e))(hk:P.underlying k=some .string)(hm:dH m=some m')(hx:dH x=some x')(h1:m'.ev s.slots=.mp lv sl aq)(h2:x'.ev s.slots=.d (.sc (.string b)))(h3:setAt s.mem lv sl aq=some ks):dK P X s a o dst aR (.bZ {val:=kP,dx:=[(lv,sl,some (.mp aq (tI ks b.data.toList)))],cU:=[],rd}):=by
 have g1:=bE hs hm;rw[h1]at g1;have g2:=bE hs hx;rw[h2]at g2;have g2:=g2.sc;obtain⟨L,hL,g1⟩:=g1;obtain⟨L',hL',hE,hg⟩:=Ko hs.mem h3;rw[hL]at hL';cases hL';obtain⟨c1,c2,c3,es,clock,hb,hf⟩:=hE;have hc:=Ur (P:=P) (w:=X.w) (c:=false) (b:=b) hk;have gt:a.eval (.const (.bool true))=.bool true:=rfl;have fin:∀es' clock',(Instr.mapUpdate t (.map (some L.b)) (.string b) (.bool true)).run P X.w=.ok () (X.BY L.b (.map es' clock')).w->Ib es' (tI ks b.data.toList)->dK P X s a o dst aR (.bZ {val:=kP,dx:=[(lv,sl,some (.mp aq (tI ks b.data.toList)))],cU:=[],rd}):=by
  intro es' clock' hrun hfit;refine .skip (Y:=X.BY L.b (.map es' clock')) ?_ (Kp c2 c3) o6 ?_ (fP.J4 rfl);.simp[execOp,ho,g1,g2,gt,hrun]
  .have hap:∀k w M,Holds (bJ s.mem lv sl none) s.aI k w->X.ρ w=some M->0<M.cap->M.b≠L.b:=by
    intro k' w M hk' hw xq;have hold:Holds s.mem s.aI k' w/\k'≠bX lv sl:=by
     rcases hk' with⟨cC,cW,e',rfl,he',nh⟩|⟨rfl,he'⟩
     .rw[cQ]at he';split at he';.cases he'
      .rename_i hcc;refine⟨.inl ⟨cC,cW,e',rfl,he',nh⟩,λhq=>?_⟩;obtain⟨rfl,rfl⟩:=xz hq;apply hcc;unfold aG at he'<;>grind
     .exact⟨.inr ⟨rfl,he'⟩,λhq=>dX hq.symm⟩
    exact hs.mem.apart _ _ _ _ _ _ hold.1 (.inl ⟨lv,sl,_,rfl,hg,rfl,rfl⟩) hold.2 hw hL xq (by omega)
   have zf:aH (X.BY L.b (.map es' clock')) (bJ s.mem lv sl none) s.aI:=(hs.mem.erase lv sl).move (Kp c2 c3) (λk' w M hk' hw xq=>wB (hap k' w M hk' hw xq)) (λ_ _ _ _ _ _ _ h=>h) λb' o' hb'=>by have:=hs.mem.nH b' o' hb';simpa[Cx.BY]using this
   exact zf.reset (e:=.mp aq (tI ks b.data.toList)) (L:=L) hL ⟨c1,c2,c3,es',clock',Rr hb,hfit⟩ λk' w M hk' hw xq _=>hap k' w M hk' hw xq
 rcases C4 (b:=b) 0 hf with⟨q1,q2⟩|⟨q1,j,e',q2,q3,q4,q5⟩
 .refine fin (es.push {key:=.string b,val:=.bool true,born:=clock}) (clock+1) ?_ ?_;.simp[Instr.mapUpdate,run_underlying ht,MapKept.run_getObj_map hb,hc,Instr.findKey,run_underlying hk,q2,MapKept.run_setObj_map _ hb,Cx.BY]
  .unfold Ib tI at*;rw[q1];simp[hf,od]
 .refine fin (es.modify j λe=>{e with key:=.string b,val:=.bool true}) clock ?_ ?_
  .simp[Instr.mapUpdate,run_underlying ht,MapKept.run_getObj_map hb,hc,Instr.findKey,run_underlying hk,q5,MapKept.run_setObj_map _ hb,Cx.BY,Instr.keyThatStays];have hj:es[j]?=some e':=by grind
   intro hno;rw[hj]at hno;simp only[cf,sf,q3,Us]at hno<;>grind
  .unfold Ib tI at*;apply lA;grind
end
section
variable{P:Program}{X:Cx}{nt:NT}{s:St}{a:Act}{o:Oper}{dst:Option Nat}{aR:Nat}
def qX{t:TypeId}{sz xp:Nat}(h:tN P t=some (sz,xp)):∃e i z,P.underlying t=some (.slice e)/\P.info? e=some i/\i.zero=some z/\z.cells.size=i.size/\0<i.size/\i.size=sz/\i.bytes=xp:=by
 unfold tN at h;split at h
 .split at h
  .rename_i i z hi hz;split at h;.obtain⟨i',zv,hi',Ik,rfl⟩:=jX hz<;>grind
   grind
  grind
 grind
def fe{f:Nat}{args:Array Operand}{ts:Array TypeId}(ho:o.op=.call {callee:=.value (.func f),args,argTypes:=ts})(hf:∃fn,P.funcs[f]?=some fn/\fn.body.isSome=true/\(fn.name== "runtime.NumGoroutine")=false):(execOp a.eval o).run P X.w=.ok (.enter f (args.map a.eval)) X.w:=by obtain⟨fn,hf,hb,hn⟩:=hf;have:=pz (P:=P) (args:=args.map a.eval) (w:=X.w) hf hb hn;have he:a.eval (.func f)=.func (.func f) #[] #[]:=rfl;simp[execOp,ho,resolve,he,Deferred.ofValue,invoke]<;>omega
def Rs{f:Nat}{t:Nat}{args:Array Operand}{ts:Array TypeId}{cap:Array Value}(ho:o.op=.call {callee:=.value (.tmp t),args,argTypes:=ts})(hv:a.eval (.tmp t)=.func (.func f) #[] cap)(hf:∃fn,P.funcs[f]?=some fn/\fn.body.isSome=true/\(fn.name== "runtime.NumGoroutine")=false):(execOp a.eval o).run P X.w=.ok (.enter f (args.map a.eval++cap)) X.w:=by obtain⟨fn,hf,hb,hn⟩:=hf;have:=pz (P:=P) (args:=args.map a.eval++cap) (w:=X.w) hf hb hn;simp[execOp,ho,resolve,hv,Deferred.ofValue,invoke]<;>omega
def xT(hs:fM X nt s a)(hfr:X.ρ aR=none){x y:Operand}{x' y':cx}{t u:TypeId}{sz xp:Nat}{row:Bool}{lv sl:Nat}{E:fy}(ho:o.op=.call {callee:=.builtin .append,args:=#[x,y],argTypes:=#[t,u]})(hu:wo P u)(he:tN P t=some (sz,xp))(hx:dH x=some x')(hy:dH y=some y')(hr:ew s row lv sl aR sz xp (x'.ev s.slots) (y'.ev s.slots)=some E):dK P X s a o dst aR (.bZ E):=by obtain⟨e,i,z,ht,hi,hz,hzs,h0,rfl,rfl⟩:=qX he;obtain⟨Y,v,h1,h2,h3,h4,h5⟩:=tX (P:=P) (ty:=o.type) (n:=s.nv) hs.mem hfr ht hu hi hz hzs h0 (bE hs hx) (bE hs hy) hr;exact .value (tU (w:=Y.w) ho h1) h2 h3 h4 h5
def Rt(hs:fM X nt s a)(hfr:X.ρ aR=none){t e:TypeId}{sz l h k:Nat}{x:Operand}{x':cx}{lo hi mx:Option Operand}{lo' hi' Fm:Option cx}{E:fy}(ho:o.op=.slice t x lo hi mx)(ht:P.underlying t=some (.slice e))(hsz:ec P e=some sz)(hx:dH x=some x')(hlo:rW lo=some lo')(hhi:rW hi=some hi')(T8:rW mx=some Fm)(bl:gr lo' s.slots 0=some l)(bh:gr hi' s.slots 0=some h)(bk:gr Fm s.slots 0=some k)(c4:Fm.isNone=true)(hr:JX s aR sz (x'.ev s.slots) l (hi'.map λ_=>h)=some E):dK P X s a o dst aR (.bZ E):=by
 have hv:=bE hs hx;have eh:∀n,(hi'.map λ_=>h).getD n=if hi'.isSome then h else n:=λn=>by cases hi'<;>rfl
 have em:Fm.isSome=false:=by simp_all
 unfold JX at hr;split at hr
 .rename_i lv sl aq off len sz' he;split at hr
  .rename_i els hrow;split at hr;.rename_i hc;obtain⟨rfl,c1,c2,c3⟩:=hc;cases hr;rw[he]at hv;obtain⟨L,ad,cap,hL,hLs,Gi,hle,h4⟩:=hv;obtain⟨Y,hw,g1,g2,g3,g4⟩:=PN (n:=s.nv) hs.mem hfr (h':=(hi'.map λ_=>h).getD len) ⟨L,ad,cap,hL,hLs,rfl,hle,h4⟩ hrow c1 c2 c3;have run:=F2 hs (P:=P) ho ht hsz Gi hlo hhi T8 bl bh bk (by rw[<-eh];exact c1) (by rw[<-eh,em];simp only[kx,n3];omega) (by rw[em];simp) (by rw[em];exactλh=>by cases h);rw[<-eh,em]at run;refine .value (Y:=Y) (by rw[hw];exact run) g1 g2 ?_ g4;exact g3
   grind
  grind
 grind
def FA(hs:fM X nt s a)(hfr:X.ρ aR=none){x y:Operand}{x' y':cx}{t u e':TypeId}{sz xp k:Nat}{kd:IntKind}{zl:List Value}{z:List D}{row:Bool}{lv sl:Nat}{E:fy}(ho:o.op=.call {callee:=.builtin .append,args:=#[x,y],argTypes:=#[t,u]})(hu:P.underlying u=some (.int kd))(ht':P.underlying t=some (.slice e'))(he:tN P t=some (sz,xp))(hzp:oZ P e'=some zl)(Fy:jU zl=some z)(hzl:z.length=sz)(hx:dH x=some x')(hy:dH y=some y')(hk:gX (y'.ev s.slots)=some k)(h63:k<=eW)(hby:k*xp<=jA)(hr:ew s row lv sl aR sz xp (x'.ev s.slots) (.d (.sl (List.replicate k z)))=some E):dK P X s a o dst aR (.bZ E):=by
 obtain⟨e,i,zv,ht,hi,hz,hzs,h0,rfl,rfl⟩:=qX he;simp_all;obtain⟨i',zv',hi',Ik,rfl⟩:=jX hzp;rw[hi]at hi';cases hi';rw[hz]at Ik;cases Ik;obtain⟨kk,hke⟩:=ld hk (bE hs hy);have hZ:aD (DR X.w X.F) z zv.cells.toList:=mF Fy;have wm:=jC hZ hzl h0 k (k*i.size) (bc _);have lu:(madeCells zv.cells (k*i.size)).toList.take (k*i.size)=(Builtin.zeroCells zv.cells k).toList:=by rw[f1 (by simp[madeCells])];simp[madeCells,Builtin.zeroCells,hzs]
 rw[lu]at wm;obtain⟨Y,v,h1,h2,h3,h4,h5⟩:=xL (P:=P) (u:=u) (ty:=o.type) (yv:=a.eval y) (n:=s.nv) hs.mem hfr ht hi hz hzs h0 (bE hs hx) (λnews hn hnl=>by injection hn with hn;subst hn;refine⟨_,wm,?_⟩;rw[lh];exact .zero kd kk zv hu hz hzs hke h63 hby rfl) hr;exact .value (tU (w:=Y.w) ho h1) h2 h3 h4 h5
def Kq(hs:fM X nt s a)(hfr:X.ρ aR=none){f T:Nat}{x:Operand}{x':cx}{ts:Array TypeId}{sz xp:Nat}{row:Bool}{lv sl:Nat}{E:fy}{els:List (List D)}(hc:xO P f T)(ho:o.op=.call {callee:=.value (.func f),args:=#[x],argTypes:=ts})(he:tN P T=some (sz,xp))(hx:dH x=some x')(hel:dJ s.mem (x'.ev s.slots)=some els)(hr:ew s row lv sl aR sz xp (.own [] .full) (x'.ev s.slots)=some E):dK P X s a o dst aR (.bZ E):=by
 obtain⟨e,i,z,ht,hi,hz,hzs,h0,rfl,rfl⟩:=qX he;have hv:=bE hs hx;obtain⟨ad,cap,_,_,_,cy,_⟩:=o9 hs.mem hel hv;have lu:=Ke (P:=P) (n:=s.nv) hc hs.mem hfr ht hi hz hzs h0 hv ⟨ad,_,cap,cy⟩ hr;obtain⟨fn,hf,hb,_,_,hn⟩:=hc.fn;intro K Q hK;unfold Oper.wp;have hrun:(execOp a.eval o).run P X.w=.ok (.enter f #[a.eval x]) X.w:=by have:=fe (P:=P) (X:=X) (a:=a) ho ⟨fn,hf,by rw[hb];rfl,hn⟩<;>grind
 rw[hrun];refine Calls.mono lu ?_;rintro en w'⟨Y,v,rfl,rfl,h2,h3,h4,h5⟩;exact hK Y v h2 h3 h4 h5
def vO(hs:fM X nt s a)(hfr:X.ρ aR=none){x y:Operand}{x' y':cx}{t u:TypeId}{sz xp:Nat}{lv sl:Nat}{E:fy}(ho:o.op=.call {callee:=.builtin .append,args:=#[x,y],argTypes:=#[t,u]})(hu:wo P u)(he:tN P t=some (sz,xp))(hx:dH x=some x')(hy:dH y=some y')(hr:kH s lv sl aR sz xp (x'.ev s.slots) (y'.ev s.slots)=some E):dK P X s a o dst aR (.bZ E):=by obtain⟨e,i,z,ht,hi,hz,hzs,h0,rfl,rfl⟩:=qX he;obtain⟨Y,v,h1,h2,h3,h4,h5⟩:=xN (P:=P) (ty:=o.type) (n:=s.nv) hs.mem hfr ht hu hi hz hzs h0 (bE hs hx) (bE hs hy) hr;exact .value (tU (w:=Y.w) ho h1) h2 h3 h4 h5
def Iy(hs:fM X nt s a)(hfr:X.ρ aR=none){f T:Nat}{x:Operand}{x':cx}{ts:Array TypeId}{sz xp:Nat}{lv sl:Nat}{E:fy}(hc:xO P f T)(ho:o.op=.call {callee:=.value (.func f),args:=#[x],argTypes:=ts})(he:tN P T=some (sz,xp))(hx:dH x=some x')(hr:kH s lv sl aR sz xp (.own [] .full) (x'.ev s.slots)=some E):dK P X s a o dst aR (.bZ E):=by
 obtain⟨e,i,z,ht,hi,hz,hzs,h0,rfl,rfl⟩:=qX he;have hv:=bE hs hx;obtain⟨new,hnew,hlen⟩:=Kd hr;have lu:=Ip (P:=P) (n:=s.nv) hc hs.mem hfr ht hi hz hzs h0 hv (Kc hs.mem hnew hv hlen) hr;obtain⟨fn,hf,hb,_,_,hn⟩:=hc.fn;intro K Q hK;unfold Oper.wp;have hrun:(execOp a.eval o).run P X.w=.ok (.enter f #[a.eval x]) X.w:=by have:=fe (P:=P) (X:=X) (a:=a) ho ⟨fn,hf,by rw[hb];rfl,hn⟩;simpa using this
 rw[hrun,Oper.upon_enter];refine Calls.mono lu ?_;rintro en w'⟨Y,v,rfl,rfl,h2,h3,h4,h5⟩;exact hK Y v h2 h3 h4 h5
def CF.VR{X:Cx}{x:AV}{v:Value}(h:CF X x v):Go.bL.VR X x v:=by cases x<;>first|exact h|exact h.elim
def Ut{call:Go.bL.Call}{sh:Nat->Bool}{dy:Nat->Option TypeId}(cH:cD P call)(iy:∀f T,dy f=some T->kA P f T)(hs:fM X nt s a)(hfr:X.ρ aR=none)(xR:aR<s.nv)(hdom:∀v,s.nv<=v->X.ρ v=none){c:Go.Call}{aop:cG}{row d:Nat}{r:iu}(ho:o.op=.call c)(hp:TZ P dy c=some aop)(hr:aop.run call sh s row d aR=some r):dK P X s a o dst aR r:=by obtain⟨callee,args,ts⟩:=c;obtain⟨args⟩:=args;obtain⟨ts⟩:=ts;unfold TZ at hp;cases callee with
 |value f=>cases f with
  |func f=>
   simp at hp;split at hp
   .rename_i T x hT;split at hp
    .rename_i hq;have hq:=am hq;obtain⟨x',hx',rfl⟩:=aJ hp;obtain⟨E,hE,rfl⟩:=aJ hr;have hc:=(iy f T hT).sort hq;have hrun:(execOp a.eval o).run P X.w=.ok (.enter f #[a.eval x]) X.w:=by have:=fe (P:=P) (X:=X) (a:=a) ho hc.fn;simpa using this
     exact NF (_ts:=ts.toArray) hs hc hrun hx' hE
    .rename_i hq;split at hp
     .rename_i zg;have zg:=am zg;obtain⟨x',hx',rfl⟩:=aJ hp;obtain⟨E,hE,rfl⟩:=aJ hr;have hc:=(iy f T hT).compact zg;have hrun:(execOp a.eval o).run P X.w=.ok (.enter f #[a.eval x]) X.w:=by have:=fe (P:=P) (X:=X) (a:=a) ho hc.fn;simpa using this
      exact Fz (_ts:=ts.toArray) hs hfr hc hrun hx' hE
     .rename_i zg;split at hp
      .rename_i sz xp x' he hx';cases hp;simp[cG.run]at hr;split at hr;.obtain⟨E,hE,rfl⟩:=aJ hr;exact Iy hs hfr ((iy f T hT).clone (by rintro rfl;cases hq) (by rintro rfl;cases zg)) ho he hx' hE
       split at hr;.rename_i els hel;obtain⟨E,hE,rfl⟩:=aJ hr;exact Kq hs hfr ((iy f T hT).clone (by rintro rfl;cases hq) (by rintro rfl;cases zg)) ho he hx' hel hE
       .cases hr
      .cases hp
   .cases hp
   .split at hp
    .obtain⟨aL,has,rfl⟩:=aJ hp;simp[cG.run]at hr;have hargs:=xB hs has;split at hr;.exact Gt cH hs hfr xR hdom (bV:=(Array.mk _).map a.eval) (by rw[lc];exact hargs) hr λhf=>fe ho hf
     split at hr;.exact zu cH hs hfr xR hdom (bV:=(Array.mk _).map a.eval) (by rw[lc];exact hargs) hr λhf=>fe ho hf
     .exact Gq cH hs (bV:=(Array.mk _).map a.eval) (by rw[lc];exact hargs) hr λhf=>fe ho hf
    .obtain⟨aL,has,rfl⟩:=aJ hp;simp[cG.run]at hr;have hargs:=xB hs has;split at hr;.exact Gt cH hs hfr xR hdom (bV:=(Array.mk _).map a.eval) (by rw[lc];exact hargs) hr λhf=>fe ho hf
     split at hr;.exact Gq cH hs (bV:=(Array.mk _).map a.eval) (by rw[lc];exact hargs) hr λhf=>fe ho hf
     .split at hr;.exact Ro cH hs hdom (bV:=(Array.mk _).map a.eval) (by rw[lc];exact hargs) hr λhf=>fe ho hf
      split at hr;.exact Rp cH hs hfr (bV:=(Array.mk _).map a.eval) (by rw[lc];exact hargs) hr λhf=>fe ho hf
      split at hr;.exact Rq cH hs hfr (bV:=(Array.mk _).map a.eval) (by rw[lc];exact hargs) hr λhf=>fe ho hf
      .exact zu cH hs hfr xR hdom (bV:=(Array.mk _).map a.eval) (by rw[lc];exact hargs) hr λhf=>fe ho hf|tmp t=>
   obtain⟨aL,has,rfl⟩:=aJ hp;simp[cG.run]at hr;split at hr;.rename_i f cap hq;have hargs:=xB hs has;have hv:=bE hs (x:=.tmp t) (y:=.t t) rfl;rw[hq]at hv;obtain⟨vs,hv,hcap⟩:=hv;refine zu cH hs hfr xR hdom (bV:=(Array.mk args).map a.eval++vs) (by rw[Array.toList_append,lc];exact hargs.append (hcap.mono λ_ _=>CF.VR)) hr λhf=>Rs ho hv hf
   .cases hr|const v=>cases hp|global g=>cases hp
 |invoke r m=>cases hp|builtin b=>
  simp at hp;split at hp
  .split at hp
   .rename_i e hu;obtain⟨x',hx',rfl⟩:=aJ hp;simp[cG.run]at hr;split at hr;.rename_i els hq;rw[bU hr];exact .quiet hs (Ig hs ho hu hx' (.inl ⟨els,.inl hq,rfl⟩))
    .rename_i els ow hq;rw[bU hr];exact .quiet hs (Ig hs ho hu hx' (.inl ⟨els,.inr ⟨_,hq⟩,rfl⟩))
    .rename_i lv sl aq off n sz hq;rw[bU hr];exact .quiet hs (Ig hs ho hu hx' (.inr (.inl ⟨_,_,_,_,_,hq⟩)))
    .rename_i lv sl aq off n sz hq;rw[bU hr];exact .quiet hs (Ig hs ho hu hx' (.inr (.inr ⟨_,_,_,_,_,hq⟩)))
    .cases hr
   .rename_i hu;obtain⟨x',hx',rfl⟩:=aJ hp;simp[cG.run]at hr;split at hr;.rename_i b hq;rw[bU hr];exact .quiet hs (aaF hs ho hu hx' hq)
    .cases hr
   .rename_i n e hu;cases hp;rw[bU hr];exact .quiet hs (PI ho (.inl ⟨e,hu⟩))
   .rename_i e hu;split at hp;.rename_i n e' mA;cases hp;rw[bU hr];exact .quiet hs (PI ho (.inr ⟨e,e',hu,mA⟩))
    .cases hp
   .cases hp
  .split at hp
   .rename_i e kd ht hu;split at hp
    .rename_i sz xp z x' y' he hz hx' hy';split at hp
     .rename_i hzl;cases hp;obtain⟨zl,hzp,Fy⟩:=aV hz;obtain⟨k,hk,hr⟩:=aV hr;split at hr;.rename_i hc;obtain⟨E,hE,rfl⟩:=aJ hr;exact FA hs hfr ho hu ht he hzp Fy hzl hx' hy' hk hc.2.1 hc.2.2 hE
      .cases hr
     .cases hp
    .cases hp
   .cases hp
   .rename_i hu;split at hp
    .rename_i sz xp x' y' he hx' hy';injection hp with hp;subst hp;simp only[cG.run]at hr;split at hr;.obtain⟨E,hE,rfl⟩:=aJ hr;exact vO hs hfr ho (.inl ⟨_,hu⟩) he hx' hy' hE
     .obtain⟨E,hE,rfl⟩:=aJ hr;exact xT hs hfr ho (.inl ⟨_,hu⟩) he hx' hy' hE
    .cases hp
   .rename_i hu;split at hp
    .rename_i sz xp x' y' he hx' hy';injection hp with hp;subst hp;simp only[cG.run]at hr;split at hr;.obtain⟨E,hE,rfl⟩:=aJ hr;exact vO hs hfr ho (.inr hu) he hx' hy' hE
     .obtain⟨E,hE,rfl⟩:=aJ hr;exact xT hs hfr ho (.inr hu) he hx' hy' hE
    .cases hp
   .cases hp
  .split at hp
   .rename_i e hu;split at hp
    .rename_i i x' y' hi hx' hy';split at hp
     .rename_i h0;injection hp with hp;subst hp;simp only[cG.run]at hr;split at hr
      .rename_i lv sl aq off n sz' news hq hn;split at hr
       .rename_i cs hb;split at hr;.rename_i hc;obtain⟨rfl,ov,J9⟩:=hc;injection hr with hr;subst hr;exact NB hs ho hu hi h0 hx' hy' hq hn hb ov (kI J9)
        .cases hr
       .cases hr
      .rename_i lv sl aq off ln sz' news hq hn;split at hr
       .rename_i els hb;split at hr;.rename_i hc;obtain⟨rfl,ov,J9⟩:=hc;injection hr with hr;subst hr;exact NA hs ho hu hi h0 hx' hy' hq hn hb ov (kI J9)
        .cases hr
       .cases hr
      .cases hr
     .cases hp
    .cases hp
   .cases hp
  .split at hp
   .rename_i e hu;split at hp
    .rename_i sz z x' hsz hz hx';split at hp
     .rename_i hc0;cases hp;obtain⟨zl,hzl,Fy⟩:=aV hz;simp[cG.run]at hr;split at hr
      .rename_i lv sl aq off ln sz' hq;split at hr
       .rename_i els hb;split at hr;.rename_i hc;obtain⟨rfl,ov,J9⟩:=hc;cases hr;exact xM hs ho hu hzl Fy J9 hc0.2 hx' hq hb ov
        .cases hr
       .cases hr
      .cases hr
     .cases hp
    .cases hp
   .cases hp
  .split at hp
   .rename_i e hu;obtain⟨x',hx',rfl⟩:=aJ hp;simp[cG.run]at hr;split at hr;.rename_i els hq;rw[bU hr];exact .quiet hs (aaE hs ho hu hx' hq)
    .cases hr
   .cases hp
  .split at hp
   .rename_i x' y' hx' hy';cases hp;simp[cG.run]at hr;split at hr
    .rename_i k p k' q hq1 zg;split at hr;.subst_vars;rw[bU hr];exact .quiet hs (aeU hs ho hx' hy' hq1 zg)
     .cases hr
    .cases hr
   .cases hp
  .split at hp
   .rename_i x' y' hx' hy';cases hp;simp[cG.run]at hr;split at hr
    .rename_i k p k' q hq1 zg;split at hr;.subst_vars;rw[bU hr];exact .quiet hs (aeV hs ho hx' hy' hq1 zg)
     .cases hr
    .cases hr
   .cases hp
  .cases hp
end
section
variable {P:Program} {X:Cx} {nt:NT} {s:St} {a:Act} {o:Oper} {dst:Option Nat} {aR:Nat}
def Iz {t:TypeId} {fs:Array Field} {zl:List Value} {pl:List (Nat×Nat)} {it:TypeInfo} {z:Value} (hi:P.info? t=some it) (hz:it.zero=some z) (_h:zl=z.cells.toList) (ht:P.underlying t=some (.struct fs)) (hp:H8 P fs=some pl) (parts:List (Nat×Value)) :
  P.built t parts=Instr.fill (pl.toArray[·]?) z.cells parts:=by
 unfold H8 at hp
 simp[Program.built,hi,ht,hz,hp]
def ae7 {call : Go.bL.Call} {sh : Nat → Bool} {dy : Nat → Option TypeId} (cH : cD P call) (iy : ∀ f T, dy f = some T → kA P f T) (hs : fM X nt s a) (hfr : X.ρ aR = none) (xR : aR < s.nv) (hdom : ∀ v, s.nv ≤ v → X.ρ v = none) {aop : cG} {row d : Nat} {r : iu}
  (hp:Fk P dy o.op=some aop) (hr:aop.run call sh s row d aR=some r):dK P X s a o dst aR r:=by
 cases ho:o.op with
 |move x=>
  rw[ho] at hp
  obtain⟨x',hx,rfl⟩:=aJ hp
  exact CU hs hfr (by simp[execOp,ho]) hx hr
 |assign x=>
  rw[ho] at hp
  obtain⟨x',hx,rfl⟩:=aJ hp
  exact CU hs hfr (by simp[execOp,ho]) hx hr
 | pick c x y =>
  rw[ho] at hp
  simp[Fk] at hp
  split at hp
  ·rename_i c' x' y' hc hx hy
   cases hp
   obtain⟨b,hb,hr⟩:=aV hr
   rw[bU hr]
   exact .quiet hs (B7 hs ho hc hx hy hb)
  ·cases hp
 |alloc t=>
  rw[ho] at hp
  obtain⟨z,hz,hp⟩:=aV hp
  obtain⟨cs,hcs,rfl⟩:=aJ hp
  cases hr
  exact CN hs hfr ho hz hcs
 | box t x =>
  rw[ho] at hp
  obtain⟨x',hx,rfl⟩:=aJ hp
  simp only[cG.run] at hr
  split at hr
  ·obtain ⟨cs, hcs, rfl⟩ := aJ hr
   exact Ub hs hfr ho hx hcs
  ·split at hr
   ·obtain ⟨cs, hcs, hr⟩ := aV hr
    obtain⟨ds,hds,hr⟩:=aV hr
    rw[bU hr]
    exact aaG hs hfr ho hx hcs hds
   ·obtain ⟨cs, hcs, rfl⟩ := aJ hr
    exact Ub hs hfr ho hx hcs
 | build t ps =>
  rw[ho] at hp
  simp only[Fk] at hp
  split at hp
  ·rename_i z fs hz ht
   split at hp
   ·rename_i z' pl hzc hpl
    obtain⟨l,hl,rfl⟩:=aJ hp
    obtain⟨cs,hcs,hr⟩:=aV hr
    rw[bU hr]
    obtain⟨it,zv,hi,Ik,rfl⟩:=jX hz
    exact .quiet hs (J2 hs _ ho hzc (Iz hi Ik rfl ht hpl) hl hcs hi)
   ·cases hp
  ·rename_i z n e hz ht
   split at hp
   ·rename_i z' sz hzc hsz
    obtain⟨l,hl,rfl⟩:=aJ hp
    obtain⟨cs,hcs,hr⟩:=aV hr
    rw[bU hr]
    obtain⟨it,zv,hi,Ik,rfl⟩:=jX hz
    obtain⟨ie,hie,aeR⟩:=gp hsz
    refine .quiet hs (J2 hs (fun i=>some (i*sz,sz)) ho hzc (fun parts=>?_) hl hcs hi)
    simp[Program.built,hi,ht,Ik,hie,aeR]
   ·cases hp
  ·cases hp
 | buildSlice t n ps =>
  rw[ho] at hp
  simp[Fk] at hp
  split at hp
  ·rename_i e ht
   split at hp
   ·rename_i sz z l hsz hz hl
    split at hp
    ·rename_i hc
     cases hp
     obtain⟨zl,hzl,Fy⟩:=aV hz
     simp only[cG.run] at hr
     split at hr
     ·split at hr
      ·cases hr
      ·rename_i hn
       obtain⟨cs,hf,rfl⟩:=aJ hr
       exact J6 (P:=P) (dst:=dst) (d:=d) hs hfr ho ht hsz hzl Fy hl hc.1 hc.2.1 hc.2.2 (beq_false.1 hn) hf
     split at hr
     ·cases hr
     ·rename_i els ks hf
      have:=fun rd d lq=>Fw (lq:=lq) (P:=P) (dst:=dst) (rd:=rd) (d:=d) hs hfr ho ht hsz hzl Fy hl hc.1 hc.2.1 hc.2.2 hf
      split at hr
      ·injection hr with hr; subst hr
       exact (this _ d 0).1
      ·split at hr
       ·cases hr
       ·rename_i hnk
        injection hr with hr;subst hr
        exact (this _ d _).2 hnk
    ·cases hp
   ·cases hp
  ·cases hp
 |insert t m k v=>rw[ho] at hp;cases hp
 | load t x =>
  rw[ho] at hp
  simp[Fk] at hp
  split at hp
  ·rename_i sz agg x' hsz AE hx
   split at hp
   ·rename_i h1
    cases hp
    obtain⟨cs,hcs,hr⟩:=aV hr
    obtain⟨v,hv,rfl⟩:=aJ hr
    exact .quiet hs (xD hs ho hsz AE h1 hx hcs hv)
   ·cases hp
  ·cases hp
 | store t x v =>
  rw[ho] at hp
  simp[Fk] at hp
  split at hp
  ·rename_i sz x' v' hsz hx hv
   cases hp
   obtain⟨e,he,rfl⟩:=aJ hr
   exact Ud hs ho hsz hx hv he
  ·cases hp
 |ready g=>rw[ho] at hp;cases hp
 |waits g=>rw[ho] at hp;cases hp
 | nilCheck x =>
  rw[ho] at hp
  obtain⟨x',hx,rfl⟩:=aJ hp
  simp[cG.run] at hr
  split at hr
  ·rename_i lv sl aq i off hq
   rw[bU hr]
   exact .quiet hs (tP hs ho hx hq (.inl ⟨_,_,_,_,_,rfl⟩))
  ·rename_i e off hq
   rw[bU hr]
   exact .quiet hs (tP hs ho hx hq (.inr (.inl ⟨_,_,rfl⟩)))
  ·rename_i f cs hq
   rw[bU hr]
   exact .quiet hs (tP hs ho hx hq (.inr (.inr ⟨_,_,rfl⟩)))
  ·cases hr
 | binOp op t x y u =>
  rw[ho] at hp
  simp[Fk] at hp
  split at hp
  ·rename_i x' y' hx hy
   have plain:∀ {aop:cG},aop=.bin op x' y'→aop.run call sh s row d aR=some r→dK P X s a o dst aR r:=by
    rintro aop rfl hr
    obtain⟨v,hv,hr⟩:=aV hr
    rw[bU hr]
    exact .quiet hs (aeO hs ho hx hy hv)
   have cmp : ∀ (neg : Bool), op = (if neg then .neq else .eql) → PC P op neg t x' y' = some aop → dK P X s a o dst aR r := by
    intro neg hop hc
    have ho':o.op=.binOp (if neg then .neq else .eql) t x y u:=by rw[ho,hop]
    unfold PC at hc
    split at hc
    ·rename_i hu
     cases hc
     simp[cG.run] at hr
     split at hr
     ·rename_i p q hp hq
      rw[bU hr]
      exact .quiet hs (aeP hs ho' hu hx hy hp hq)
     ·cases hr
    ·simp_all
    ·simp_all
    ·cases hc
     simp[cG.run] at hr
    ·rename_i ms hu
     split at hc
     ·cases hc
      simp[cG.run] at hr
      split at hr
      ·rename_i hq
       rw[bU hr]
       exact .quiet hs ((J1 hs ho' hu hx hy).1 hq)
      ·rename_i hq
       rw[bU hr]
       exact .quiet hs ((J1 hs ho' hu hx hy).2 hq)
      ·cases hr
     ·cases hc
    ·rename_i fs hu
     split at hc
     ·cases hc
     ·rename_i hg
      split at hc
      ·rename_i l sz hl hsz
       cases hc
       simp[cG.run] at hr
       split at hr
       ·rename_i xs ys hxs hys
        split at hr
        ·cases hr
        ·rename_i hlen
         obtain⟨h3,h4⟩:=sT.1 hlen
         obtain⟨b,hb,hr⟩:=aV hr
         rw[bU hr]
         exact .quiet hs (T6 hs ho' hu (by simpa using hg) hl hsz hx hy hxs hys (Classical.byContradiction h3) (Classical.byContradiction h4) hb)
       ·cases hr
      ·cases hc
    ·cases hc
   split at hp
   ·exact cmp false rfl hp
   ·exact cmp true rfl hp
   ·simp_all
  ·cases hp
 |unOp op t x=>
  rw[ho] at hp
  obtain⟨x',hx,rfl⟩:=aJ hp
  obtain⟨v,hv,hr⟩:=aV hr
  rw[bU hr]
  exact .quiet hs (aj6 hs ho hx hv)
 | convert src ds x =>
  rw[ho] at hp
  simp[Fk] at hp
  split at hp
  ·rename_i dsc k hsrc hds
   obtain⟨x',hx,rfl⟩:=aJ hp
   obtain⟨n,hn,hr⟩:=aV hr
   rw[bU hr]
   exact .quiet hs (aaC hs ho hds (by rw[hsrc];rfl) hx hn)
  ·rename_i e hsrc hds
   split at hp
   ·rename_i he8
    obtain⟨x',hx,rfl⟩:=aJ hp
    obtain⟨els,hel,hr⟩:=aV hr
    obtain⟨l,hl,hr⟩:=aJ hr
    subst hr
    exact .quiet hs (ae5 hs ho hsrc he8 hds hx hel hl)
   ·cases hp
  ·rename_i e hsrc hds
   split at hp
   ·rename_i he8
    obtain⟨x',hx,rfl⟩:=aJ hp
    simp[cG.run] at hr
    split at hr
    ·rename_i b hb
     rw[bU hr]
     exact ae6 hs hfr ho hsrc hds he8 hx hb
    ·cases hr
   ·cases hp
  ·cases hp
 |sliceToArrayPointer t x=>rw[ho] at hp;cases hp
 |makeInterface t x=>
  rw[ho] at hp
  cases hp
  simp[cG.run] at hr
 | makeFunc fn first cap =>
  rw[ho] at hp
  simp only[Fk] at hp
  split at hp
  ·split at hp
   ·rename_i h0
    obtain⟨cap',hcap,rfl⟩:=aJ hp
    simp at h0
    subst h0
    simp only[cG.run] at hr
    split at hr
    ·rename_i hall
     rw[bU hr]
     exact .quiet hs (AG hs ho hcap hall)
    ·cases hr
   ·cases hp
  ·cases hp
 | makeMap t x =>
  cases x with
  |some _=>rw[ho] at hp;cases hp
  | none =>
   rw[ho] at hp
   simp[Fk] at hp
   split at hp
   ·split at hp
    ·cases hp
     cases hr
     exact Up hs hfr ho
    ·cases hp
   ·cases hp
 |makeChan t x=>rw[ho] at hp;cases hp
 | makeSlice t l c =>
  rw[ho] at hp
  simp[Fk] at hp
  split at hp
  ·rename_i e ht
   split at hp
   ·rename_i i z l' c' hi hz hl hc
    split at hp
    ·rename_i h0
     cases hp
     obtain⟨zl,hzl,Fy⟩:=aV hz
     simp[cG.run] at hr
     split at hr
     ·rename_i ln cn hln hcn
      split at hr
      ·rename_i Gu
       cases hr
       exact Il hs hfr ho ht hi hzl Fy Gu.2.2.2 h0 hl hc hln hcn Gu.1 Gu.2.1 Gu.2.2.1
      ·cases hr
     ·cases hr
    ·cases hp
   ·cases hp
  ·cases hp
 | slice t x lo hi mx =>
  rw[ho] at hp
  simp[Fk] at hp
  split at hp
  ·rename_i e ht
   split at hp
   ·rename_i sz x' lo' hi' Fm hsz hx hlo hhi T8
    split at hp
    ·cases hp
    ·rename_i h0
     cases hp
     have c4:Fm.isSome=true→hi'.isSome=true:=by
      intro h;cases hi' with
      |some _=>rfl
      |none=>exact absurd (.inr ⟨h,rfl⟩) h0
     simp[cG.run] at hr
     split at hr
     ·rename_i l h k bl bh bk
      split at hr
      ·rename_i hq
       rw[al,al] at hq
       obtain⟨E,hE,hr⟩:=aJ hr
       subst hr
       exact Rt hs hfr ho ht hsz hx hlo hhi T8 bl bh bk hq.2.1 hE
      ·obtain ⟨v, hv, hr⟩ := aV hr
       rw[bU hr]
       exact .quiet hs (T9 hs ho ht hsz hx hlo hhi T8 bl bh bk c4 hv)
     ·cases hr
   ·cases hp
  ·rename_i n e ht
   split at hp
   ·rename_i sz x' hsz hx
    split at hp
    ·cases hp
    ·rename_i h0
     cases hp
     simp[cG.run] at hr
     split at hr
     ·rename_i lv sl aq i off hq
      split at hr
      ·rename_i hi0
       have hi0:=beq_true.1 hi0
       subst hi0
       rw[bU hr]
       exact .quiet hs (Rf hs ho ht hsz h0 hx hq)
      ·cases hr
     ·cases hr
   ·rename_i k sz x' hsz hx
    split at hp
    ·rename_i h0
     cases hp
     simp[cG.run] at hr
     split at hr
     ·rename_i lv sl aq i off hq
      split at hr
      ·rename_i hi0
       rw[al] at hi0
       have hi1:=beq_true.1 hi0.1
       subst hi1
       rw[bU hr]
       exact .quiet hs (Rg hs ho ht hsz h0 (by simpa[Nat.blt_eq] using hi0.2) hx hq)
      ·cases hr
     ·cases hr
    ·cases hp
   ·cases hp
  ·rename_i ht
   split at hp
   ·rename_i x' lo' hi' hx hlo hhi
    cases hp
    simp[cG.run] at hr
    split at hr
    ·rename_i b hq
     split at hr
     ·rename_i l h bl bh
      split at hr
      ·rename_i hc
       rw[bU hr]
       exact .quiet hs (Rh hs ho ht hx hlo hhi hq bl bh hc.1 hc.2)
      ·cases hr
     ·cases hr
    ·cases hr
   ·cases hp
  ·cases hp
 | fieldAddr t x f =>
  rw[ho] at hp
  simp[Fk] at hp
  split at hp
  ·rename_i fs ht
   split at hp
   ·rename_i fl hfl
    split at hp
    ·rename_i sz x' hsz hx
     split at hp
     ·cases hp
     ·rename_i h0
      cases hp
      simp[cG.run] at hr
      split at hr
      ·rename_i lv sl aq i off hq
       rw[bU hr]
       exact .quiet hs (xE hs ho ht hfl hsz h0 hx (.inl ⟨_,_,_,_,_,hq,rfl⟩))
      ·rename_i e off hq
       rw[bU hr]
       exact .quiet hs (xE hs ho ht hfl hsz h0 hx (.inr ⟨_,_,hq,rfl⟩))
      ·cases hr
    ·cases hp
   ·cases hp
  ·cases hp
 | field t x f =>
  rw[ho] at hp
  simp[Fk] at hp
  split at hp
  ·rename_i fs ht
   split at hp
   ·rename_i fl hfl
    split at hp
    ·rename_i sz agg x' hsz AE hx
     split at hp
     ·rename_i h1
      cases hp
      simp[cG.run] at hr
      split at hr
      ·rename_i cs hq
       split at hr
       ·rename_i hle
        obtain⟨v,hv,hr⟩:=aV hr
        rw[bU hr]
        exact .quiet hs (T7 hs ho ht hfl hsz AE h1 hx hq hle hv)
       ·cases hr
      ·cases hr
     ·cases hp
    ·cases hp
   ·cases hp
  ·cases hp
 | indexAddr t x i =>
  rw[ho] at hp
  simp[Fk] at hp
  split at hp
  ·rename_i e ht
   split at hp
   ·rename_i sz x' i' hsz hx hi
    split at hp
    ·cases hp
    ·cases hp
     obtain⟨n,hn,hr'⟩:=aV hr
     clear hr;have hr:=hr';split at hr
     ·rename_i els hq
      split at hr
      ·rename_i el hel
       split at hr
       ·rename_i hlen
        rw[bU hr]
        exact .quiet hs (oF hs ho ht hsz hx hi hn (.inl ⟨els,el,.inl hq,hel,hlen,rfl⟩))
       ·cases hr
      ·cases hr
     ·rename_i els ow hq
      split at hr
      ·rename_i el hel
       split at hr
       ·rename_i hlen
        rw[bU hr]
        exact .quiet hs (oF hs ho ht hsz hx hi hn (.inl ⟨els,el,.inr ⟨_,hq⟩,hel,hlen,rfl⟩))
       ·cases hr
      ·cases hr
     ·rename_i lv sl aq off ln sz' hq
      split at hr
      ·rename_i hc
       obtain⟨hc1,rfl⟩:=hc
       rw[bU hr]
       exact .quiet hs (oF hs ho ht hsz hx hi hn (.inr (.inl ⟨_,_,_,_,_,hq,hc1,rfl⟩)))
      ·cases hr
     ·rename_i lv sl aq off ln sz' hq
      split at hr
      ·rename_i hc
       obtain⟨hc1,rfl⟩:=hc
       rw[bU hr]
       exact .quiet hs (oF hs ho ht hsz hx hi hn (.inr (.inr ⟨_,_,_,_,_,hq,hc1,rfl⟩)))
      ·cases hr
     ·cases hr
   ·cases hp
  ·rename_i n e ht
   split at hp
   ·rename_i sz x' i' hsz hx hi
    cases hp
    obtain⟨k,hk,hr⟩:=aV hr
    split at hr
    ·rename_i hkn
     split at hr
     ·rename_i lv sl aq j off hq
      rw[bU hr]
      exact .quiet hs (AF hs ho ht hsz hx hi hk hkn (.inl ⟨_,_,_,_,_,hq,rfl⟩))
     ·rename_i e off hq
      rw[bU hr]
      exact .quiet hs (AF hs ho ht hsz hx hi hk hkn (.inr ⟨_,_,hq,rfl⟩))
     ·cases hr
    ·cases hr
   ·cases hp
  ·cases hp
 | index t x i =>
  rw[ho] at hp
  simp[Fk] at hp
  split at hp
  ·rename_i n e ht
   split at hp
   ·rename_i sz agg x' i' hsz AE hx hi
    split at hp
    ·rename_i h1
     cases hp
     obtain⟨k,hk,hr⟩:=aV hr
     split at hr
     ·rename_i cs hq
      split at hr
      ·rename_i hc
       obtain⟨v,hv,hr⟩:=aV hr
       rw[bU hr]
       exact .quiet hs (Rc hs ho ht hsz AE h1 hx hi hq hk hc.1 hc.2 hv)
      ·cases hr
     ·cases hr
    ·cases hp
   ·cases hp
  ·rename_i ht
   split at hp
   ·rename_i x' i' hx hi
    cases hp
    obtain⟨k,hk,hr⟩:=aV hr
    split at hr
    ·rename_i b hq
     split at hr
     ·rename_i c hc
      rw[bU hr]
      exact .quiet hs (Re hs ho ht hx hi hq hk hc)
     ·cases hr
    ·cases hr
   ·cases hp
  ·cases hp
 | lookup t x k b =>
  cases b with
  |true=>rw[ho] at hp;cases hp
  | false =>
   rw[ho] at hp
   simp[Fk] at hp
   split at hp
   ·rename_i kt et ht
    split at hp
    ·rename_i m' x' hk hz hm hx
     cases hp
     simp[cG.run] at hr
     split at hr
     ·rename_i lv sl aq b h1 h2
      obtain⟨ks,h3,hr⟩:=aJ hr
      subst hr
      exact .quiet hs (aaS hs ho ht hk hz hm hx h1 h2 h3)
     ·cases hr
    ·cases hp
   ·cases hp
 | mapUpdate t m k v =>
  rw[ho] at hp
  simp[Fk] at hp
  split at hp
  ·rename_i kt et ht
   split at hp
   ·rename_i m' x' hk hm hx
    cases hp
    simp[cG.run] at hr
    split at hr
    ·rename_i lv sl aq b h1 h2
     obtain⟨ks,h3,hr⟩:=aJ hr
     subst hr
     exact aaT hs ho ht hk hm hx h1 h2 h3
    ·cases hr
   ·cases hp
  ·cases hp
 |mapEntry t m k=>rw[ho] at hp;cases hp
 |entryStore t m k v=>rw[ho] at hp;cases hp
 |range t x=>rw[ho] at hp;cases hp
 |next x b=>rw[ho] at hp;cases hp
 |entry x=>rw[ho] at hp;cases hp
 |typeAssert x t u b=>rw[ho] at hp;cases hp
 | extract x i =>
  rw[ho] at hp
  obtain⟨x',hx,rfl⟩:=aJ hp
  simp[cG.run] at hr
  split at hr
  ·rename_i vs hq
   obtain⟨v,hv,hr⟩:=aV hr
   rw[bU hr]
   exact .quiet hs (Nu hs ho hx hq hv)
  ·cases hr
 |call c=>
  rw[ho] at hp
  exact Ut cH iy hs hfr xR hdom ho hp hr
 |go c=>rw[ho] at hp;cases hp
 |defer c=>rw[ho] at hp;cases hp
 |panic x=>
  rw[ho] at hp
  cases hp
  simp[cG.run] at hr
 |send c x=>rw[ho] at hp;cases hp
 |recv t c b=>rw[ho] at hp;cases hp
 |select cs b=>rw[ho] at hp;cases hp
end
end Go.bL
namespace Go.bL
open Go
def kC(s:St)(k:Nat×Nat×Nat):Option bu×Option Unit:=if k.1=0then(aG s.mem k.2.1 k.2.2,none)else if k.1=1/\k.2.2=0then(none,s.aI.get? k.2.1)else(none,none)
def B9{s s':St}{lv sl:Nat}(h:kC s' (bX lv sl)=kC s (bX lv sl)):aG s'.mem lv sl=aG s.mem lv sl:=by simpa[kC,bX]using h
def aaV{s s':St}{v:Nat}(h:kC s' (kq v)=kC s (kq v)):s'.aI.get? v=s.aI.get? v:=by simpa[kC,kq]using h
def cM(m m':List (Tr bu))(ks:List (Nat×Nat×Nat)):Prop:=∀lv sl,bX lv sl∈ks->aG m' lv sl=aG m lv sl
section
variable{m m':List (Tr bu)}
def nP{lv sl aq:Nat}(h:aG m' lv sl=aG m lv sl):rowAt m' lv sl aq=rowAt m lv sl aq:=by unfold rowAt;rw[h]
def nQ{ks:List (Nat×Nat)}(h:cM m m' (jz ks)):eY m' ks=eY m ks:=List.map_congr_left λk hk=>by rw[h k.1 k.2 (i5.2 ⟨k,hk,rfl⟩)]
def nR{lv sl aq:Nat}(h:aG m' lv sl=aG m lv sl):j3 m' lv sl aq=j3 m lv sl aq:=by unfold j3;rw[h]
def AN{lv sl aq:Nat}(h:aG m' lv sl=aG m lv sl):setAt m' lv sl aq=setAt m lv sl aq:=by unfold setAt;rw[h]
def NJ{row t t' d:Nat}:(we row t d).2=(we row t' d).2:=by grind[we]
def iF{x:AV}(h:cM m m' (cX x)):dJ m' x=dJ m x:=by cases x with|ref lv sl aq off n sz=>simp[dJ];grind[cX,cM,qQ]|d x=>cases x<;>rfl|_=>rfl
def jY{x:AV}(h:cM m m' (cX x)):hD m' x=hD m x:=by
 unfold hD;split;.rfl
 .exact iF h
def Ru{x:AV}(h:cM m m' (cX x)):BS m' x=BS m x:=by cases x with|ref lv sl aq off n sz=>simp[BS];rw[iF h]|own els o=>cases o<;>rfl|_=>rfl
def Uu{x:AV}{y:D}{ks:List (Nat×Nat)}(h:BS m x=some (y,ks))(hs:cM m m' (jz ks)):BS m' x=some (y,ks):=by cases x with
 |ref lv sl aq off n sz=>simp only[BS]at h⊢;cases he:dJ m (.ref lv sl aq off n sz)with|none=>grind|some els=>rw[he]at h;cases h;rw[iF (m:=m) (λcC cW hk=>hs cC cW (by simpa[cX,jz]using hk)),he];rfl
 |own els o=>cases o<;>exact h|_=>exact h
def zw:∀{l:List AV}{ys:List D}{ks:List (Nat×Nat)},Fu m l=some (ys,ks)->cM m m' (jz ks)->Fu m' l=some (ys,ks)
 |[],_,_,h,_=>h|x::r,ys,ks,h,hs=>by
  simp[Fu]at h⊢;split at h;.rename_i y k ys' ks' h1 h2;cases h;rw[Uu h1 λlv sl hk=>hs lv sl (by simp only[jz,gc,bm]at hk⊢;exact .inl hk),zw h2 λlv sl hk=>hs lv sl (by simp only[jz,gc,bm]at hk⊢;exact .inr hk)]
  grind
def NK{x:AV}{ys:List D}{ks:List (Nat×Nat)}(h:FQ m x=some (ys,ks))(hs:cM m m' (jz ks)):FQ m' x=some (ys,ks):=by unfold FQ at h⊢;cases hc:cellsOf x with|none=>grind|some cs=>rw[hc]at h;exact zw h hs
def wC{s:Tr AV}{sz:Nat}:∀{ps:List (Nat×cx)}{els els':List (List D)}{ks:List (Nat×Nat)},qT m s sz els ps=some (els',ks)->cM m m' (jz ks)->qT m' s sz els ps=some (els',ks)
 |[],_,_,_,h,_=>h|(i,x)::r,els,els',ks,h,hs=>by
  simp[qT]at h⊢;split at h
  .rename_i e ks1 he;split at h
   .rename_i hc;split at h;.rename_i zo ks2 hf;cases h;rw[NK he λlv sl hk=>hs lv sl (by simp[jz,gc,bm]at hk⊢;exact .inl hk)];simp[hc,and_self,jn];rw[wC hf λlv sl hk=>hs lv sl (by simp[jz,gc,bm]at hk⊢;exact .inr hk)]
    grind
   grind
  grind
def Kr{sz:Nat}{x:AV}(h:cM m m' (cX x)):tc m' sz x=tc m sz x:=by cases x with|ptr lv sl aq i off=>grind[cX,cM,tc]|_=>rfl
def IA{sz:Nat}{p v:AV}{e:fy}(h:rV m sz p v=some e)(hs:cM m m' e.rd):rV m' sz p v=some e:=by
 unfold rV at h⊢;split at h
 .rename_i lv sl aq i off new hc;have key:bX lv sl∈e.rd->aG m' lv sl=aG m lv sl:=λhk=>hs lv sl hk;split at h
  .split at h;.grind
   .rename_i v' els hg;split at h
    .rename_i h1;split at h
     .rename_i e' ds ks hi hd;split at h;.cases h;rw[zw hd λlv sl hk=>hs lv sl (db _ hk)];have hfr:eY m' ks=eY m ks:=nQ (m:=m) λlv sl hk=>hs lv sl (db _ hk)<;>grind
      grind
     grind
    grind
   .cases h
   .cases h
   grind
  grind
 omega
def pE{x:AV}(h:cM m m' (cX x)):dD m' x=dD m x:=by cases x with|ref lv sl aq off n sz=>simp[dD];rw[iF h]|own els o=>cases o<;>rfl|fK f c=>cases c<;>rfl|_=>rfl
def ud{x:AV}(h:cM m m' (cX x)):fB m' x=fB m x:=by
 unfold fB;split;.rfl
 .rfl
 .rw[Ru h]
def oe:∀{l:List AV},cM m m' (l.flatMap cX)->gn m' l=gn m l|[],_=>rfl|x::r,h=>by simp[gn];rw[ud λlv sl hk=>h lv sl (by simp[hk]),oe λlv sl hk=>h lv sl (by simp only[d8,bm];exact .inr hk)]
def NL{x:AV}(h:cM m m' (fL x)):zh m' x=zh m x:=by cases x with|agg cs=>simp[zh];rw[oe h]|_=>simp only[zh];rw[pE h]
def AO:∀{l:List AV},cM m m' (l.flatMap fL)->sX m' l=sX m l|[],_=>rfl|x::r,h=>by simp[sX];rw[NL λlv sl hk=>h lv sl (by simp[hk]),AO λlv sl hk=>h lv sl (by simp only[d8,bm];exact .inr hk)]
end
section
variable{m:List (Tr bu)}
def Rw{x:AV}{y:D}{ks:List (Nat×Nat)}(h:BS m x=some (y,ks)):∀p∈ks,bX p.1 p.2∈cX x:=by cases x with
 |ref lv sl aq off n sz=>obtain⟨els,_,h⟩:=aJ h<;>grind[BS,bX,cX]|d x=>cases h;simp|own els o=>cases o<;>simp only[BS]at h<;>first|(injection h with h;injection h with _ h2;subst h2;simp)|cases h
 |_=>cases h
def ue{x y:AV}{ks:List (Nat×Nat)}(h:fB m x=some (y,ks)):∀p∈ks,bX p.1 p.2∈cX x:=by
 unfold fB at h;split at h;.grind
 .grind
 .obtain⟨⟨z,k⟩,h1,h⟩:=aJ h;cases h;exact Rw h1
def og:∀{xs ys:List AV}{ks:List (Nat×Nat)},gn m xs=some (ys,ks)->∀p∈ks,bX p.1 p.2∈xs.flatMap cX
 |[],_,_,h=>by cases h;simp|x::r,_,_,h=>by
  simp[gn]at h;split at h
  .rename_i h1 h2;cases h;intro p hp;rw[d8,bm];rcases bm.1 hp with hp|hp;.exact .inl (ue h1 p hp)
   .exact .inr (og h2 p hp)
  grind
def NM{x y:AV}{ks:List (Nat×Nat)}(h:zh m x=some (y,ks)):∀p∈ks,bX p.1 p.2∈fL x:=by
 have one:(dD m x).map (λy=>(y,([]:List (Nat×Nat))))=some (y,ks)->∀p∈ks,bX p.1 p.2∈fL x:=by simp_all
 cases x with|agg cs=>obtain⟨⟨ys,k⟩,h1,h⟩:=aJ h;cases h;exact og h1|_=>exact one h
def AP:∀{xs ys:List AV}{ks:List (Nat×Nat)},sX m xs=some (ys,ks)->∀p∈ks,bX p.1 p.2∈xs.flatMap fL
 |[],_,_,h=>by cases h;simp|x::r,_,_,h=>by
  simp[sX]at h;split at h
  .rename_i h1 h2;cases h;intro p hp;rw[d8,bm];rcases bm.1 hp with hp|hp;.exact .inl (NM h1 p hp)
   .exact .inr (AP h2 p hp)
  grind
end
def C5(s s':St):iu->Prop|.bZ e=>(xx (.bZ e)=true->s'.mem.length=s.mem.length)/\∀k∈e.rd,kC s' k=kC s k|.all _ _ _ _ kp _=>j8 s'.mem kp=j8 s.mem kp/\s'.aI=s.aI/\s'.nv=s.nv
def C5.mem{s s':St}{e:fy}(h:C5 s s' (.bZ e)):cM s.mem s'.mem e.rd:=λ_ _ hk=>B9 (h.2 _ hk)
section
variable{call:Call}{sh:Nat->Bool}{s s':St}{row d aR:Nat}
def vl{l:List cx}(h:∀x∈l,x.ev s'.slots=x.ev s.slots):AB s'.slots l=AB s.slots l:=List.map_congr_left h
def lQ{x:Option cx}{n:Nat}(h:∀y∈x.toList,y.ev s'.slots=y.ev s.slots):gr x s'.slots n=gr x s.slots n:=by cases x with|none=>rfl|some y=>grind[cx.ev,gr]
def uf:∀{ps:List (Nat×Nat×cx)}{cs:List AV},(∀x∈ps.map (·.2.2),x.ev s'.slots=x.ev s.slots)->qS s'.slots cs ps=qS s.slots cs ps
 |[],_,_=>rfl|(off,sz,x)::r,cs,h=>by
  simp[qS];rw[h x (by simp)];split
  .split;.exact uf λy hy=>h y (by simp only[f2,dl];exact .inr hy)
   .rfl
  .rfl
def AQ{m:List (Tr bu)}{sz:Nat}:∀{ps:List (Nat×cx)}{els:List (List D)},(∀x∈ps.map (·.2),x.ev s'.slots=x.ev s.slots)->qT m s'.slots sz els ps=qT m s.slots sz els ps
 |[],_,_=>rfl|(i,x)::r,els,h=>by
  simp[qT];rw[h x (by simp)];split
  .split;.rw[AQ λy hy=>h y (by simp only[f2,dl];exact .inr hy)]
   .rfl
  .rfl
def lR{v:AV}{u:Nat×Nat×Option bu}{us:List (Nat×Nat×Option bu)}{t:List (Nat×Bool)}{rd:List (Nat×Nat×Nat)}:xx (.bZ {val:=v,dx:=u::us,cU:=t,rd:=rd})=true:=by cases rd<;>rfl
def Rx{v:AV}{u:Nat×Nat×Option bu}{us:List (Nat×Nat×Option bu)}{t:List (Nat×Bool)}{rd:List (Nat×Nat×Nat)}:xx (.bZ {val:=v,dx:=us++[u],cU:=t,rd:=rd})=true:=by simp_all[xx]
def qH{rw:Bool}{lv cC sl sz bytes:Nat}{x y:AV}{e:fy}(h:ew s rw lv sl aR sz bytes x y=some e)(hl:xx (.bZ e)=true->cC=lv)(hk:∀k∈e.rd,kC s' k=kC s k):ew s' rw cC sl aR sz bytes x y=some e:=by
 have Iu:cM s.mem s'.mem e.rd:=λ_ _ h=>B9 (hk _ h);unfold ew at h⊢;split at h;.cases h
 .rename_i news hn;split at h
  .rename_i hall;split at h
   .split at h
    .rename_i hc;split at h;.cases h;rw[jY (m:=s.mem) Iu,hn]<;>grind
     .split at h;.cases h
      .rename_i hne;cases h;rw[jY (m:=s.mem) Iu,hn];simp only[hall,jn];rw[ba hc,bi hne,hl lR]
    grind
   .split at h;.rename_i hc;cases h;rw[jY (m:=s.mem) λlv sl hk=>Iu lv sl (db _ hk),hn];simp only[hall,jn];rw[ba (by rw[aaV (hk _ (cb ..))];exact hc)]
    grind
   .split at h
    .rename_i els hr;split at h;.cases h;rw[jY (m:=s.mem) λlv sl hk=>Iu lv sl (db _ hk)];rw[nP (Iu _ _ (cb ..)),hr]<;>grind
     grind
    grind
   grind
  grind
def xU{m m':List (Tr bu)}{sz:Nat}{y:AV}(h:cM m m' (cX y)):oa m' sz y=oa m sz y:=by cases y with|dz lv sl aq off n sz'=>simp only[oa];rw[nR (h _ _ (cb ..))]|_=>simp only[oa];rw[iF h]
def vP{lv cC sl sz bytes:Nat}{x y:AV}{e:fy}(h:kH s lv sl aR sz bytes x y=some e)(hl:xx (.bZ e)=true->cC=lv)(hk:∀k∈e.rd,kC s' k=kC s k):kH s' cC sl aR sz bytes x y=some e:=by
 have Iu:cM s.mem s'.mem e.rd:=λ_ _ h=>B9 (hk _ h);unfold kH at h⊢;split at h;.cases h
 .rename_i new hc;split at h;.cases h
  .rename_i hz;split at h
   .split at h;.rename_i hq;injection h with h;subst h;rw[xU Iu,hc];simp only[hz];rw[ba hq,hl lR]
    .cases h
   .split at h
    .rename_i cs hb;split at h;.rename_i hq;injection h with h;subst h;rw[xU λlv sl hk=>Iu lv sl (db _ hk),hc];simp only[hz];rw[nR (Iu _ _ (cb ..)),hb];simp only;rw[ba hq]
     .cases h
    .cases h
   .cases h
def C6{x:AV}{e:fy}(h:nF s aR x=some e)(hk:∀k∈e.rd,kC s' k=kC s k):nF s' aR x=some e:=by
 unfold nF at h⊢;split at h;.exact h
 .split at h
  .obtain⟨zs,hz,h⟩:=aV h;split at h;.cases h<;>simp_all[kC,bX,jt,j5,tK,rowAt]
   grind
  grind
 omega
def NN{row lv cC d:Nat}{x:AV}(hl:xx (.bZ (BT row lv d aR x))=true->cC=lv):BT row cC d aR x=BT row lv d aR x:=by unfold BT at hl⊢<;>grind[xx,BT]
def Ks{x:AV}{e:fy}(h:AD s x=some e)(hk:∀k∈e.rd,kC s' k=kC s k):AD s' x=some e:=by
 unfold AD at h⊢;split at h;.exact h
 .split at h
  .rename_i els hr;obtain⟨zs,hz,h⟩:=aV h;split at h;.cases h;rw[nP (m:=s.mem) (B9 (hk _ (cb ..))),hr]<;>omega
   grind
  grind
 omega
def NO{sz l:Nat}{hi:Option Nat}{x:AV}{e:fy}(h:JX s aR sz x l hi=some e)(hk:∀k∈e.rd,kC s' k=kC s k):JX s' aR sz x l hi=some e:=by
 unfold JX at h⊢;split at h
 .split at h
  .split at h;.cases h<;>simp_all[kC,bX,rowAt]
   grind
  grind
 omega
section
variable{cm:List (Tr bu)}{top pk lv cC sl aq:Nat}
def vQ{k:Nat}{x y:AV}(h:bG cm top pk k lv sl aq x=some (y,[])):bG cm top pk k cC sl aq x=some (y,[]):=by cases x with
 |ref a b c off len sz=>
  simp[bG]at h⊢;split at h;.exact h
  .split at h<;>grind|own els o=>cases o with|full=>simp[bG]at h⊢<;>grind|cU v tz=>exact h|_=>exact h
 |fK f c=>cases c<;>exact h|_=>exact h
def ug:∀{l ys:List AV}{k:Nat},dN cm top pk lv sl aq k l=some (ys,[])->dN cm top pk cC sl aq k l=some (ys,[])
 |[],_,_,h=>h|x::r,ys,k,h=>by
  simp[dN]at h⊢;split at h;.rename_i y u ys' us h1 h2;simp at h;obtain⟨rfl,rfl,rfl⟩:=h;rw[vQ h1,ug h2];rfl
  grind
def C7{k:Nat}{x y:AV}(h:lH cm top pk lv sl aq k x=some (y,[])):lH cm top pk cC sl aq k x=some (y,[]):=by cases x with
 |agg cs=>simp only[lH]at h⊢;cases hc:dN cm top pk lv sl aq k cs with|none=>grind|some p=>obtain⟨a,b⟩:=p;rw[hc]at h;cases h;rw[ug hc];rfl
 |_=>simp only[lH]at h⊢;exact vQ h
def xV:∀{l ys:List AV}{k:Nat},fX cm top pk lv sl aq k l=some (ys,[])->fX cm top pk cC sl aq k l=some (ys,[])
 |[],_,_,h=>h|x::r,ys,k,h=>by
  simp[fX]at h⊢;split at h;.rename_i y u ys' us h1 h2;simp at h;obtain⟨rfl,rfl,rfl⟩:=h;rw[C7 h1,xV h2];rfl
  grind
def NP{x y:AV}(h:gY cm top pk lv sl aq x=some (y,[])):gY cm top pk cC sl aq x=some (y,[]):=by cases x with
 |fu cs=>simp only[gY]at h⊢;cases hc:fX cm top pk lv sl aq 1 cs with|none=>grind|some p=>obtain⟨a,b⟩:=p;rw[hc]at h;cases h;rw[xV hc];rfl
 |_=>simp only[gY]at h⊢;exact C7 h
end
section
variable{m m':List (Tr bu)}
def AR{x:AV}(h:cM m m' (cX x)):jj m' x=jj m x:=by cases x with|ref lv sl aq off n sz=>simp[jj];rw[iF h]|_=>rfl
def oI{f g:AV->Option D}:∀{l:List AV},(∀x∈l,g x=f x)->lI g l=lI f l|[],_=>rfl|x::r,h=>by simp only[lI];rw[h x (by simp),oI λy hy=>h y (db _ hy)]
def nq{f g:AV->List (Nat×Nat×Nat)}:∀{l:List AV},(∀x∈l,g x=f x)->l.flatMap g=l.flatMap f|[],_=>rfl|x::r,h=>by simp only[d8];rw[h x (by simp),nq λy hy=>h y (db _ hy)]
def iG:∀(k:Nat){x:AV},cM m m' (qD m k x)->lJ m' k x=lJ m k x/\qD m' k x=qD m k x|0,x,h=>⟨AR h,rfl⟩|k+1,x,h=>by cases x with
 |dz lv sl aq off n sz=>have hb:=nR (aq:=aq) (h lv sl (by simp[qD]));cases hq:j3 m lv sl aq with|none=>exact⟨by simp only[lJ,hb,hq],by simp only[qD,hb,hq]⟩|some cs=>
  have hc:∀x∈cs,cM m m' (qD m k x):=λx hx cC cW hk=>h cC cW (by simp only[qD,hq,dl];exact .inr (na.2 ⟨x,hx,hk⟩));refine⟨?_,?_⟩;.simp only[lJ,hb,hq];rw[oI λx hx=>(iG k (hc x (po (ls hx)))).1]
  .simp only[qD,hb,hq];rw[nq λx hx=>(iG k (hc x hx)).2]
 |_=>simp only[lJ,qD]at h⊢;exact⟨AR h,trivial⟩
def NQ{x:AV}(h:cM m m' (nE m x)):ku m' x=ku m x/\nE m' x=nE m x:=by cases x with
 |agg cs=>have hc:∀x∈cs,cM m m' (qD m 2 x):=λx hx cC cW hk=>h cC cW (by simp only[nE];exact na.2 ⟨x,hx,hk⟩);exact⟨by simp only[ku];rw[oI λx hx=>(iG 2 (hc x hx)).1],by simp only[nE];rw[nq λx hx=>(iG 2 (hc x hx)).2]⟩|fK f c=>cases c<;>exact⟨rfl,rfl⟩|dz lv sl aq off n sz=>obtain⟨h1,h2⟩:=iG 2 (x:=.dz lv sl aq off n sz) h;exact⟨by simp only[ku];rw[h1],by simp only[nE];rw[h2]⟩|ptr lv sl aq i off=>have hb:=nR (aq:=aq) (h lv sl (by simp[nE]));cases hq:j3 m lv sl aq with|none=>exact⟨by simp only[ku,hb,hq],by simp only[nE,hb,hq]⟩|some cs=>
  have hc:∀x∈cs,cM m m' (qD m 2 x):=λx hx cC cW hk=>h cC cW (by simp only[nE,hq,dl];exact .inr (na.2 ⟨x,hx,hk⟩));refine⟨?_,?_⟩;.simp only[ku,hb,hq];cases Nat.beq i 0with|true=>simp only;rw[oI λx hx=>(iG 2 (hc x hx)).1]|false=>rfl
  .simp only[nE,hb,hq];rw[nq λx hx=>(iG 2 (hc x hx)).2]
 |ref lv sl aq off n sz=>obtain⟨h1,h2⟩:=iG 2 (x:=.ref lv sl aq off n sz) h;exact⟨by simp only[ku];rw[h1],by simp only[nE];rw[h2]⟩|_=>exact⟨rfl,rfl⟩
def AS:∀{l:List AV},cM m m' (l.flatMap (nE m))->xw m' l=xw m l/\l.flatMap (nE m')=l.flatMap (nE m)|[],_=>⟨rfl,rfl⟩|x::r,h=>by obtain⟨h1,h2⟩:=NQ (x:=x) λlv sl hk=>h lv sl (by simp[hk]);obtain⟨h3,h4⟩:=AS (l:=r) λlv sl hk=>h lv sl (by simp only[d8,bm];exact .inr hk)<;>grind[ku,cM,nE,xw]
end
def xW{f:Nat}{args:List AV}{r:iu}(h:lK call s f args=some r)(hn:C5 s s' r):lK call s' f args=some r:=by
 unfold lK at h;split at h;.cases h
 .split at h;.cases h
  .split at h;case h_2=>cases h
   split at h;case h_2=>cases h
   cases h;obtain⟨h1,h2⟩:=AS (m:=s.mem) (m':=s'.mem) (l:=args) hn.mem;unfold lK<;>grind
def r8{shd:Bool}{f:Nat}{args:List AV}{r:iu}{lv cC:Nat}(h:gZ call shd row s lv d aR f args=some r)(hn:C5 s s' r)(hlv:s'.mem.length=s.mem.length->cC=lv):gZ call shd row s' cC d aR f args=some r:=by
 unfold gZ at h⊢;cases shd with|false=>
  simp at h⊢;split at h;.cases h
  .rename_i aL ks hl;split at h;.cases h
   .rename_i r' cm _ _ hc;split at h;.cases h
    .rename_i v us hi;split at h;.cases h
     .rename_i u hu;cases h;have hks:cM s.mem s'.mem (jz ks):=λlv sl hk=>hn.mem lv sl (by obtain⟨p,hp,he⟩:=i5.1 hk;rw[<-he];exact AP hl p hp);rw[AO (m:=s.mem) hn.mem,hl];simp[hc,nQ hks];have hlen:eY s.mem ks++u≠[]->s'.mem.length=s.mem.length:=λhne=>hn.1 (by simp only[xx];cases hz:eY s.mem ks++u with|nil=>exact absurd hz hne|cons a b=>simp);by_cases hus:us=[];.subst hus;rw[NP hi];cases hu;rfl
      .have hlen:=hlen (by
       unfold kQ at hu;split at hu;.exact absurd rfl hus
       .injection hu with hu;subst hu;simp
       .cases hu);rw[hlv hlen,hi];simp only[hu]|true=>
  simp at h⊢;split at h;.cases h
  .split at h;.cases h
   .rename_i r' cm ts n hc;split at h;.cases h
    .rename_i v us hi;split at h;.cases h
     .rename_i u hu;injection h with h;subst h;obtain⟨h1,h2,h3⟩:=hn;have h1:s'.mem=s.mem:=h1;rw[hlv (by rw[h1]),h1,h2,h3,hc];simp only[hi,hu]
def IB{f:Nat}{args:List AV}{r:iu}(h:rU call s f args=some r)(hn:C5 s s' r):rU call s' f args=some r:=by
 unfold rU at h⊢;split at h;.cases h
 .split at h;.cases h
  .rename_i r' cm ts n hc;injection h with h;subst h;obtain⟨h1,h2,h3⟩:=hn;have h1:s'.mem=s.mem:=h1;rw[h1,h2,h3,hc]
def Kt{m m':List (Tr bu)}{kp:List (Nat×Nat)}(h:j8 m' kp=j8 m kp):m'.length=m.length:=by rw[<-ua m' kp,<-ua m kp,h]
def xX{kp kp' kr:List (Nat×Nat)}{lv cC:Nat}{f:Nat}{args:List AV}{r:iu}(h:qC call row kp kr s lv d aR f args=some r)(hn:C5 s s' r)(hlv:s'.mem.length=s.mem.length->cC=lv/\kp'=kp):qC call row kp' kr s' cC d aR f args=some r:=by
 unfold qC at h⊢;split at h;.cases h
 rename_i ha;split at h;.cases h
 rename_i r' cm ts n hc;split at h;.cases h
 rename_i v us hi;split at h;.cases h
 rename_i u hu;split at h;case h_2=>cases h
 rename_i hok;injection h with h;subst h;obtain⟨h1,h2,h3⟩:=hn;have hlen:=Kt h1;rw[(hlv hlen).1,(hlv hlen).2,h1,h2,h3,hc,hlen];simp only[hi,hu,hok]
def gA{d:Nat}(h:s'.mem.length=s.mem.length):ij s'.mem.length d=ij s.mem.length d:=by unfold ij;rw[h]
def NR{m m':List (Tr bu)}{x:AV}(h:cM m m' (fL x)):zi m' x=zi m x:=by cases x with|agg cs=>simp[zi];rw[oe h]|_=>simp only[zi];rw[ud h]
def AT{m m':List (Tr bu)}:∀{l:List AV},cM m m' (l.flatMap fL)->sY m' l=sY m l|[],_=>rfl|x::r,h=>by simp[sY];rw[NR λlv sl hk=>h lv sl (by simp[hk]),AT λlv sl hk=>h lv sl (by simp only[d8,bm];exact .inr hk)]
def NS{m:List (Tr bu)}{x y:AV}{ks:List (Nat×Nat)}(h:zi m x=some (y,ks)):∀p∈ks,bX p.1 p.2∈fL x:=by cases x with|agg cs=>obtain⟨⟨ys,k⟩,h1,h⟩:=aJ h;cases h;exact og h1|_=>simp only[zi]at h;exact ue h
def AU{m:List (Tr bu)}:∀{xs ys:List AV}{ks:List (Nat×Nat)},sY m xs=some (ys,ks)->∀p∈ks,bX p.1 p.2∈xs.flatMap fL
 |[],_,_,h=>by cases h;simp|x::r,_,_,h=>by
  simp[sY]at h;split at h
  .rename_i h1 h2;cases h;intro p hp;rw[d8,bm];rcases bm.1 hp with hp|hp;.exact .inl (NS h1 p hp)
   .exact .inr (AU h2 p hp)
  grind
def IC{f:Nat}{args:List AV}{r:iu}(h:oW call s aR f args=some r)(hn:C5 s s' r):oW call s' aR f args=some r:=by
 unfold oW at h⊢;split at h;.cases h
 .rename_i aL ks hl;split at h;.cases h
  .rename_i r' cm _ _ hc;split at h;.rename_i v hi;cases h;have hm:=hn.mem;rw[AT hm,hl];simp[hc,hi];rw[nQ (m:=s.mem) (m':=s'.mem) λlv sl hk=>hm lv sl ?_];obtain⟨p,hp,he⟩:=i5.1 hk;exact he▸AU hl p hp
   grind
def xY{m m':List (Tr bu)}:∀{l:List AV},cM m m' (l.flatMap cX)->qB m' l=qB m l|[],_=>rfl|x::r,h=>by simp[qB];rw[pE λlv sl hk=>h lv sl (by simp[hk]),xY λlv sl hk=>h lv sl (by simp only[d8,bm];exact .inr hk)]
def Ku{m m':List (Tr bu)}{x:AV}(h:cM m m' (fL x)):sZ m' x=sZ m x:=by cases x with|agg cs=>simp[sZ];rw[xY h]|_=>simp only[sZ];rw[pE h]
def xZ{m m':List (Tr bu)}:∀{l:List AV},cM m m' (l.flatMap fL)->rT m' l=rT m l|[],_=>rfl|x::r,h=>by simp[rT];rw[Ku λlv sl hk=>h lv sl (by simp[hk]),xZ λlv sl hk=>h lv sl (by simp only[d8,bm];exact .inr hk)]
def ID{f:Nat}{args:List AV}{r:iu}(h:oX call s aR f args=some r)(hn:C5 s s' r):oX call s' aR f args=some r:=by
 unfold oX at h⊢;split at h;.cases h
 .rename_i aL hl;split at h;.cases h
  .split at h;.cases h;have hm:=hn.mem;rw[xZ hm,hl]<;>grind
   grind
def Ry{op:cG}{r:iu}(h:op.run call sh s row d aR=some r)(hs:∀x∈op.jy,x.ev s'.slots=x.ev s.slots)(hn:C5 s s' r):op.run call sh s' row d aR=some r:=by cases op with
 |alloc z=>simp only[cG.run]at h⊢;injection h with h;subst h;rw[gA (hn.1 lR)]|box x=>
  simp only[cG.jy,dl,dE,km,lO]at hs;simp only[cG.run,hs]at h⊢;split at h;.obtain⟨cs,hcs,rfl⟩:=aJ h;rw[hcs,hn.1 lR];rfl
  split at h;.exact h
  obtain⟨cs,hcs,rfl⟩:=aJ h;rw[hcs,gA (hn.1 lR)];rfl|makeSlice sz b z x y=>
  simp only[cG.jy,dl,dE,km,j1,lO]at hs;simp only[cG.run,hs.1,hs.2]at h⊢;split at h
  .split at h;.rename_i hc;injection h with h;subst h;rw[ba hc,gA (hn.1 lR)]
   .cases h
  .cases h|build z ps=>simp only[cG.run]at h⊢;rw[uf hs];exact h|buildSlice sz n z ps=>simp only[cG.run]at h⊢;cases qF:Nat.beq row 2with
  |true=>
   rw[qF]at h;simp only at h⊢;split at h;.cases h
   .cases hf:qS s.slots ((List.replicate n z).flatten.map .d) (ps.map λp=>(p.1*sz,sz,p.2))with|none=>rw[hf]at h;cases h|some cs=>rw[hf]at h;simp only[cf,fw]at h;subst h;rw[uf (s:=s) (λx hx=>hs x (by simp only[py]at hx;exact hx)),hf,gA (hn.1 lR)];rfl
  |false=>
  rw[qF]at h;simp only at h⊢;rw[AQ hs];split at h;.cases h
  .rename_i els ks hf;split at h;.injection h with h;subst h;rw[wC hf hn.mem];simp only[nQ (m:=s.mem) hn.mem]
   .split at h;.cases h
    .rename_i hk;injection h with h;subst h;rw[wC hf hn.mem];simp only[nQ (m:=s.mem) hn.mem];rw[gA (hn.1 Rx),bi hk]
 |load sz agg x=>simp only[cG.jy,dl,dE,km,lO]at hs;simp only[cG.run,hs]at h⊢;obtain⟨cs,hcs,h⟩:=aV h;obtain⟨v,hv,rfl⟩:=aJ h;rw[Kr (m:=s.mem) hn.mem,hcs];simp only[ae,hv,cf]|store sz x y=>simp only[cG.jy,dl,dE,km,j1,lO]at hs;simp only[cG.run,hs.1,hs.2]at h⊢;obtain⟨e,he,rfl⟩:=aJ h;rw[IA he hn.mem];rfl|append sz b x y=>
  simp only[cG.jy,dl,dE,km,j1,lO]at hs;simp only[cG.run,hs.1,hs.2]at h⊢;split at h;.obtain⟨e,he,rfl⟩:=aJ h;rw[vP he (λhl=>by rw[gA (hn.1 hl)]) hn.2];rfl
  obtain⟨e,he,rfl⟩:=aJ h;rw[NJ (t':=ij s.mem.length d),qH he (λhl=>by rw[gA (hn.1 hl)]) hn.2];rfl|mkSet=>simp only[cG.run]at h⊢;injection h with h;subst h;rw[gA (hn.1 lR)]|b2s x=>simp only[cG.jy,dl,dE,km,lO]at hs;simp only[cG.run,hs]at h⊢;obtain⟨els,hel,h⟩:=aV h;obtain⟨l,hl,rfl⟩:=aJ h;rw[iF (m:=s.mem) hn.mem,hel];simp only[ae,hl,cf]|JU x y=>
  simp only[cG.jy,dl,dE,km,j1,lO]at hs;simp only[cG.run,hs.1,hs.2]at h⊢;split at h;.rename_i lv sl aq b h1 h2;obtain⟨ks,hk,rfl⟩:=aJ h;rw[AN (hn.mem _ _ (cb ..)),hk];rfl
  .cases h|JV x y=>
  simp only[cG.jy,dl,dE,km,j1,lO]at hs;simp only[cG.run,hs.1,hs.2]at h⊢;split at h;.rename_i lv sl aq b h1 h2;obtain⟨ks,hk,rfl⟩:=aJ h;rw[AN (hn.mem _ _ (cb ..)),hk];rfl
  .cases h|qa sz b z x n=>
  simp only[cG.jy,dl,dE,km,j1,lO]at hs;simp only[cG.run,hs.1,hs.2]at h⊢;obtain⟨k,hk,h⟩:=aV h;simp only[hk,ae];split at h;.rename_i hc;rw[ba hc];obtain⟨e,he,rfl⟩:=aJ h;rw[qH he (λhl=>by rw[gA (hn.1 hl)]) hn.2];rfl
  .cases h|JS x=>
  simp only[cG.jy,dl,dE,km,lO]at hs;simp only[cG.run,hs]at h⊢;split at h
  .obtain⟨E,hE,rfl⟩:=aJ h;unfold JY at hE⊢;split at hE
   .rename_i cC cW aq off len sz he;split at hE
    .rename_i els hr;split at hE;.rename_i hb;injection hE with hE;subst hE;rw[nP (hn.mem _ _ (cb ..)),hr];simp only[hb];rw[gA (hn.1 lR)];rfl
     .cases hE
    .cases hE
   .cases hE
  .injection h with h;subst h;rw[NN λhl=>by rw[gA (hn.1 hl)]]|compact x=>simp only[cG.jy,dl,dE,km,lO]at hs;simp only[cG.run,hs]at h⊢;obtain⟨e,he,rfl⟩:=aJ h;rw[C6 he hn.2];rfl|sort x=>simp only[cG.jy,dl,dE,km,lO]at hs;simp only[cG.run,hs]at h⊢;obtain⟨e,he,rfl⟩:=aJ h;rw[Ks he hn.2];rfl|clone sz b x=>
  simp only[cG.jy,dl,dE,km,lO]at hs;simp only[cG.run,hs]at h⊢;split at h;.obtain⟨e,he,rfl⟩:=aJ h;rw[vP he (λhl=>by rw[gA (hn.1 hl)]) hn.2];rfl
  split at h
  .rename_i els hq;obtain⟨e,he,rfl⟩:=aJ h;rw[qH he (λhl=>by rw[gA (hn.1 hl)]) hn.2];have:∃els,dJ s'.mem (x.ev s.slots)=some els:=by
    refine⟨els,?_⟩;rw[iF (m:=s.mem) λlv sl hk=>hn.mem lv sl ?_,hq];unfold ew at he;split at he;.cases he
    .split at he
     .simp only at he;split at he
      .split at he;.injection he with he;subst he;exact hk
       .split at he;.cases he
        .injection he with he;subst he;exact hk
      .cases he
     .cases he
   obtain⟨els',h'⟩:=this;rw[h'];rfl
  .cases h|copy sz x y=>
  simp only[cG.jy,dl,dE,km,j1,lO]at hs;simp only[cG.run,hs.1,hs.2]at h⊢;split at h
  .rename_i lv sl aq off n sz' news hx hy;split at h
   .rename_i cs hb;split at h;.rename_i hc;injection h with h;subst h;have hm:=hn.mem;rw[jY (m:=s.mem) λlv sl hk=>hm lv sl (db _ hk),hy,hx];simp only;rw[nR (hm _ _ (cb ..)),hb];simp only;rw[ba hc]
    .cases h
   .cases h
  .rename_i lv sl aq off n sz' news hx hy;split at h
   .rename_i cs hb;split at h;.rename_i hc;injection h with h;subst h;have hm:=hn.mem;rw[jY (m:=s.mem) λlv sl hk=>hm lv sl (db _ hk),hy,hx];simp only;rw[nP (hm _ _ (cb ..)),hb];simp only;rw[ba hc]
    .cases h
   .cases h
  .cases h|clear sz z x=>
  simp only[cG.jy,dl,dE,km,lO]at hs;simp only[cG.run,hs]at h⊢;split at h
  .split at h
   .rename_i els hr;split at h;.rename_i hc;injection h with h;subst h;rw[nP (hn.mem _ _ (cb ..)),hr];simp only;rw[ba hc]
    .cases h
   .cases h
  .cases h|call f args=>simp only[cG.run]at h⊢;rw[vl (l:=args) hs];cases hk:Nat.ble 1099511627776 row with|true=>rw[hk]at h;exact xX h hn λhl=>⟨gA hl,by rw[hl]⟩|false=>rw[hk]at h;simp only at h⊢;cases h7:Nat.beq row 7with|true=>rw[h7]at h;exact xW h hn|false=>cases h8:Nat.beq row 8with|true=>rw[h7,h8]at h;exact IB h hn|false=>cases h9:Nat.beq row 9with|true=>rw[h7,h8,h9]at h;exact IC h hn|false=>cases h10:Nat.beq row 10with|true=>rw[h7,h8,h9,h10]at h;exact ID h hn|false=>rw[h7,h8,h9,h10]at h;exact r8 h hn λhl=>gA hl
 |xu f args=>simp only[cG.run]at h⊢;rw[vl (l:=args) hs];cases hk:Nat.ble 1099511627776 row with|true=>rw[hk]at h;exact xX h hn λhl=>⟨gA hl,by rw[hl]⟩|false=>rw[hk]at h;simp only at h⊢;cases hsf:sh f with|true=>rw[hsf]at h;exact r8 h hn λhl=>gA hl|false=>rw[hsf]at h;exact xW h hn
 |AA x args=>
  simp only[cG.jy,dl,j1]at hs;simp only[cG.run,hs.1]at h⊢;split at h;.rw[vl hs.2];exact r8 h hn λhl=>gA hl
  .cases h|makeFunc f args=>simp only[cG.run]at h⊢;rw[vl (l:=args) hs];exact h|slice sz x a b c=>
  simp only[cG.jy,dl,bm,j1]at hs;simp only[cG.run,hs.1]at h⊢;rw[lQ λy hy=>hs.2 y (.inl (.inl hy)),lQ λy hy=>hs.2 y (.inl (.inr hy)),lQ λy hy=>hs.2 y (.inr hy)];split at h
  .split at h;.obtain⟨e,he,rfl⟩:=aJ h;rw[NO he hn.2];rfl
   .exact h
  .cases h|rS x a b=>
  simp only[cG.jy,dl,bm,j1]at hs;simp only[cG.run,hs.1]at h⊢;split at h;.rw[lQ λy hy=>hs.2 y (.inl hy),lQ λy hy=>hs.2 y (.inr hy)];exact h
  .cases h|Ft n=>exact h|bad=>exact h|pick a b c=>simp only[cG.jy,dl,dE,km,j1,lO]at hs;simp only[cG.run,hs.1,hs.2.1,hs.2.2]at h⊢;exact h|nilCheck x|Az _ x|un _ x|conv _ x|field _ _ _ x|fieldAddr _ x|extract x _|len x|HW x|JT x|s2b x|sliceB _ _ x|tH _ _ _ x=>simp only[cG.jy,dl,dE,km,lO]at hs;simp only[cG.run,hs]at h⊢;exact h|bin _ x y|eqb _ x y|Q8 _ _ _ x y|indexAddr _ x y|lG _ _ x y|rQ _ _ _ x y|rR x y|HX x y|HY x y|grow _ x y=>simp only[cG.jy,dl,dE,km,j1,lO]at hs;simp only[cG.run,hs.1,hs.2]at h⊢;exact h
end
abbrev Fx:=Nat×Option Nat×iu
def lF(s:St):List Fx->St|[]=>s|x::r=>lF (s.app x.2.1 x.2.2) r
def AW:∀(l l':List Fx)(s:St),lF s (l++l')=lF (lF s l) l'|[],_,_=>rfl|_::r,l',_=>AW r l' _
structure View(α:Type)where
 r9:St->α
 gM:Fx->Bool
 good:Fx->Bool:=λ_=>true
 off:∀(s:St)(x:Fx),gM x=false->r9 (s.app x.2.1 x.2.2)=r9 s
 on:∀(s s':St)(x:Fx),good x=true->r9 s=r9 s'->r9 (s.app x.2.1 x.2.2)=r9 (s'.app x.2.1 x.2.2)
section
variable{α:Type}(V:View α)
theorem View.congr:∀(l:List Fx){s s':St},(∀x∈l,V.good x=true)->V.r9 s=V.r9 s'->V.r9 (lF s l)=V.r9 (lF s' l)|[],_,_,_,h=>h|x::r,_,_,hg,h=>View.congr r (λy hy=>hg y (db _ hy)) (V.on _ _ x (hg x (cb ..)) h)
theorem View.filter:∀(l:List Fx)(s:St),(∀x∈l,V.good x=true)->V.r9 (lF s l)=V.r9 (lF s (l.filter V.gM))|[],_,_=>rfl|x::r,s,hg=>by have hr:∀y∈r,V.good y=true:=λy hy=>hg y (db _ hy);cases h:V.gM x with|true=>simp[ra,h,jn,lF];exact View.filter r _ hr|false=>simp[ra,h,lF,kx,n3];exact(View.congr V r hr (V.off s x h)).trans (View.filter r s hr)
end
def vm(t:Tr AV)(dst:Option Nat)(v:AV)(n:Nat):dW (n9 t dst v) n=if dst=some n then v else dW t n:=by unfold dW n9;cases dst with|none=>simp|some d=>simp[Tr.cL,fw]<;>grind
def qY(s:St)(d:Option Nat)(r:iu):(s.app d r).slots=n9 s.slots d r.val:=by cases r<;>rfl
def PX(t:Nat):View AV where
 r9 s:=dW s.slots t;gM x:=x.2.1==some t;off s x h:=by rw[qY,vm,bi (by simpa using h)]
 on s s' x _ h:=by rw[qY,qY,vm,vm,h]
def nu(m:List (Tr bu))(lv sl:Nat)(e:Option bu):(bJ m lv sl e).length=m.length:=by simp[bJ]
def dY:∀(u:List (Nat×Nat×Option bu))(m:List (Tr bu)),(aU m u).length=m.length|[],_=>rfl|(lv,sl,e)::r,m=>(dY r _).trans (nu m lv sl e)
def isAll:iu->Bool|.bZ _=>false|.all ..=>true
def whole:iu->Bool|.bZ _=>false|.all _ _ _ _ kp kr=>(kp++kr).isEmpty
def asH:View Nat where
 r9 s:=s.mem.length;gM x:=whole x.2.2;off s x h:=by obtain⟨i,d,r⟩:=x;cases r with|bZ e=>exact dY _ _|all v m t n kp kr=>refine nO ?_;intro q;simp only[whole,q]at h;cases h
 on s s' x _ h:=by obtain⟨i,d,r⟩:=x;cases r with|bZ e=>exact(dY _ _).trans (h.trans (dY _ _).symm)|all v m t n kp kr=>show(back s.mem m (kp++kr)).length=(back s'.mem m (kp++kr)).length;cases kp++kr with|nil=>rfl|cons k r=>exact(nO (kp:=k::r) (by simp)).trans (h.trans (nO (kp:=k::r) (by simp)).symm)
def nvV:View Nat where
 r9 s:=s.nv;gM x:=isAll x.2.2;off s x h:=by obtain⟨i,d,r⟩:=x;cases r with|bZ e=>rfl|all=>cases h
 on s s' x _ h:=by obtain⟨i,d,r⟩:=x;cases r with|bZ e=>exact h|all=>rfl
def x8{lv sl:Nat}:∀(u:List (Nat×Nat×Option bu))(m m':List (Tr bu)),aG m lv sl=aG m' lv sl->m.length=m'.length->aG (aU m u) lv sl=aG (aU m' u) lv sl|[],_,_,h,_=>h|(a,b,e)::r,m,m',h,hl=>x8 r _ _ (by rw[cQ,cQ,h,hl]) (by grind[aG,bJ])
def ya{lv sl:Nat}:∀(u:List (Nat×Nat×Option bu))(m:List (Tr bu)),bX lv sl∉u.map (λu=>bX u.1 u.2.1)->aG (aU m u) lv sl=aG m lv sl|[],_,_=>rfl|(a,b,e)::r,m,h=>by simp only[f2,dl,sT]at h;rw[aU,ya r _ h.2,cQ,bi]<;>grind
def yb{v:Nat}:∀(u:List (Nat×Bool))(m m':Tr Unit),m.get? v=m'.get? v->(eX m u).get? v=(eX m' u).get? v|[],_,_,h=>h|(a,b)::r,m,m',h=>yb r _ _ (by rw[Tr.cL,Tr.cL,h])
def yc{v:Nat}:∀(u:List (Nat×Bool))(m:Tr Unit),kq v∉u.map (λu=>kq u.1)->(eX m u).get? v=m.get? v|[],_,_=>rfl|(a,b)::r,m,h=>by simp only[f2,dl,sT]at h;rw[eX,yc r _ h.2,Tr.cL,bi]<;>grind
def Kv(kp:List (Nat×Nat))(k:Nat×Nat×Nat):Prop:=∃p∈kp,k=bX p.1 p.2
def Kv.mem{kp:List (Nat×Nat)}{lv sl:Nat}(h:Kv kp (bX lv sl)):(lv,sl)∈kp:=by grind[bX,Kv]
def inK(kp:List (Nat×Nat))(k:Nat×Nat×Nat):Bool:=kp.any λp=>k==bX p.1 p.2
def yd{kp:List (Nat×Nat)}{k:Nat×Nat×Nat}:inK kp k=true↔Kv kp k:=by grind[Kv,inK]
def kg(k:Nat×Nat×Nat):iu->Bool|.bZ e=>decide (k∈e.wr)|.all _ _ _ _ kp kr=>!inK (kp++kr) k
def aaW(lv sl:Nat):View (Option bu×Nat)where
 r9 s:=(aG s.mem lv sl,s.mem.length);gM x:=kg (bX lv sl) x.2.2;off s x h:=by obtain⟨i,d,r⟩:=x;cases r with|bZ e=>simp only[kg,fy.wr,bm,sT,mr]at h;simp only[St.app,dY,ya _ _ h.1]|all v m t n kp kr=>
  simp only[kg,ll]at h;have hk:=(yd.1 h).mem;have hne:kp++kr≠[]:=by intro q;rw[q]at hk;cases hk
  simp only[St.app,nO hne,uc,bi hne,ba hk]
 on s s' x _ h:=by obtain⟨i,d,r⟩:=x;simp only[eK]at h;cases r with|bZ e=>simp only[St.app,dY,x8 _ _ _ h.1 h.2,h.2]|all v m t n kp kr=>simp only[St.app];cases kp++kr with|nil=>rfl|cons k r=>
   have hne:k::r≠[]:=by simp
   simp only[nO hne,uc,bi hne,h.1,h.2]
def ae8(v:Nat):View (Option Unit)where
 r9 s:=s.aI.get? v;gM x:=kg (kq v) x.2.2;off s x h:=by obtain⟨i,d,r⟩:=x;cases r with|bZ e=>simp only[kg,fy.wr,bm,sT,mr]at h;exact yc _ _ h.2|all v' m t n kp kr=>simp only[kg,ll]at h;obtain⟨p,_,hp⟩:=yd.1 h;exact(dX hp.symm).elim
 on s s' x _ h:=by obtain⟨i,d,r⟩:=x;cases r with|bZ e=>exact yb _ _ _ h|all=>rfl
def Clear:iu->iu->Prop|.bZ a,.bZ b=>(∀k∈a.rd,k∉b.wr)/\(∀k∈a.wr,k∉b.rd)/\∀k∈a.wr,k∉b.wr|.all _ _ _ _ kp kr,.bZ b=>(∀k∈b.rd,Kv (kp++kr) k)/\∀k∈b.wr,Kv kp k|.bZ a,.all _ _ _ _ kp kr=>(∀k∈a.rd,Kv (kp++kr) k)/\∀k∈a.wr,Kv kp k|.all ..,.all ..=>False
def Clear.symm{a b:iu}(h:Clear a b):Clear b a:=by cases a<;>cases b<;>grind[Clear]
def AY{kp kr:List (Nat×Nat)}{e:fy}(h:within kp kr e=true):(∀k∈e.rd,Kv (kp++kr) k)/\∀k∈e.wr,Kv kp k:=by grind[within,fy.wr,Kv]
def Kv.left{kp kr:List (Nat×Nat)}{k:Nat×Nat×Nat}(h:Kv kp k):Kv (kp++kr) k:=by obtain⟨p,hp,he⟩:=h<;>grind[Kv]
def NU{a b:iu}(h:tL a b=false):Clear a b:=by
 cases a<;>cases b;.simp[tL,jp]at h;grind[fy.wr,meets,Clear]
 .simp[tL,ll]at h;exact AY h
 .simp[tL,ll]at h;exact AY h
 .cases h
def Uv{e:fy}(h:xx (.bZ e)=true):∃k,k∈e.rd++e.wr:=by
 simp only[xx,d7,Bool.and_eq_false_iff]at h;rcases h with(h|h)|h;.cases hr:e.rd with|nil=>grind|cons k r=>simp_all
 .cases hr:e.dx with|nil=>grind|cons k r=>exact⟨bX k.1 k.2.1,by simp[fy.wr,hr]⟩
 .cases hr:e.cU with|nil=>grind|cons k r=>exact⟨kq k.1,by simp[fy.wr,hr]⟩
def Clear.whole{a b:iu}(h:Clear a b)(ha:whole a=true)(hb:xx b=true):False:=by cases a with|bZ=>cases ha|all v m t n kp kr=>have ha:kp++kr=[]:=sm.1 ha;cases b with|all=>exact h|bZ e=>
 obtain⟨k,hk⟩:=Uv hb;have:Kv (kp++kr) k:=by
  rcases bm.1 hk with hk|hk;.exact h.1 k hk
  .exact(h.2 k hk).left
 rw[ha]at this;obtain⟨p,hp,_⟩:=this;cases hp
def Clear.asJ{a b:iu}(h:Clear a b)(ha:isAll a=true)(hb:isAll b=true):False:=by cases a with|bZ=>cases ha|all=>cases b with|bZ=>cases hb|all=>exact h
def Clear.gM{a b:iu}(h:Clear a b){k:Nat×Nat×Nat}(ha:kg k a=true)(hb:kg k b=true):False:=by
 cases a<;>cases b;.grind[Clear,kg]
 .simp[kg,dk,d7]at ha hb;exact Bool.noConfusion (hb.symm.trans (yd.2 (h.2 k ha).left))
 .simp[kg,dk,d7]at ha hb;exact Bool.noConfusion (ha.symm.trans (yd.2 (h.2 k hb).left))
 .exact h
def Tr.set_set{α:Type}:∀(f g:Nat)(t:Tr α)(n:Nat)(x y:Option α),n<f->n<g->Tr.vH f (Tr.vH g t n x) n y=Tr.vH f t n y|0,_,_,_,_,_,h,_=>by omega|_+1,0,_,_,_,_,_,h=>by omega|f+1,g+1,t,n,x,y,hf,hg=>by cases h0:Nat.beq n 0with|true=>simp[Tr.vH,h0,Tr.left,Tr.right]|false=>
 have hn:n≠0:=by rintro rfl;cases h0
 cases h1:Nat.beq (n%2) 1with|true=>simp[Tr.vH,h0,h1,Tr.top,Tr.left,Tr.right];rw[Tr.set_set f g _ _ _ _ (by omega) (by omega)]|false=>simp[Tr.vH,h0,h1,Tr.top,Tr.left,Tr.right];rw[Tr.set_set f g _ _ _ _ (by omega) (by omega)]
def Tr.set_comm{α:Type}:∀(f g:Nat)(t:Tr α)(n m:Nat)(x y:Option α),n<f->m<g->n≠m->Tr.vH f (Tr.vH g t m y) n x=Tr.vH g (Tr.vH f t n x) m y
 |0,_,_,_,_,_,_,h,_,_=>by omega|_+1,0,_,_,_,_,_,_,h,_=>by omega|f+1,g+1,t,n,m,x,y,hf,hg,hne=>by
  have b:∀k,Nat.beq k 0=true->k=0:=λk h=>am h;have c:∀k,Nat.beq k 0=false->k≠0:=λk h=>by rintro rfl;cases h
  have d:∀k,Nat.beq (k%2) 1=true->k%2=1:=λk h=>am h;have e:∀k,Nat.beq (k%2) 1=false->k%2≠1:=λk h q=>by rw[q]at h;cases h
  simp[Tr.vH];cases hn:Nat.beq n 0<;>cases hm:Nat.beq m 0<;>cases hn1:Nat.beq (n%2) 1<;>cases zf:Nat.beq (m%2) 1<;>simp only[Tr.top,Tr.left,Tr.right];all_goals first|rfl|(exfalso;have:=b _ hn;have:=b _ hm;omega)|(have h1:=c _ hn;have h2:=c _ hm;first|(have h3:=d _ hn1;have h4:=d _ zf;rw[Tr.set_comm f g _ _ _ _ _ (by omega) (by omega) (by omega)])|(have h3:=e _ hn1;have h4:=e _ zf;rw[Tr.set_comm f g _ _ _ _ _ (by omega) (by omega) (by omega)])|rfl)
def Kw(m:List (Tr bu))(lv sl:Nat)(x y:Option bu):bJ (bJ m lv sl x) lv sl y=bJ m lv sl y:=by unfold bJ;rw[t8];congr 1;funext t;exact Tr.set_set _ _ _ _ _ _ (by omega) (by omega)
def Kx(m:List (Tr bu)){lv sl cC cW:Nat}(x y:Option bu)(h:(lv,sl)≠(cC,cW)):bJ (bJ m lv sl x) cC cW y=bJ (bJ m cC cW y) lv sl x:=by
 unfold bJ;by_cases hl:lv=cC;.subst hl;rw[t8,t8];congr 1;funext t;exact Tr.set_comm _ _ _ _ _ _ _ (by omega) (by omega) (λq=>h (by rw[q]))
 .exact List.modify_modify_ne _ _ _ hl
def qZ:∀(kp:List (Nat×Nat))(m:List (Tr bu))(lv sl:Nat)(e:Option bu),j8 (bJ m lv sl e) kp=if(lv,sl)∈kp then j8 m kp else bJ (j8 m kp) lv sl e
 |[],m,lv,sl,e=>by simp[j8,aU]|(a,b)::r,m,lv,sl,e=>by
    show j8 (bJ (bJ m lv sl e) a b none) r=_;by_cases hab:(lv,sl)=(a,b);.cases hab;rw[ba (cb ..),Kw];rfl
    . rw[Kx m e none hab,qZ r];by_cases hr:(lv,sl)∈r;.rw[ba hr,ba (db _ hr)];rfl
      . rw[bi hr,bi];.rfl
        grind
def AZ{kp:List (Nat×Nat)}:∀(u:List (Nat×Nat×Option bu))(m:List (Tr bu)),(∀x∈u,(x.1,x.2.1)∈kp)->j8 (aU m u) kp=j8 m kp|[],_,_=>rfl|(a,b,e)::r,m,h=>by rw[aU,AZ r _ λx hx=>h x (db _ hx),qZ,ba (h _ (cb ..))]
def Ky{kp:List (Nat×Nat)}:∀(u:List (Nat×Nat×Option bu)){m m':List (Tr bu)},j8 m kp=j8 m' kp->j8 (aU m u) kp=j8 (aU m' u) kp|[],_,_,h=>h|(a,b,e)::r,m,m',h=>by refine Ky r ?_;rw[qZ,qZ,h]
def Uw{old old' m:List (Tr bu)}(h:old.length=old'.length):fit old m=fit old' m:=by unfold fit;rw[h]
def Gv{m m':List (Tr bu)}{kp:List (Nat×Nat)}(h:j8 m kp=j8 m' kp):∀(l:List (Nat×Nat)){F F':List (Tr bu)},j8 F kp=j8 F' kp->j8 (aU F (l.map λk=>(k.1,k.2,aG m k.1 k.2))) kp=j8 (aU F' (l.map λk=>(k.1,k.2,aG m' k.1 k.2))) kp
 |[],_,_,hF=>hF|(a,b)::r,F,F',hF=>by
  refine Gv h r ?_;rw[qZ,qZ];by_cases hk:(a,b)∈kp;.grind
  .rw[bi hk,bi hk,hF];have e1:=qd m kp a b;have e2:=qd m' kp a b<;>grind
def ae9(kp:List (Nat×Nat)):View (List (Tr bu)×Tr Unit×Nat)where
 r9 s:=(j8 s.mem kp,s.aI,s.nv);gM x:=match x.2.2with|.bZ e=>!(e.dx.all (λu=>decide ((u.1,u.2.1)∈kp))&&e.cU.isEmpty)|.all ..=>true;off s x h:=by obtain⟨i,d,r⟩:=x;cases r with|bZ e=>simp only[ll,al,sm]at h;simp only[St.app,h.2];rw[AZ e.dx s.mem λu hu=>by simpa using fr.1 h.1 u hu];rfl|all=>cases h
 on s s' x _ h:=by obtain⟨i,d,r⟩:=x;simp only[eK]at h;cases r with|bZ e=>simp only[St.app,h.2.1,h.2.2,Ky e.dx h.1]|all v m t n kp' kr'=>
  have hl:=Kt h.1;have:j8 (back s.mem m (kp'++kr')) kp=j8 (back s'.mem m (kp'++kr')) kp:=by cases kp'++kr' with|nil=>rfl|cons k r=>unfold back;rw[Uw hl];exact Gv h.1 (k::r) rfl
  simp only[St.app,this]
def C8{l:List Nat}{n:Nat}:Nq l n=true↔n∈l:=by simp_all[Nq]
structure Off(x y:bI):Prop where
 xy:∀t,x.dst=some t->t∉y.looks
 yx:∀t,y.dst=some t->t∉x.looks
 ne:∀t,x.dst=some t->y.dst≠some t
def Off.symm{x y:bI}(h:Off x y):Off y x:=⟨h.yx,h.xy,λt h1 h2=>h.ne t h2 h1⟩
def apart_spec{x y:bI}(h:x.apart y=true):Off x y:=by
 simp[bI.apart,al]at h;refine⟨λt ht hm=>?_,λt ht hm=>?_,λt ht h'=>?_⟩;.have:=h.1.1;simp[CE,ht,C8.2 hm]at this
 .have:=h.1.2;simp[CE,ht,C8.2 hm]at this
 simp_all[PD,CE]
def NV{call:Call}{sh:Nat->Bool}{s s':St}{o:bI}{aR:Nat}{r:iu}(h:o.step call sh s aR=some r)(hs:∀t∈o.looks,dW s'.slots t=dW s.slots t)(hn:C5 s s' r):o.step call sh s' aR=some r:=by
 have hw:ju s'.slots o=ju s.slots o:=by unfold ju;split<;>simp_all[C5,bI.looks,bI.step,Call,dW]
 unfold bI.step at h⊢;rw[hw];split at h;.cases h
 .refine Ry h (λx hx=>?_) hn;cases x with|t n=>exact hs n (by simp only[bI.looks,bm,na];exact .inl ⟨_,hx,by simp[cx.slot]⟩)|c v=>rfl
 omega
structure PY(call:Call)(sh:Nat->Bool)(mE:Nat)(all:List bI)(s0:St)(L:List Fx):Prop where
 lt:L.Pairwise λx y=>x.1<y.1dom:∀i,i<all.length↔∃x∈L,x.1=i
 step:∀pre x post,L=pre++x::post->∃o,all[x.1]?=some o/\x.2.1=o.dst/\o.step call sh (lF s0 pre) (mE+x.1)=some x.2.2meet:∀x y,x∈L->y∈L->x.1<y.1->∀o,all[y.1]?=some o->o.oV.testBit x.1=true\/Clear x.2.2 y.2.2
def C9{oV:Nat}{e:iu}:∀{eT:List (Nat×iu)},clear oV e eT=true->∀y∈eT,oV.testBit y.1=true\/Clear y.2 e
 |[],_,y,hy=>by cases hy|(i,x)::r,h,y,hy=>by
  simp[clear,al,ge,d7]at h;rcases dl.1 hy with rfl|hy;.exact h.1.imp id NU
  .exact C9 h.2 y hy
def ye{call:Call}{sh:Nat->Bool}{mE:Nat}{all:List bI}:∀(ops:List bI)(i:Nat)(eT:List (Nat×iu))(s s':St),(∀k,ops[k]?=all[i+k]?)->j9 call sh mE i ops eT s=some s'->∃L:List Fx,s'=lF s L/\L.map (·.1)=List.range' i ops.length/\(∀pre x post,L=pre++x::post->∃o,all[x.1]?=some o/\x.2.1=o.dst/\o.step call sh (lF s pre) (mE+x.1)=some x.2.2/\(∀y∈pre,o.oV.testBit y.1=true\/Clear y.2.2 x.2.2)/\∀y∈eT,o.oV.testBit y.1=true\/Clear y.2 x.2.2)
 |[],i,eT,s,s',_,h=>by simp[j9,fw]at h;exact⟨[],h.symm,rfl,λpre x post h=>by simp at h⟩|o::r,i,eT,s,s',hall,h=>by
  simp[j9]at h;split at h;.cases h
  .rename_i e he;split at h;.rename_i hc;obtain⟨L,h1,h2,h3⟩:=ye r (i+1) ((i,e)::eT) _ _ (λk=>by have:=hall (k+1);rw[List.getElem?_cons_succ]at this;rw[this];congr 1;omega) h;refine⟨(i,o.dst,e)::L,h1,by simp[h2,List.range'_succ],λpre x post hp=>?_⟩;cases pre with|nil=>cases hp;exact⟨o,by have:=hall 0;simpa using this.symm,rfl,he,⟨λy hy=>absurd hy dE,λy hy=>C9 hc y hy⟩⟩|cons p pre=>
    simp at hp;obtain⟨rfl,hp⟩:=hp;obtain⟨o',g1,g2,g3,g4,g5⟩:=h3 pre x post hp;refine⟨o',g1,g2,g3,λy hy=>?_,λy hy=>g5 y (db _ hy)⟩;rcases dl.1 hy with rfl|hy;.exact g5 _ (cb ..)
    .exact g4 y hy
   .cases h
def PY.afa{call:Call}{sh:Nat->Bool}{mE:Nat}{all:List bI}{s s':St}(h:j9 call sh mE 0 all [] s=some s'):∃L,s'=lF s L/\PY call sh mE all s L:=by
 obtain⟨L,h1,h2,h3⟩:=ye (all:=all) all 0 [] s s' (λk=>by simp) h;refine⟨L,h1,?_,λi=>?_,λpre x post hp=>?_,λx y hx hy hlt o ho=>?_⟩
 .have:(L.map (·.1)).Pairwise (·<·):=by rw[h2];exact List.pairwise_lt_range'
  exact List.pairwise_map.1 this
 .have:i∈L.map (·.1)↔i<all.length:=by rw[h2,List.mem_range'_1];omega
  rw[<-this,i5]
 .obtain⟨o,g1,g2,g3,_⟩:=h3 pre x post hp;exact⟨o,g1,g2,g3⟩
 .obtain⟨pre,post,rfl⟩:=wa hy;obtain⟨o',g1,g2,g3,g4,_⟩:=h3 pre y post rfl;rw[ho]at g1;cases g1;refine g4 x ?_;have hL:(pre++y::post).Pairwise λx y:Fx=>x.1<y.1:=by
   have:((pre++y::post).map (·.1)).Pairwise (·<·):=by rw[h2];exact List.pairwise_lt_range'
   exact List.pairwise_map.1 this
  rcases bm.1 hx with hx|hx;.exact hx
  .rcases dl.1 hx with rfl|hx;.omega
   .have:=(pb.1 (ui.1 hL).2.1).1 x hx;omega
def yf{y:bI}:∀{eT:List bI}{i:Nat},B6 y i eT=true->∀k x,eT[k]?=some x->y.oV.testBit (i+k)=true\/Off x y|[],_,_,k,x,hx=>by grind|p::r,i,h,k,x,hx=>by simp[B6,al,ge]at h;cases k with|zero=>cases hx;exact h.1.imp id apart_spec|succ k=>have:=yf h.2 k x (by simpa using hx);rwa[show i+(k+1)=i+1+k by omega]
def vR:∀{l eT:List bI},nG eT l=true->∀i j x y,(eT++l)[i]?=some x->(eT++l)[j]?=some y->i<j->eT.length<=j->y.oV.testBit i=true\/Off x y
 |[],eT,_,i,j,x,y,_,hy,_,hj=>by grind|o::r,eT,h,i,j,x,y,hx,hy,hij,hj=>by
  simp[nG,al]at h;rcases ii eT.length j with hl|hl
  .have e:eT++o::r=eT++[o]++r:=by simp
   rw[e]at hx hy;exact vR h.2 i j x y hx hy hij (by simp;omega)
  .have:j=eT.length:=by omega
   subst this;rw[nl hij]at hx;have:=yf h.1 i x hx<;>grind
section
variable{call:Call}{sh:Nat->Bool}{mE:Nat}{all:List bI}{s0:St}{L:List Fx}
def JL(s0:St)(L:List Fx)(p:Nat->Bool):St:=lF s0 (L.filter λx=>p x.1)
def IE(all:List bI)(p:Nat->Bool):Prop:=∀j o,all[j]?=some o->p j=true->∀k,k<j->o.oV.testBit k=true->p k=true
def PY.split(h:PY call sh mE all s0 L){i:Nat}(hi:i<all.length):∃pre x post,L=pre++x::post/\x.1=i/\(∀y∈pre,y.1<i)/\∀y∈post,i<y.1:=by
 obtain⟨x,hx,rfl⟩:=(h.dom i).1 hi;obtain⟨pre,post,rfl⟩:=wa hx;refine⟨pre,x,post,rfl,rfl,λy hy=>?_,λy hy=>?_⟩;.exact(ui.1 h.lt).2.2 y hy x (cb ..)
 .exact(pb.1 (ui.1 h.lt).2.1).1 y hy
def KA(all:List bI)(i:Nat)(y:Fx):Prop:=(y.1<i->∀o,all[i]?=some o->o.oV.testBit y.1=true)/\(i<y.1->∀o,all[y.1]?=some o->o.oV.testBit i=true)
def part{α:Type}(V:View α){pre post:List Fx}{x:Fx}{p:Nat->Bool}(hg:∀y∈pre++x::post,V.good y=true)(hpre:∀y∈pre,V.gM y=true->p y.1=true)(hpost:∀y∈post,V.gM y=true->p y.1=false)(hx:p x.1=false)(s:St):V.r9 (lF s ((pre++x::post).filter λx=>p x.1))=V.r9 (lF s pre):=by
 rw[V.filter _ _ λy hy=>hg y ((t6.1 hy).1),V.filter pre _ λy hy=>hg y (dp _ hy),rp,List.filter_append,ra];have e1:post.filter (λa=>V.gM a&&p a.1)=[]:=by refine tl.2 λy hy hb=>?_<;>grind
 have e2:pre.filter (λa=>V.gM a&&p a.1)=pre.filter V.gM:=by refine wd λy hy=>?_<;>grind
 grind
def Da{α:Type}(V:View α){p:Nat->Bool}(hc:IE all p){pre post:List Fx}{x:Fx}(hg:∀y∈pre++x::post,V.good y=true)(hpre:∀y∈pre,y.1<x.1)(hpost:∀y∈post,x.1<y.1)(hi:p x.1=false){o:bI}(ho:all[x.1]?=some o)(hb:∀k,k<x.1->o.oV.testBit k=true->p k=true)(hdom:∀y∈post,∃o',all[y.1]?=some o')(hV:∀y∈pre++post,V.gM y=true->KA all x.1 y)(s:St):V.r9 (JL s (pre++x::post) p)=V.r9 (lF s pre):=by
 refine part V hg (λy hy ht=>?_) (λy hy ht=>?_) hi s;.exact hb _ (hpre y hy) ((hV y (dp _ hy) ht).1 (hpre y hy) o ho)
 .obtain⟨o',ho'⟩:=hdom y hy;cases hp:p y.1with|false=>rfl|true=>have:=hc _ _ ho' hp _ (hpost y hy) ((hV y (du _ hy) ht).2 (hpost y hy) o' ho')<;>grind
def akl{α:Type}(V:View α){pre post:List Fx}{x:Fx}{p:Nat->Bool}(hg:∀y∈pre++x::post,V.good y=true)(hpre:∀y∈pre,V.gM y=true->p y.1=true)(hpost:∀y∈post,V.gM y=true->p y.1=false)(hx:p x.1=true)(s:St):V.r9 (lF s ((pre++x::post).filter λx=>p x.1))=V.r9 ((lF s pre).app x.2.1 x.2.2):=by
 have e0:(lF s pre).app x.2.1 x.2.2=lF s (pre++[x]):=by rw[AW];rfl
 rw[e0,V.filter _ _ λy hy=>hg y ((t6.1 hy).1),V.filter (pre++[x]) _ λy hy=>hg y (by rcases bm.1 hy with hy|hy<;>simp_all),rp,List.filter_append];have e1:(x::post).filter (λa=>V.gM a&&p a.1)=[x].filter V.gM:=by
  have e1:post.filter (λa=>V.gM a&&p a.1)=[]:=by refine tl.2 λy hy hb=>?_<;>grind
  grind
 have e2:pre.filter (λa=>V.gM a&&p a.1)=pre.filter V.gM:=by refine wd λy hy=>?_<;>grind
 grind
def PY.pair(h:PY call sh mE all s0 L)(hap:nG [] all=true){x y:Fx}(hx:x∈L)(hy:y∈L)(hne:y.1≠x.1){o oy:bI}(ho:all[x.1]?=some o)(hoy:all[y.1]?=some oy):KA all x.1 y\/(Off oy o/\Clear y.2.2 x.2.2):=by
 have key:=λi j a b(ha:all[i]?=some a)(hb:all[j]?=some b)(hij:i<j)=>vR (eT:=[]) hap i j a b (by simpa using ha) (by simpa using hb) hij (ub _);rcases Nat.lt_or_gt_of_ne hne with hl|hl;.have b:o.oV.testBit y.1=true->KA all x.1 y:=λhb=>⟨λ_ o' ho'=>by rw[ho]at ho';injection ho' with ho';rw[<-ho'];exact hb,λh=>by omega⟩;rcases h.meet y x hy hx hl o ho with h1|h1<;>grind
 .have b:oy.oV.testBit x.1=true->KA all x.1 y:=λhb=>⟨λh=>by omega,λ_ o' ho'=>by rw[hoy]at ho';injection ho' with ho';rw[<-ho'];exact hb⟩;rcases h.meet x y hx hy hl oy hoy with h1|h1;.grind
  .rcases key _ _ _ _ ho hoy hl with h2|h2;.exact .inl (b h2)
   .exact .inr ⟨h2.symm,h1.symm⟩
def PY.at(h:PY call sh mE all s0 L){y:Fx}(hy:y∈L):∃o,all[y.1]?=some o/\y.2.1=o.dst:=by obtain⟨pre,post,rfl⟩:=wa hy;obtain⟨o,h1,h2,_⟩:=h.step pre y post rfl<;>grind
def PY.any(h:PY call sh mE all s0 L)(hap:nG [] all=true){p:Nat->Bool}(hc:IE all p){i:Nat}{o:bI}(ho:all[i]?=some o)(hi:p i=false)(hb:∀k,k<i->o.oV.testBit k=true->p k=true):∃x∈L,x.1=i/\x.2.1=o.dst/\o.step call sh (JL s0 L p) (mE+i)=some x.2.2:=by
 obtain⟨pre,x,post,rfl,rfl,h1,h2⟩:=h.split (ci.1 ho).1;obtain⟨o',g1,g2,g3⟩:=h.step pre x post rfl;rw[ho]at g1;cases g1;have hmem:x∈pre++x::post:=by simp
 refine⟨x,hmem,rfl,g2,?_⟩;have r9:∀{α:Type}(V:View α),(∀y∈pre++x::post,V.good y=true)->(∀y oy,y∈pre++x::post->all[y.1]?=some oy->y.2.1=oy.dst->V.gM y=true->Off oy o->Clear y.2.2 x.2.2->False)->V.r9 (JL s0 (pre++x::post) p)=V.r9 (lF s0 pre):=by
  intro α V hg hV;refine Da V hc hg h1 h2 hi ho hb (λy hy=>?_) (λy hy ht=>?_) s0;.obtain⟨o',h',_⟩:=h.at (y:=y) (by simp[hy])<;>grind
  .have hy':y∈pre++x::post:=by grind
   have hne:y.1≠x.1:=by grind
   obtain⟨oy,hoy,hd⟩:=h.at hy';rcases h.pair hap hmem hy' hne ho hoy with hh|hh<;>grind
 refine NV g3 (λt ht=>?_) ?_;.refine r9 (PX t) (λ_ _=>rfl) λy oy _ _ hd Db hoff _=>?_;simp only[PX,lw]at Db;exact hoff.xy t (hd▸Db) ht
 .cases hr:x.2.2with
  |bZ e=>
   refine⟨λhl=>?_,λk hk=>?_⟩;.refine r9 asH (λ_ _=>rfl) λy oy _ _ _ Db _ lu=>?_;rw[hr]at lu;exact lu.whole Db hl
   .have rd:∀{b:iu},kg k b=true->Clear b (.bZ e)->False:=by intro b hb lu;cases b with|bZ b=>simp only[kg,dk]at hb;exact lu.2.1 k hb hk|all=>simp[kg,d7]at hb;have:=yd.2 (lu.1 k hk)<;>grind
    obtain⟨k0,k1,k2⟩:=k;unfold kC;by_cases hk0:k0=0;.subst hk0;have:=r9 (aaW k1 k2) (λ_ _=>rfl) λy oy _ _ _ Db _ lu=>rd (b:=y.2.2) Db (hr▸lu);simp only[aaW,eK]at this<;>grind
    .simp[hk0,n3];by_cases hk1:k0=1/\k2=0;.obtain⟨rfl,rfl⟩:=hk1;have:=r9 (ae8 k1) (λ_ _=>rfl) λy oy _ _ _ Db _ lu=>rd (b:=y.2.2) Db (hr▸lu);simp only[ae8]at this<;>grind
     grind|all v m t n kp kr=>
   have:=r9 (ae9 kp) (λ_ _=>rfl) λy oy _ _ _ Db _ lu=>?_;.simp[ae9,eK]at this;exact this
   .rw[hr]at lu;cases hy2:y.2.2with|all=>rw[hy2]at lu;exact lu|bZ e=>
     rw[hy2]at lu;simp only[ae9,hy2,d7,Bool.and_eq_false_iff]at Db;rcases Db with Db|Db
     .have:e.dx.all (λu=>decide ((u.1,u.2.1)∈kp))=true:=by refine fr.2 λu hu=>?_;have:=(lu.2 (bX u.1 u.2.1) (by simp only[fy.wr,bm,i5];exact .inl ⟨u,hu,rfl⟩)).mem<;>grind
      grind
     .cases ht:e.cU with|nil=>grind|cons u r=>obtain⟨p,_,hp⟩:=lu.2 (kq u.1) (by simp[fy.wr,ht]);exact dX hp.symm
structure St.asL(s s':St):Prop where
 slots:∀t,dW s.slots t=dW s'.slots t
 mem:∀lv sl,aG s.mem lv sl=aG s'.mem lv sl
 aI:∀v,s.aI.get? v=s'.aI.get? v
 nv:s.nv=s'.nv
def PY.after(h:PY call sh mE all s0 L)(hap:nG [] all=true){p:Nat->Bool}(hc:IE all p){x:Fx}(hx:x∈L){o:bI}(ho:all[x.1]?=some o)(hd:x.2.1=o.dst)(hi:p x.1=false)(hb:∀k,k<x.1->o.oV.testBit k=true->p k=true):St.asL (JL s0 L λj=>p j||j==x.1) ((JL s0 L p).app x.2.1 x.2.2):=by
 obtain⟨pre,x',post,rfl,hxx,h1,h2⟩:=h.split (ci.1 ho).1;have asM:x=x':=by grind
 subst asM;have r9:∀{α:Type}(V:View α),(∀y∈pre++x::post,V.good y=true)->(V.gM x=true->∀y oy,all[y.1]?=some oy->y.2.1=oy.dst->V.gM y=true->Off oy o->Clear y.2.2 x.2.2->False)->V.r9 (JL s0 (pre++x::post) λj=>p j||j==x.1)=V.r9 ((JL s0 (pre++x::post) p).app x.2.1 x.2.2):=by intro α V hg hV;cases ht:V.gM x with|false=>rw[V.off _ _ ht];unfold JL;rw[V.filter _ _ λy hy=>hg y ((t6.1 hy).1),V.filter (List.filter (λx=>p x.1) _) _ λy hy=>hg y ((t6.1 hy).1),rp,rp];congr 2;refine wd λy hy=>?_<;>grind|true=>
   have hV:=hV ht;have bound:∀y∈pre++post,V.gM y=true->KA all x.1 y:=by
    intro y hy ht;have hy':y∈pre++x::post:=by rcases bm.1 hy with hy|hy<;>simp[hy]
    have hne:y.1≠x.1:=by
     rcases bm.1 hy with hy|hy;.exact yn (h1 y hy)
     .exact(yn (h2 y hy)).symm
    obtain⟨oy,hoy,hd⟩:=h.at hy';rcases h.pair hap hx hy' hne ho hoy with hh|hh;.exact hh
    .exact(hV y oy hoy hd ht hh.1 hh.2).elim
   have hdom:∀y∈post,∃o',all[y.1]?=some o':=λy hy=>by obtain⟨o',h',_⟩:=h.at (y:=y) (by simp[hy]);exact⟨o',h'⟩
   rw[V.on _ _ x (hg x hx) (Da V hc hg h1 h2 hi ho hb hdom bound s0)];refine akl V (p:=λj=>p j||j==x.1) hg (λy hy ht=>?_) (λy hy ht=>?_) (by simp) s0;.simp[hb _ (h1 y hy) ((bound y (dp _ hy) ht).1 (h1 y hy) o ho)]
   .obtain⟨o',ho'⟩:=hdom y hy;have hne:(y.1==x.1)=false:=by simpa using(yn (h2 y hy)).symm
    rw[hne];cases hp:p y.1with|false=>rfl|true=>have:=hc _ _ ho' hp _ (h2 y hy) ((bound y (du _ hy) ht).2 (h2 y hy) o' ho');rw[hi]at this;cases this
 have key:∀k,kg k x.2.2=true->∀(y:Fx),kg k y.2.2=true->Clear y.2.2 x.2.2->False:=λk hx y hy lu=>lu.gM hy hx;refine⟨λt=>r9 (PX t) (λ_ _=>rfl) λhxt y oy _ hdy Db hoff _=>?_,λlv sl=>?_,λv=>r9 (ae8 v) (λ_ _=>rfl) λhxt y _ _ _ Db _ lu=>key _ hxt y Db lu,r9 nvV (λ_ _=>rfl) λhxt y _ _ _ Db _ lu=>lu.asJ Db hxt⟩;.simp only[PX,lw]at hxt Db;exact hoff.ne t (hdy▸Db) (hd▸hxt)
 .have:=r9 (aaW lv sl) (λ_ _=>rfl) λhxt y _ _ _ Db _ lu=>key _ hxt y Db lu;simp only[aaW,eK]at this<;>grind
end
end Go.bL
