/- A part of the proof: EngR, EngBox. -/
import Derived.Test.YtdogilonhnbapaaGreatDoorEngQ
set_option linter.unusedVariables false
set_option linter.unusedSimpArgs false
namespace Go.bI
open Go Go.RowKit
structure Good(Z:Cx)(cm:List (Tr bC))(top pk:Nat)(Y:Cx):Prop where
 w:Y.w=Z.w
 F:∀b o,Z.F b o->Y.F b o
 ρ:0<top->∀v L,Z.ρ v=some L->Y.ρ v=some L
 fz:pk=0->∀cG dF e L,top<=cG->aK cm cG dF=some e->e.fz=false->Z.ρ e.ai=some L->0<L.cap->∀o,Y.F L.b o
def dH{α:Type}(Z:Cx)(cm:List (Tr bC))(top pk lv sl ai:Nat)(R:Cx->α->Prop)(y:α)(us:List (List (List D))):Prop:=(us=[]/\∀Y,Good Z cm top pk Y->R Y y)\/(∃els len sz v',us=[els]/\(pk≠0/\RW Z top cm els len sz v')/\∀Y,Good Z cm top pk Y->VC Y (.ref lv sl ai 0 len sz) v'->R Y y)\/2<=us.length
theorem dH.map{α β:Type}{Z:Cx}{cm:List (Tr bC)}{top pk lv sl ai:Nat}{R:Cx->α->Prop}{S:Cx->β->Prop}{y:α}{z:β}{us:List (List (List D))}(h:dH Z cm top pk lv sl ai R y us)(hrs:∀Y,R Y y->S Y z):dH Z cm top pk lv sl ai S z us:=by grind[dH]
theorem dH.pair{α β γ:Type}{Z:Cx}{cm:List (Tr bC)}{top pk lv sl ai:Nat}{R:Cx->α->Prop}{S:Cx->β->Prop}{T:Cx->γ->Prop}{y:α}{z:β}{x:γ}{us vs:List (List (List D))}(h:dH Z cm top pk lv sl ai R y us)(k:dH Z cm top pk lv sl ai S z vs)(hrs:∀Y,R Y y->S Y z->T Y x):dH Z cm top pk lv sl ai T x (us++vs):=by grind[dH]
section
variable{Z:Cx}{cm:List (Tr bC)}{ts:Tr Unit}{top pk lv sl ai:Nat}
theorem xp(h:aH Z cm ts){k:Nat}{x y:AV}{us:List (List (List D))}{v:Value}(hx:bu cm top pk k lv sl ai x=some (y,us))(hv:VC Z x v):dH Z cm top pk lv sl ai (λY y=>VC Y y v) y us:=by
 by_cases hu:us=[];.refine .inl ⟨hu,λY hY=>?_⟩;rcases A5 h hY.w hY.F hY.ρ hY.fz hx hv with⟨_,h⟩|⟨_,_,_,h,_⟩<;>grind
 .rcases A5 (Y:={Z with F:=λ_ _=>True}) h rfl (λ_ _ _=>trivial) (λ_ _ _ h=>h) (λ_ _ _ _ _ _ _ _ _ _ _=>trivial) hx hv with⟨h,_⟩|⟨els,len,sz,h1,rfl,h2,h3⟩<;>grind[bu,VC,dH]
theorem A6(h:aH Z cm ts):∀{k:Nat}{xs ys:List AV}{us:List (List (List D))}{vs:List Value},cL cm top pk lv sl ai k xs=some (ys,us)->aC (VC Z) xs vs->dH Z cm top pk lv sl ai (λY ys=>aC (VC Y) ys vs) ys us
 |k,[],ys,us,[],hx,_=>by grind[cL,VC,aC,dH]|k,x::xs,ys,us,v::vs,hx,hv=>by
  simp[cL]at hx;split at hx;.rename_i y u ys' us' h1 h2;cases hx;exact(xp h h1 hv.1).pair (A6 h h2 hv.2) λY a b=>⟨a,b⟩
  grind|_,[],_,_,_::_,_,hv=>hv.elim|_,_::_,_,_,[],_,hv=>hv.elim
theorem RX(h:aH Z cm ts){k:Nat}{x y:AV}{us:List (List (List D))}{v:Value}(hx:kV cm top pk lv sl ai k x=some (y,us))(hv:V1 Z x v):dH Z cm top pk lv sl ai (λY y=>V1 Y y v) y us:=by cases x with
 |agg cs=>simp only[kV]at hx;cases hd:cL cm top pk lv sl ai k cs with|none=>grind|some p=>rw[hd]at hx;cases hx;obtain⟨vs,rfl,h3⟩:=hv;exact(A6 h (us:=p.2) hd h3).map λY h=>⟨vs,rfl,h⟩
 |iF cs=>cases hx|_=>simp only[kV]at hx;exact(xp h hx hv).map λY h=>.fy h
theorem Iq(h:aH Z cm ts):∀{k:Nat}{xs ys:List AV}{us:List (List (List D))}{vs:List Value},fK cm top pk lv sl ai k xs=some (ys,us)->aC (V1 Z) xs vs->dH Z cm top pk lv sl ai (λY ys=>aC (V1 Y) ys vs) ys us
 |k,[],ys,us,[],hx,_=>by grind[fK,V1,aC,dH]|k,x::xs,ys,us,v::vs,hx,hv=>by
  simp[fK]at hx;split at hx;.rename_i y u ys' us' h1 h2;cases hx;exact(RX h h1 hv.1).pair (Iq h h2 hv.2) λY a b=>⟨a,b⟩
  grind|_,[],_,_,_::_,_,hv=>hv.elim|_,_::_,_,_,[],_,hv=>hv.elim
theorem FZ(h:aH Z cm ts){x y:AV}{us:List (List (List D))}{v:Value}(hx:gu cm top pk lv sl ai x=some (y,us))(hv:VR Z x v):dH Z cm top pk lv sl ai (λY y=>VR Y y v) y us:=by cases x with
 |iF cs=>simp only[gu]at hx;cases hd:fK cm top pk lv sl ai 1 cs with|none=>grind|some p=>rw[hd]at hx;cases hx;obtain⟨vs,rfl,h3⟩:=hv;exact(Iq h (us:=p.2) hd h3).map λY h=>⟨vs,rfl,h⟩
 |_=>simp only[gu]at hx;exact(RX h hx hv).map λY h=>.vo h
theorem A7{Y:Cx}{m:List (Tr bC)}{t:Tr Unit}{els:List (List D)}{len sz off cap:Nat}{a:Option Addr}{L:Loc}(hm:aH Y m t)(hw:Y.w=Z.w)(hF:∀b o,Z.F b o->Y.F b o)(hb:∀b,Y.old b->Z.old b)(hfr:Y.ρ ai=none)(h1:len<=cap)(h2:els.length=len)(h3:∀e∈els,e.length=sz)(h4:0<cap->a=some ⟨L.b,L.o+off*sz,none⟩/\off+cap<=L.cap/\L.sz=sz/\0<L.cap/\Block Z L.b (L.o+L.cap*L.sz)/\(∀o,¬Z.F L.b o)/\∀i e j x,els[i]?=some e->e[j]?=some x->∃u,Z.w.cell? ⟨L.b,L.o+off*sz+i*sz+j,none⟩=some u/\DR Z.w Z.F x u)(hno:0<cap->(∀o,¬Y.F L.b o)/\∀k u M,Holds m t k u->Y.ρ u=some M->0<M.cap->M.b≠L.b):∃W:Cx,W.w=Y.w/\W.F=Y.F/\W.old=Y.old/\(∀u M,Y.ρ u=some M->W.ρ u=some M)/\(∀u M,W.ρ u=some M->Y.ρ u=some M\/u=ai)/\aH W (cj m lv sl (some (.row ai els))) t/\VC W (.ref lv sl ai 0 len sz) (.slice a len cap):=by
 let L':Loc:=⟨L.b,L.o+off*sz,sz,cap⟩;refine⟨Y.name ai L',rfl,rfl,rfl,(dV hfr).loc,λu M hu=>?_,?_,L',a,cap,ew,rfl,rfl,h1,λhc=>⟨by rw[(h4 hc).1];simp[L'],by simp[L']⟩⟩;.grind[Cx.name,Holds,Block]
 .refine(gv hm hfr).add (e:=.row ai els) (L:=L') ew ⟨by rw[h2];exact h1,h3,λhc=>?_,λi e j x hi hj=>?_⟩ λk u M hk _ hu xb hc=>?_;.obtain⟨g1,g2,g3,g4,⟨g5,C,ce,g6,g7⟩,g8,_⟩:=h4 hc;refine⟨⟨λq=>g5 (hb _ q),C,ce,by show Y.w.heap[L.b]?=_;rw[hw];exact g6,?_⟩,(hno hc).1⟩;have:=Nat.mul_le_mul_right sz g2<;>grind
  .have hi':i<els.length:=(List.getElem?_eq_some_iff.1 hi).1;obtain⟨u,hu,hd⟩:=(h4 (by omega)).2.2.2.2.2.2 i e j x hi hj;refine⟨u,?_,?_⟩;.grind[Holds,Block,Cx.name]
   .show DR Y.w Y.F x u;rw[hw];exact hd.mono hF
  .obtain⟨M',jY,_⟩:=hm.cZ hk<;>grind[Cx.name,bL,Holds,Block]
end
theorem ot(m:List (Tr bC))(k lv sl:Nat):aK (m.take k) lv sl=if lv<k then aK m lv sl else none:=by grind[aK]
section
variable{P:Program}{X:Cx}{nt:Nat}{s:St}{a:Act}{o:Oper}{dst:Option Nat}{aO:Nat}
theorem A8{call:Go.bI.Call}(cM:cI P call)(hs:fk X nt s a)(hfr:X.ρ aO=none){f pk lv sl:Nat}{bK:Array Value}{aJ:List AV}{ks:List (Nat×Nat)}{r val:AV}{cm:List (Tr bC)}{ts:Tr Unit}{n':Nat}{us:List (List (List D))}{u:List (Nat×Nat×Option bC)}{rd:List (Nat×Nat×Nat)}(hV:aC (V1 (X.lZ s.mem ks).inner) aJ bK.toList)(hc:call f aJ [.lf] .lf 0=some (r,cm,ts,n'))(hi:gu cm 0 pk lv sl aO r=some (val,us))(hu:j4 lv sl aO us=some u)(hrun:(∃fn,P.funcs[f]?=some fn/\fn.body.isSome=true/\(fn.name== "runtime.NumGoroutine")=false)->(execOp a.eval o).run P X.w=.ok (.enter f bK) X.w):dh P X s a o dst aO (.bX {val,cX:=dS s.mem ks++u,cB:=[],rd}):=by
 intro K Q hK;have Df:=FL hs.mem ks;have hx1:=qo hs.mem ks;obtain⟨hfn,qp⟩:=cM f aJ [.lf] .lf 0 r cm ts n' hc (X.lZ s.mem ks).inner bK (OU Df) (λ_ _=>rfl) hV;unfold Oper.wp;rw[hrun hfn];refine Calls.mono qp ?_;rintro e w'⟨Z,v,rfl,rfl,Ai,Wm,DZ,_,_⟩;have hblk:∀b,b<X.w.heap.size->Z.w.heap[b]?=X.w.heap[b]?:=λb hb=>Ai.below.block b hb;have RY:Z.old=λb=>b<X.w.heap.size:=Ai.base;have hZF:∀b o,Z.F b o->(X.lZ s.mem ks).F b o\/X.w.heap.size<=b:=λb o h=>(Ai.new b o h).imp id λh=>Nat.le_of_not_lt h;have mk:∀(p:Option Nat),∃Y:Cx,Y.w=Z.w/\Y.old=X.old/\Y.ρ=X.ρ/\(∀b o,Y.F b o↔Z.F b o\/(X.w.heap.size<=b/\b<Z.w.heap.size/\some b≠p))/\Ext X Y/\aH Y (bz s.mem (dS s.mem ks)) s.aG:=by
  intro p;let Y:Cx:={w:=Z.w,F:=λb o=>Z.F b o\/(X.w.heap.size<=b/\b<Z.w.heap.size/\some b≠p),ρ:=X.ρ,old:=X.old};have hx:Ext (X.lZ s.mem ks) Y:=by
   refine⟨rfl,Ai.below.mono hs.mem.low,λb o h=>.inl (Ai.VY b o h),λb o h=>?_,λ_ _ h=>h,λb o h=>?_⟩;.exact Ai.keep b o h
   .rcases h with h|h;.exact(hZF b o h).imp id λh q=>Nat.lt_irrefl _ (Nat.lt_of_lt_of_le (hs.mem.low _ q) h)
    .exact .inr λq=>Nat.lt_irrefl _ (Nat.lt_of_lt_of_le (hs.mem.low _ q) h.1)
  refine⟨Y,rfl,rfl,rfl,λ_ _=>Iff.rfl,hx1.trans hx,Df.move hx (λk v L hk hv hc=>?_) (λk v L o hk hv hc h=>?_) λb o h=>?_⟩;.obtain⟨M,hM,h2⟩:=Df.cZ hk;rw[hv]at hM;cases hM;exact hblk _ (h2 hc).1
  .obtain⟨M,hM,h2⟩:=Df.cZ hk;rw[hv]at hM;cases hM;have:=(h2 hc).1;have this:L.b<X.w.heap.size:=this<;>grind
  .rcases h with h|h;.exact DZ.n8 b o h
   grind
 rcases FZ DZ hi Wm with⟨rfl,hb⟩|⟨els,len,sz,v',rfl,⟨hpk,⟨L,off,ad,cap,g3,g4,g5,g6,g7'⟩⟩,hb⟩|hlen
 .cases hu;obtain⟨Y,y1,y2,y3,y4,y5,y6⟩:=mk none;rw[<-y1];refine hK Y v y5 (hb Y ⟨y1,λb o h=>(y4 b o).2 (.inl h),λh=>absurd h (by omega),λ_ cG dF e L _ hg hz hL hc o=>?_⟩) ?_ ?_;.obtain⟨M,hM,h2⟩:=DZ.cZ (.inl ⟨cG,dF,e,rfl,hg,rfl,hz⟩)<;>grind
  .rw[List.append_nil];exact y6
  .exact eY.FP y3
 .cases hu;subst g3;have g7:=λhc=>(g7' hc).2;obtain⟨Y,y1,y2,y3,y4,y5,y6⟩:=mk (some L.b);have hLb:0<cap->X.w.heap.size<=L.b:=λhc=>by have:=(g7 hc).2.2.2.2.1.1;rw[RY]at this;exact Nat.le_of_not_lt this
  obtain⟨W,w1,w2,w3,w4,w5,w6,w7⟩:=A7 (Z:=Z) (lv:=lv) (sl:=sl) (ai:=aO) y6 y1 (λb o h=>(y4 b o).2 (.inl h)) (by rw[y2,RY];exact hs.mem.low) (by rw[y3];exact hfr) g4 g5 g6 g7 λhc=>⟨λo h=>by
    rcases(y4 _ _).1 h with h|h;.exact(g7 hc).2.2.2.2.2.1 o h
    .exact h.2.2 rfl,λk u M hk hM xb=>by obtain⟨M',jY,h2⟩:=Df.cZ hk;rw[y3]at hM;have jY:X.ρ u=some M':=jY;rw[hM]at jY;injection jY with jY;subst jY;have:M.b<X.w.heap.size:=(h2 xb).1;have:=hLb hc;omega⟩;have hxW:Ext Y W:=⟨w3,by rw[w1];exact eu.refl _ _,λb o h=>by rw[w2];exact h,λb o _=>by rw[w1],w4,λb o h=>by rw[w2]at h;exact .inl h⟩;rw[<-y1,<-w1];refine hK W v (y5.trans hxW) (hb W ⟨w1.trans y1,λb o h=>by rw[w2];exact(y4 b o).2 (.inl h),λh=>absurd h (by omega),λh=>absurd h hpk⟩ w7) ?_ ?_;.show aH W (bz s.mem (dS s.mem ks++_)) s.aG;rw[jE];exact w6
  .refine⟨Nat.le_refl _,λu M hM=>?_⟩<;>grind
 .match us,hlen with|_::_::_,_=>simp[j4]at hu
end
end Go.bI
namespace Go.bI
open Go Go.RowKit
theorem r7{X Y:Cx}(hw:Y.w=X.w)(hF:∀b o,X.F b o->Y.F b o){x:AV}{v:Value}(h:AH x=true)(hv:VC X x v):VC Y x v:=by cases x with|d x=>show DR Y.w Y.F x v;rw[hw];exact DR.mono hF hv|_=>cases h
theorem xq{X Y:Cx}(hw:Y.w=X.w)(hF:∀b o,X.F b o->Y.F b o):∀{xs:List AV}{vs:List Value},xs.all AH=true->aC (VC X) xs vs->aC (VC Y) xs vs|[],[],_,_=>trivial|x::xs,v::vs,h,hv=>by simp only[List.all_cons,Bool.and_eq_true]at h;exact⟨r7 hw hF h.1 hv.1,xq hw hF h.2 hv.2⟩|[],_::_,_,hv=>hv.elim|_::_,[],_,hv=>hv.elim
theorem OV{X Y:Cx}(hw:Y.w=X.w)(hF:∀b o,X.F b o->Y.F b o){x:AV}{v:Value}(h:xg x=true)(hv:V1 X x v):V1 Y x v:=by cases x with|agg cs=>obtain⟨vs,rfl,hv⟩:=hv;exact⟨vs,rfl,xq hw hF h hv⟩|d x=>exact r7 (x:=.d x) hw hF h hv|_=>cases h
theorem A9{X Y:Cx}(hw:Y.w=X.w)(hF:∀b o,X.F b o->Y.F b o):∀{xs:List AV}{vs:List Value},xs.all xg=true->aC (V1 X) xs vs->aC (V1 Y) xs vs|[],[],_,_=>trivial|x::xs,v::vs,h,hv=>by simp only[List.all_cons,Bool.and_eq_true]at h;exact⟨OV hw hF h.1 hv.1,A9 hw hF h.2 hv.2⟩|[],_::_,_,hv=>hv.elim|_::_,[],_,hv=>hv.elim
theorem OW{X Y:Cx}(hw:Y.w=X.w)(hF:∀b o,X.F b o->Y.F b o){x:AV}{v:Value}(h:FC x=true)(hv:VR X x v):VR Y x v:=by cases x with|iF vs=>obtain⟨us,rfl,hv⟩:=hv;exact⟨us,rfl,A9 hw hF h hv⟩|agg cs=>obtain⟨vs,rfl,hv⟩:=hv;exact⟨vs,rfl,xq hw hF h hv⟩|d x=>exact r7 (x:=.d x) hw hF h hv|_=>cases h
theorem uA{X Y:Cx}(hw:Y.w=X.w)(hF:∀b o,X.F b o->Y.F b o){x y:AV}{v:Value}(h:og x=some y)(hv:VC X x v):VC Y y v:=by
 have data:∀{els a cap sz b o},v=.slice a els.length cap->els.length<=cap->(0<els.length->a=some ⟨b,o,none⟩)->eg X.w X.F X.F els b o sz->VC Y (.d (.sl els)) v:=by rintro els a cap sz b o rfl h2 h3 h4;refine DR.gp (b:=b) (o:=o) (sz:=sz) ?_ rfl h2 h3;rw[hw];exact h4.mono hF λq _ hq=>hF _ _ hq
 cases x with
 |d x=>cases h;exact r7 hw hF rfl hv|own els ow=>cases ow with|full=>cases h;obtain⟨a,b,o,sz,g1,g2,g3⟩:=hv<;>grind|cB ai tz=>cases h;obtain⟨a,b,o,sz,cap,g1,g2,g3,g4,_⟩:=hv<;>grind|bA=>cases h
 |_=>cases h
theorem yA{X Y:Cx}(hw:Y.w=X.w)(hF:∀b o,X.F b o->Y.F b o):∀{xs ys:List AV}{vs:List Value},jw xs=some ys->aC (VC X) xs vs->aC (VC Y) ys vs
 |[],ys,[],h,_=>by cases h;trivial|x::xs,ys,v::vs,h,hv=>by
  simp[jw]at h;split at h;.rename_i y ys' h1 h2;cases h;exact⟨uA hw hF h1 hv.1,yA hw hF h2 hv.2⟩
  grind|[],_,_::_,_,hv=>hv.elim|_::_,_,[],_,hv=>hv.elim
theorem yB:∀{xs ys:List AV},jw xs=some ys->ys.length=xs.length/\∀(j:Nat)(y:AV),ys[j]?=some y->∃x,xs[j]?=some x/\og x=some y
 |[],ys,h=>by cases h<;>grind|x::xs,ys,h=>by
  simp[jw]at h;split at h;.rename_i y ys' h1 h2;obtain⟨g1,g2⟩:=yB h2<;>grind
  grind
theorem OX{X Y:Cx}(hw:Y.w=X.w)(hF:∀b o,X.F b o->Y.F b o){x y:AV}{v:Value}(h:FD x=some y)(hv:VR X x v):V1 Y y v:=by have one:∀{x y:AV},og x=some y->VC X x v->V1 Y y v:=λ{x y}h hv=>.fy (uA hw hF h hv);cases x with|agg cs=>obtain⟨ys,h1,rfl⟩:=Option.map_eq_some_iff.1 h;obtain⟨vs,rfl,hv⟩:=hv;exact⟨vs,rfl,yA hw hF h1 hv⟩|d x=>exact one (x:=.d x) h hv|own els o=>exact one (x:=.own els o) h hv|_=>cases h
theorem Ba{X Y:Cx}(hw:Y.w=X.w)(hF:∀b o,X.F b o->Y.F b o):∀{xs ys:List AV}{vs:List Value},oh xs=some ys->aC (VR X) xs vs->aC (V1 Y) ys vs
 |[],ys,[],h,_=>by cases h;trivial|x::xs,ys,v::vs,h,hv=>by
  simp[oh]at h;split at h;.rename_i y ys' h1 h2;cases h;exact⟨OX hw hF h1 hv.1,Ba hw hF h2 hv.2⟩
  grind|[],_,_::_,_,hv=>hv.elim|_::_,_,[],_,hv=>hv.elim
theorem D0{m:List (Tr bC)}{lv sl ai:Nat}{cs:List AV}(h:gE m lv sl ai=some cs):aK m lv sl=some (.box ai cs):=by
 unfold gE at h;split at h;.split at h<;>simp_all
 grind
theorem KU{args rest:List AV}{lb sb vb:Nat}(h:om args=some (lb,sb,vb,rest)):args=.ptr lb sb vb 0 0::rest:=by
 unfold om at h;split at h;.split at h<;>simp_all
 grind
theorem Bb{cs:List AV}{lv sl:Nat}{e:bC}(h:aK (rN cs) lv sl=some e):lv=0/\sl=0/\e=.box 0 cs:=by
 unfold rN at h;rw[cr]at h;split at h;.grind
 .unfold aK at h;grind[Tr.get?]
theorem yC{cm:List (Tr bC)}{top lv sl ai:Nat}:∀{k:Nat}{xs ys:List AV},cL cm top 0 lv sl ai k xs=some (ys,[])->ys.length=xs.length/\∀j y,ys[j]?=some y->∃x,xs[j]?=some x/\bu cm top 0 (k+j) lv sl ai x=some (y,[])
 |_,[],ys,h=>by cases h<;>grind|k,x::xs,ys,h=>by
  simp[cL]at h;split at h;.rename_i y u ys' us h1 h2;simp at h;obtain⟨rfl,rfl,rfl⟩:=h;obtain⟨g1,g2⟩:=yC h2<;>grind
  grind
section
variable{P:Program}{X:Cx}{nt:Nat}{s:St}{a:Act}{o:Oper}{dst:Option Nat}{aO:Nat}
theorem RZ{call:Go.bI.Call}(cM:cI P call)(hs:fk X nt s a){f lb sb vb:Nat}{args:List AV}{bK:Array Value}{r:gB}(hargs:aC (VR X) (.ptr lb sb vb 0 0::args) bK.toList)(hr:rO call s f lb sb vb args=some r)(hrun:(∃fn,P.funcs[f]?=some fn/\fn.body.isSome=true/\(fn.name== "runtime.NumGoroutine")=false)->(execOp a.eval o).run P X.w=.ok (.enter f bK) X.w):dh P X s a o dst aO r:=by
 unfold rO at hr;split at hr;.cases hr
 rename_i cs hb;split at hr;rotate_left;.cases hr
 rename_i cs0 aJ hd0 hda;obtain⟨agG,aly⟩:=yB hd0;split at hr;.cases hr
 rename_i r' cm ts n' hc;split at hr;.cases hr
 rename_i cs' hb';split at hr;rotate_left;.cases hr
 rename_i ds val hi hir;split at hr;rotate_left;.cases hr
 rename_i ab4;rw[Bool.and_eq_true]at ab4;cases hr;have hg:=D0 hb;have hg':=D0 hb';obtain⟨L,hL,hcap,hblk,hF,hcells⟩:=hs.mem.eV _ _ _ hg;have hL:X.ρ vb=some L:=hL;have KV:Holds s.mem s.aG (bL lb sb) vb:=.inl ⟨lb,sb,_,rfl,hg,rfl,rfl⟩;have hLs:L.b<X.w.heap.size:=hblk.lt;let Z0:Cx:={w:=X.w,F:=X.F,ρ:=λv=>if v=0then some L else none,old:=λb=>b<X.w.heap.size/\b≠L.b};have hρ0:Z0.ρ 0=some L:=rfl;have hZ0:aH Z0 (rN cs0) .lf:=by
  refine⟨λlv sl e he=>?_,λv hv=>by simp at hv,λk k' v v' L1 L2 h1 h2 hne _ _ _ _=>?_,hs.mem.n8,λb h=>h.1,λb hb=>⟨hs.mem.low b (hs.mem.ql.gb b hb),λe=>hblk.1 (e▸hs.mem.ql.gb b hb)⟩,hs.mem.ql.gk⟩;.obtain⟨_,_,rfl⟩:=Bb he;refine⟨L,hρ0,hcap,⟨λh=>h.2 rfl,by rw[agG];exact hblk.2⟩,hF,λj y hj=>?_⟩;obtain⟨x,hx0,hxy⟩:=aly j y hj;obtain⟨v,hv,hvc⟩:=hcells j x hx0;exact⟨v,hv,uA (X:=X) (Y:=Z0) rfl (λ_ _ h=>h) hxy hvc⟩
  .have one:∀{k:Nat×Nat×Nat}{v:Nat},Holds (rN cs0) .lf k v->k=bL 0 0:=by
    rintro k v(⟨lv,sl,e,rfl,he,_,_⟩|⟨_,he⟩);.obtain⟨rfl,rfl,_⟩:=Bb he;rfl
    simp_all
   grind
 have hA:aC (V1 Z0) (.ptr 0 0 0 0 0::aJ) bK.toList:=by revert hargs;cases bK.toList with|nil=>exactλh=>h.elim|cons v0 vs=>intro h;refine⟨?_,Ba (X:=X) (Y:=Z0) rfl (λ_ _ h=>h) hda h.2⟩;obtain⟨L',hL',hv0⟩:=h.1;rw[hL]at hL';cases hL';exact⟨L,hρ0,hv0⟩
 obtain⟨hfn,qp⟩:=cM f _ _ _ _ r' cm ts n' hc Z0 bK hZ0 (λv hv=>if_neg (by omega)) hA;intro K Q hK;unfold Oper.wp;rw[hrun hfn];refine Calls.mono qp ?_;rintro e w'⟨Z,v,rfl,rfl,Ai,Wm,DZ,_,_⟩;have hZL:Z.ρ 0=some L:=Ai.loc 0 L hρ0;obtain⟨L2,hL2,_,agH,hF2,Wn⟩:=DZ.eV _ _ _ hg';have hL2:Z.ρ 0=some L2:=hL2;rw[hZL]at hL2;cases hL2;have agI:Holds cm ts (bL 0 0) 0:=.inl ⟨0,0,_,rfl,hg',rfl,rfl⟩;have hold:∀b,X.old b->b<X.w.heap.size/\b≠L.b:=λb hb=>⟨hs.mem.low b hb,λe=>hblk.1 (e▸hb)⟩;have aot:Z.old=λb=>b<X.w.heap.size/\b≠L.b:=Ai.base;have hnew:∀b o,Z.F b o->X.F b o\/¬(b<X.w.heap.size/\b≠L.b):=Ai.new;let Y:Cx:={w:=Z.w,F:=λb o=>Z.F b o\/(X.w.heap.size<=b/\b<Z.w.heap.size),ρ:=X.ρ,old:=X.old};have hx:Ext X Y:=by refine⟨rfl,Ai.below.mono hold,λb o h=>.inl (Ai.VY b o h),λb o h=>Ai.keep b o h,λ_ _ h=>h,λb o h=>?_⟩<;>grind
 have other:∀k u M,Holds (cj s.mem lb sb none) s.aG k u->X.ρ u=some M->0<M.cap->M.b<X.w.heap.size/\M.b≠L.b:=by
  intro k u M hk hu hc;have hk2:Holds s.mem s.aG k u/\k≠bL lb sb:=by
   rcases hk with⟨cG,dF,e,rfl,he,h1,h2⟩|⟨rfl,he⟩
   .rw[cr]at he;split at he;.cases he
    .rename_i hne;refine⟨.inl ⟨cG,dF,e,rfl,he,h1,h2⟩,λhq=>?_⟩;obtain⟨q1,q2⟩:=rR hq;subst q1 q2;unfold aK at hg<;>grind
   .exact⟨.inr ⟨rfl,he⟩,λhq=>ei hq.symm⟩
  obtain⟨M',jY,h3⟩:=hs.mem.cZ hk2.1;rw[hu]at jY;cases jY;exact⟨(h3 hc).1,hs.mem.apart _ _ _ _ _ _ hk2.1 KV hk2.2 hu hL hc (by omega)⟩
 have hY0:aH Y (cj s.mem lb sb none) s.aG:=by
  refine(hs.mem.erase lb sb).move hx (λk u M hk hu hc=>?_) (λk u M q hk hu hc h=>?_) λb q h=>?_;.exact Ai.below.block _ (other k u M hk hu hc)
  .grind
  .rcases h with h|h;.exact DZ.n8 b q h
   .exact h.2
 let Y':Cx:={Y with ρ:=Z.ρ};have agJ:Good Z cm 1 0 Y':=by refine⟨rfl,λb q h=>.inl h,λ_ _ _ h=>h,λ_ cG dF e M hlv he hz hM hc q=>?_⟩;obtain⟨M',jY,h3⟩:=DZ.cZ (.inl ⟨cG,dF,e,rfl,he,rfl,hz⟩);rw[hM]at jY;cases jY;have h4:=(h3 hc).2;have h5:M.b≠L.b:=DZ.apart (bL cG dF) (bL 0 0) _ _ _ _ (.inl ⟨cG,dF,e,rfl,he,rfl,hz⟩) agI (λhq=>by have:=(rR hq).1;omega) hM hZL hc (by omega)<;>grind
 have hval:VR Y val v:=by
  rcases FZ DZ hir Wm with⟨_,hb⟩|⟨_,_,_,_,h,_⟩|h;.exact OW (X:=Y') (Y:=Y) rfl (λ_ _ h=>h) ab4.2 (hb Y' agJ)
  .cases h
  .simp at h
 obtain⟨hlen,hat⟩:=yC hi;have alB:mM Y (.box vb ds) L:=by
  refine⟨hcap,⟨hblk.1,by rw[hlen];exact agH.2⟩,λq h=>?_,λj y hj=>?_⟩;.grind
  .obtain⟨x,q1,q2⟩:=hat j y hj;obtain⟨u,hu,hvc⟩:=Wn j x q1;refine⟨u,hu,r7 (X:=Y') (Y:=Y) rfl (λ_ _ h=>h) (List.all_eq_true.1 ab4.1 y (List.mem_of_getElem? hj)) ?_⟩;rcases xp DZ q2 hvc with⟨_,hb⟩|⟨_,_,_,_,h,_⟩|h<;>grind
 refine hK Y v hx hval ?_ (eY.FP rfl);exact hY0.reset hL alB λk u M hk hu hc _=>(other k u M hk hu hc).2
end
end Go.bI
