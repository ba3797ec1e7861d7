/- A part of the proof: EngQ, EngR. -/
import Derived.Test.YtkdilffhbejjaaaGreatEngCompact
set_option linter.unusedVariables false
set_option linter.unusedSimpArgs false
namespace Go.bM
open Go Go.RowKit
def eo(P:Program)(call:Go.bM.Call):Prop:=∀f args mem aK nv r mem' oV HJ,call f args mem aK nv=some (r,mem',oV,HJ)->∀(X:Cx)(cL:Array Value),aH X mem aK->(∀v,nv<=v->X.ρ v=none)->aE (V1 X) args cL.toList->(∃fn,P.funcs[f]?=some fn/\fn.body.isSome=true/\(fn.name== "runtime.NumGoroutine")=false)/\Calls P f cL X.w λe w'=>∃Y v,e=.returned v/\Y.w=w'/\Ext X Y/\VR Y r v/\aH Y mem' oV/\nv<=HJ/\∀u L,Y.ρ u=some L->X.ρ u=some L\/(nv<=u/\u<HJ)
theorem DR.mono{w:World}{F G:Nat->Nat->Prop}(h:∀b o,F b o->G b o){x:D}{v:Value}(hd:DR w F x v):DR w G x v:=by induction hd with|sc v h1=>exact .sc v h1|er v h1=>exact .er v h1|sl els a n cap sz b o g hn hcap hsz ha hF hc _ ih=>exact .sl els a n cap sz b o g hn hcap hsz ha (λi e j x h1 h2=>h _ _ (hF i e j x h1 h2)) hc ih
theorem eS.mono{w:World}{F G R S:Nat->Nat->Prop}(h:∀b o,F b o->G b o){els:List (List D)}{b o sz:Nat}(QK:∀q,(∃v,w.cell? ⟨b,q,none⟩=some v)->R b q->S b q)(hl:eS w F R els b o sz):eS w G S els b o sz:=⟨hl.1,λi e j x h1 h2=>by obtain⟨hF,v,hv,hd⟩:=hl.2 i e j x h1 h2;exact⟨QK _ ⟨v,hv⟩ hF,v,hv,hd.mono h⟩⟩
theorem M7{w:World}{b o:Nat}(h:∃v,w.cell? ⟨b,o,none⟩=some v):b<w.heap.size:=by obtain⟨v,hv⟩:=h;exact World.block_lt_of_cell? w ⟨b,o,none⟩ hv
def Cx.inner(X:Cx):Cx:={w:=X.w,F:=X.F,ρ:=λ_=>none,old:=λb=>b<X.w.heap.size}
theorem Gl{X Y:Cx}{f:Nat}{v:Value}(h:VC X (.fk f []) v):VC Y (.fk f []) v:=by grind[H6,aE,VC]
section
variable{X:Cx}{m:List (Tr bH)}{t:Tr Unit}
theorem mR(h:aH X m t)(ks:List (Nat×Nat)){x y:AV}{v:Value}(hx:cX m x=some y)(hv:VC X x v):VC (X.mN m ks).inner y v:=by
 have hex:=qO h ks;have hsub:∀b o,X.F b o->(X.mN m ks).F b o:=λ_ _=>.inl;have data:∀{els a cap sz b o},v=.slice a els.length cap->els.length<=cap->(0<els.length->a=some ⟨b,o,none⟩)->eS X.w X.F X.F els b o sz->VC (X.mN m ks).inner (.d (.sl els)) v:=by rintro els a cap sz b o rfl h2 h3 h4;exact DR.ja (h4.ext hex) rfl h2 h3
 have Ru:∀{els a cap sz b o}{R:Nat->Nat->Prop},v=.slice a els.length cap->els.length<=cap->(0<els.length->a=some ⟨b,o,none⟩)->eS X.w X.F R els b o sz->VC (X.mN m ks).inner (.own els .bC) v:=by rintro els a cap sz b o R rfl h2 h3 h4;exact⟨a,b,o,sz,cap,rfl,h2,h3,h4.mono hsub λq hq _=>M7 hq⟩
 cases x with
 |d x=>cases hx;exact DR.ext hex hv|own els ow=>cases ow with|full=>cases hx;obtain⟨a,b,o,sz,h1,h2,h3⟩:=hv;exact data h1 (bc _) h2 h3|cK au tz=>cases hx;obtain⟨a,b,o,sz,cap,h1,h2,h3,h4,_⟩:=hv;exact data h1 h2 (λh=>h3 (by omega)) h4|bC=>cases hx;obtain⟨a,b,o,sz,cap,h1,h2,h3,h4⟩:=hv;exact Ru h1 h2 h3 h4
 |ref lv sl au off len sz=>simp only[cX]at hx;cases he:dG m (.ref lv sl au off len sz)with|none=>grind|some els=>rw[he]at hx;cases hx;obtain⟨a,cap,sz',b,o,h1,h2,h3,h4⟩:=sw h he (.kz hv);exact Ru h1 h2 h3 h4
 |fk f c=>cases c with|nil=>cases hx;exact Gl hv|cons=>cases hx
 |_=>cases hx
theorem y9(h:aH X m t){ks k:List (Nat×Nat)}{x y:AV}{v:Value}(hx:eR m x=some (y,k))(hv:VC X x v)(hk:∀p∈k,p∈ks):VC (X.mN m ks).inner y v:=by
 have amv:∀{x},(An m x).map (λp=>(AV.d p.1,p.2))=some (y,k)->VC X x v->VC (X.mN m ks).inner y v:=by intro x hx hv;cases hd:An m x with|none=>rw[hd]at hx;cases hx|some p=>rw[hd]at hx;injection hx with hx;injection hx with h1 h2;subst h1;exact Rh h (ks:=ks) hd hv λq hq=>hk q (by rw[<-h2];exact hq)
 unfold eR at hx;split at hx;.cases hx;exact mR h ks rfl hv
 .cases hx;exact mR h ks rfl hv
 .exact amv hx hv
theorem vY(h:aH X m t){ks:List (Nat×Nat)}:∀{xs ys:List AV}{k:List (Nat×Nat)}{vs:List Value},fG m xs=some (ys,k)->aE (VC X) xs vs->(∀p∈k,p∈ks)->aE (VC (X.mN m ks).inner) ys vs
 |[],ys,k,[],hx,_,_=>by cases hx;trivial|x::xs,ys,k,v::vs,hx,hv,hk=>by
  simp[fG]at hx;split at hx;.rename_i y k1 ys' k2 h1 h2;cases hx;exact⟨y9 h h1 hv.1 λp hp=>hk p (by simp[hp]),vY h h2 hv.2 λp hp=>hk p (by simp[hp])⟩
  grind|[],_,_,_::_,_,hv,_=>hv.elim|_::_,_,_,[],_,hv,_=>hv.elim
theorem M8(h:aH X m t){ks k:List (Nat×Nat)}{x y:AV}{v:Value}(hx:xC m x=some (y,k))(hv:VR X x v)(hk:∀p∈k,p∈ks):V1 (X.mN m ks).inner y v:=by
 have one:∀{x:AV},(cX m x).map (λy=>(y,([]:List (Nat×Nat))))=some (y,k)->VC X x v->V1 (X.mN m ks).inner y v:=by intro x hx hv;cases hd:cX m x with|none=>grind|some y'=>rw[hd]at hx;cases hx;exact .kz (mR h ks hd hv)
 cases x with
 |agg cs=>simp only[xC]at hx;cases hd:fG m cs with|none=>grind|some p=>rw[hd]at hx;injection hx with hx;injection hx with h1 h2;subst h1;obtain⟨vs,rfl,h3⟩:=hv;exact⟨vs,rfl,vY h (k:=p.2) hd h3 λq hq=>hk q (by rw[<-h2];exact hq)⟩
 |jF cs=>simp[xC,cX]at hx|_=>simp only[xC]at hx;exact one hx hv
theorem Iq(h:aH X m t){ks:List (Nat×Nat)}:∀{xs ys:List AV}{k:List (Nat×Nat)}{vs:List Value},rO m xs=some (ys,k)->aE (VR X) xs vs->(∀p∈k,p∈ks)->aE (V1 (X.mN m ks).inner) ys vs
 |[],ys,k,[],hx,_,_=>by cases hx;trivial|x::xs,ys,k,v::vs,hx,hv,hk=>by
  simp[rO]at hx;split at hx;.rename_i y k1 ys' k2 h1 h2;cases hx;exact⟨M8 h h1 hv.1 λp hp=>hk p (by simp[hp]),Iq h h2 hv.2 λp hp=>hk p (by simp[hp])⟩
  grind|[],_,_,_::_,_,hv,_=>hv.elim|_::_,_,_,[],_,hv,_=>hv.elim
theorem Xs(h:aH X m t){ks k:List (Nat×Nat)}{x y:AV}{v:Value}(hx:xD m x=some (y,k))(hv:VR X x v)(hk:∀p∈k,p∈ks):V1 (X.mN m ks).inner y v:=by cases x with|agg cs=>exact M8 h (x:=.agg cs) hx hv hk|jF cs=>simp[xD,eR,An]at hx|_=>simp only[xD]at hx;exact .kz (y9 h hx hv hk)
theorem Ir(h:aH X m t){ks:List (Nat×Nat)}:∀{xs ys:List AV}{k:List (Nat×Nat)}{vs:List Value},rP m xs=some (ys,k)->aE (VR X) xs vs->(∀p∈k,p∈ks)->aE (V1 (X.mN m ks).inner) ys vs
 |[],ys,k,[],hx,_,_=>by cases hx;trivial|x::xs,ys,k,v::vs,hx,hv,hk=>by
  simp[rP]at hx;split at hx;.rename_i y k1 ys' k2 h1 h2;cases hx;exact⟨Xs h h1 hv.1 λp hp=>hk p (bj.2 (.inl hp)),Ir h h2 hv.2 λp hp=>hk p (bj.2 (.inr hp))⟩
  grind|[],_,_,_::_,_,hv,_=>hv.elim|_::_,_,_,[],_,hv,_=>hv.elim
theorem Es(h:aH X m t)(ks:List (Nat×Nat)):∀{xs ys:List AV}{vs:List Value},pM m xs=some ys->aE (VC X) xs vs->aE (VC (X.mN m ks).inner) ys vs
 |[],ys,[],hx,_=>by cases hx;trivial|x::xs,ys,v::vs,hx,hv=>by
  simp[pM]at hx;split at hx;.rename_i y ys' h1 h2;cases hx;exact⟨mR h ks h1 hv.1,Es h ks h2 hv.2⟩
  grind|[],_,_::_,_,hv=>hv.elim|_::_,_,[],_,hv=>hv.elim
theorem Rw(h:aH X m t)(ks:List (Nat×Nat)){x y:AV}{v:Value}(hx:rQ m x=some y)(hv:VR X x v):V1 (X.mN m ks).inner y v:=by cases x with
 |agg cs=>simp only[rQ]at hx;cases h1:pM m cs with|none=>grind|some z=>rw[h1]at hx;cases hx;obtain⟨vs,rfl,h3⟩:=hv;exact⟨vs,rfl,Es h ks h1 h3⟩
 |jF cs=>simp[rQ,cX]at hx|_=>simp only[rQ]at hx;exact .kz (mR h ks hx hv)
theorem Et(h:aH X m t)(ks:List (Nat×Nat)):∀{xs ys:List AV}{vs:List Value},qH m xs=some ys->aE (VR X) xs vs->aE (V1 (X.mN m ks).inner) ys vs
 |[],ys,[],hx,_=>by cases hx;trivial|x::xs,ys,v::vs,hx,hv=>by
  simp[qH]at hx;split at hx;.rename_i y ys' h1 h2;cases hx;exact⟨Rw h ks h1 hv.1,Et h ks h2 hv.2⟩
  grind|[],_,_::_,_,hv=>hv.elim|_::_,_,[],_,hv=>hv.elim
theorem OD(h:aH X m t):aH X.inner [.lf] .lf:=by
 refine⟨λlv sl e he=>?_,λv hv=>by simp at hv,λk k' v v' L L' _ _ _ hv _ _ _=>?_,h.p7,λ_ h=>h,λb hb=>h.low b (h.Aq.gb b hb),h.Aq.gk⟩;.unfold aN at he;grind[Tr.get?,oU,bH.au,Cx.inner]
 .cases hv
end
structure Rx(Z:Cx)(top:Nat)(cm:List (Tr bH))(els:List (List D))(len sz:Nat)(v:Value):Prop where row:∃L off a cap,v=.slice a len cap/\len<=cap/\els.length=len/\(∀e∈els,e.length=sz)/\(0<cap->(∃cM cZ e,top<=cM/\(aN cm cM cZ=some e/\e.fz=false)/\Z.ρ e.au=some L)/\a=some ⟨L.b,L.o+off*sz,none⟩/\off+cap<=L.cap/\L.sz=sz/\0<L.cap/\Block Z L.b (L.o+L.cap*L.sz)/\(∀o,¬Z.F L.b o)/\∀i e j x,els[i]?=some e->e[j]?=some x->∃u,Z.w.cell? ⟨L.b,L.o+off*sz+i*sz+j,none⟩=some u/\DR Z.w Z.F x u)
section
variable{Z Y:Cx}{cm:List (Tr bH)}{ts:Tr Unit}
theorem By(h:aH Z cm ts){top pk k lv sl au:Nat}(hw:Y.w=Z.w)(hF:∀b o,Z.F b o->Y.F b o)(hρ:0<top->∀v L,Z.ρ v=some L->Y.ρ v=some L)(hfz:pk=0->∀cM cZ e L,top<=cM->aN cm cM cZ=some e->e.fz=false->Z.ρ e.au=some L->0<L.cap->∀o,Y.F L.b o){x y:AV}{us:List (List (List D))}{v:Value}(hx:bA cm top pk k lv sl au x=some (y,us))(hv:VC Z x v):(us=[]/\VC Y y v)\/∃els len sz,us=[els]/\y=.ref lv sl au 0 len sz/\pk≠0/\Rx Z top cm els len sz v:=by
 have data:∀{els a cap sz b o},v=.slice a els.length cap->els.length<=cap->(0<els.length->a=some ⟨b,o,none⟩)->eS Z.w Z.F Z.F els b o sz->VC Y (.d (.sl els)) v:=by rintro els a cap sz b o rfl h2 h3 h4;refine DR.ja (b:=b) (o:=o) (sz:=sz) ?_ rfl h2 h3;rw[hw];exact h4.mono hF λq _ hq=>hF _ _ hq
 cases x with
 |d x=>injection hx with hx;injection hx with h1 h2;subst h1;refine .inl ⟨h2.symm,?_⟩;show DR Y.w Y.F x v;rw[hw];exact DR.mono hF hv|own els ow=>cases ow with
  |full=>
   simp[bA]at hx;obtain⟨a,b,o,sz,g1,g2,g3⟩:=hv;split at hx
   .rename_i hq;injection hx with hx;injection hx with h1 h2;subst h1;have hpk:pk≠0:=by intro e;subst e;simp at hq
    exact .inr ⟨[],0,pk/65536,h2.symm,rfl,hpk,⟨⟨0,0,0,0⟩,0,a,0,g1,bc _,rfl,λ_ h=>(by cases h),λh=>absurd h (by omega)⟩⟩
   .split at hx;.injection hx with hx;injection hx with h1 h2;subst h1;refine .inl ⟨h2.symm,a,b,o,sz,g1,g2,?_⟩;rw[hw];exact g3.mono hF λq _ hq=>hF _ _ hq
    grind|cK au tz=>
   simp[bA]at hx;obtain⟨a,b,o,sz,cap,g1,g2,g3,g4,g5,g6⟩:=hv;split at hx
   .rename_i hk;injection hx with hx;injection hx with h1 h2;subst h1;have ht:0<top:=by
     have:=(Bool.and_eq_true_iff.1 hk).2;rcases Nat.eq_zero_or_pos top with e|e;.rw[e]at this;cases this
     .exact e
    refine .inl ⟨h2.symm,a,b,o,sz,cap,g1,g2,g3,?_,hρ ht _ _ g5,g6⟩;rw[hw];exact g4.mono hF λq _ hq=>hF _ _ hq
   grind|bC=>cases hx
 |ref cM cZ gF off len sz=>simp[bA]at hx;cases hb:Nat.ble top cM with|false=>
   rw[hb]at hx;injection hx with hx;injection hx with h1 h2;subst h1;have ht:0<top:=by
    have:¬top<=cM:=λhle=>by rw[pp hle]at hb;cases hb
    omega
   obtain⟨L,a,cap,g1,g2⟩:=hv;exact .inl ⟨h2.symm,L,a,cap,hρ ht _ _ g1,g2⟩|true=>rw[hb]at hx;have hle:top<=cM:=f1 hb;cases he:dG cm (.ref cM cZ gF off len sz)with|none=>grind|some els=>rw[he]at hx;simp at hx;obtain⟨L',a,cap,hL',g1,rfl,g3,g4⟩:=hv;simp[dG]at he;cases hr:rN cm cM cZ gF with|none=>grind|some els'=>
     rw[hr]at he;simp only[ae]at he;split at he
     .cases he;obtain⟨L,hL,hE1,hE⟩:=Bh h hr;rw[hL]at hL';injection hL' with hL';subst hL';have hlen:((els'.drop off).take len).length=len:=by grind
      have hsz:∀e∈(els'.drop off).take len,e.length=sz:=λf hf=>by rw[hE.1 f (ns (kh hf)),g1]
      split at hx
      .rename_i hpk;injection hx with hx;injection hx with h1 h2;subst h1;refine .inl ⟨h2.symm,?_⟩;have hpk:=beq_true.1 hpk;have hl:=(hE.region (S:=Y.F) λb o hq=>hq.elim (hF b o) λhq=>by obtain⟨e,M,q1,q2,q3,rfl,q5⟩:=kN hq;exact hfz hpk cM cZ e M hle q1 q5 q2 q3 o).sub off len;refine DR.ja (b:=L.b) (o:=L.o+off*L.sz) (sz:=L.sz) ?_ hlen g3 λh0=>by rw[(g4 (by omega)).1,g1]
       rw[hw];exact hl.mono hF λq _ hq=>hq
      .rename_i hpk;have hpk:=beq_false.1 hpk;split at hx
       .split at hx
        .rename_i xI pP;injection hx with hx;injection hx with h1 h2;subst h1;obtain⟨L2,hL2,hE2,hg⟩:=mQ h pP;have Bk:xI=els':=by have hr':=hr;unfold rN at hr'<;>grind
         subst Bk;rw[hL]at hL2;cases hL2;refine .inr ⟨_,len,sz,h2.symm,rfl,hpk,⟨L,off,a,cap,rfl,g3,hlen,hsz,λhc=>?_⟩⟩;obtain⟨k1,k2⟩:=g4 hc;have hc0:0<L.cap:=by omega
         refine⟨⟨cM,cZ,_,hle,⟨hg,rfl⟩,hL⟩,k1,k2,g1,hc0,(hE2.2.2.1 hc0).1,(hE2.2.2.1 hc0).2,λi e j x hi hj=>?_⟩;obtain⟨u,hu,hd⟩:=hE2.2.2.2 (off+i) e j x (eB hi).1 hj<;>grind
        grind
       .split at hx;.cases hx
        .rename_i pP;injection hx with hx;injection hx with h1 h2;subst h1;refine .inl ⟨h2.symm,?_⟩;have hl:=(hE.region (S:=Y.F) λb o hq=>hq.elim (hF b o) λhq=>by exfalso;obtain⟨e,M,q1,q2,q3,rfl,q5⟩:=kN hq;have q1:aN cm cM cZ=some e:=q1;unfold rN at hr;unfold rowAt at pP;rw[q1]at hr pP;cases e with|row v els=>simp only at hr pP;rw[hr]at pP;cases pP|box v cs=>cases hr|mp v ks=>cases hr|Of v els=>cases q5).sub off len;refine DR.ja (b:=L.b) (o:=L.o+off*L.sz) (sz:=L.sz) ?_ hlen g3 λh0=>by rw[(g4 (by omega)).1,g1]
         rw[hw];exact hl.mono hF λq _ hq=>hq
     grind
 |ptr cM cZ gF i off=>
  simp[bA]at hx;cases hb:Nat.ble top cM with|false=>
   rw[hb]at hx;injection hx with hx;injection hx with h1 h2;subst h1;have ht:0<top:=by
    have:¬top<=cM:=λhle=>by rw[pp hle]at hb;cases hb
    omega
   obtain⟨L,g1,g2⟩:=hv;exact .inl ⟨h2.symm,L,hρ ht _ _ g1,g2⟩|true=>rw[hb]at hx;cases hx
 |fk f c=>cases c with|nil=>injection hx with hx;injection hx with h1 h2;subst h1;exact .inl ⟨h2.symm,Gl hv⟩|cons=>cases hx
 |_=>cases hx
end
end Go.bM
namespace Go.bM
open Go Go.RowKit
structure Good(Z:Cx)(cm:List (Tr bH))(top pk:Nat)(Y:Cx):Prop where
 w:Y.w=Z.w
 F:∀b o,Z.F b o->Y.F b o
 ρ:0<top->∀v L,Z.ρ v=some L->Y.ρ v=some L
 fz:pk=0->∀cM cZ e L,top<=cM->aN cm cM cZ=some e->e.fz=false->Z.ρ e.au=some L->0<L.cap->∀o,Y.F L.b o
def dW{α:Type}(Z:Cx)(cm:List (Tr bH))(top pk lv sl au:Nat)(R:Cx->α->Prop)(y:α)(us:List (List (List D))):Prop:=(us=[]/\∀Y,Good Z cm top pk Y->R Y y)\/(∃els len sz v',us=[els]/\(pk≠0/\Rx Z top cm els len sz v')/\∀Y,Good Z cm top pk Y->VC Y (.ref lv sl au 0 len sz) v'->R Y y)\/2<=us.length
theorem dW.map{α β:Type}{Z:Cx}{cm:List (Tr bH)}{top pk lv sl au:Nat}{R:Cx->α->Prop}{S:Cx->β->Prop}{y:α}{z:β}{us:List (List (List D))}(h:dW Z cm top pk lv sl au R y us)(QK:∀Y,R Y y->S Y z):dW Z cm top pk lv sl au S z us:=by grind[dW]
theorem dW.pair{α β γ:Type}{Z:Cx}{cm:List (Tr bH)}{top pk lv sl au:Nat}{R:Cx->α->Prop}{S:Cx->β->Prop}{T:Cx->γ->Prop}{y:α}{z:β}{x:γ}{us vs:List (List (List D))}(h:dW Z cm top pk lv sl au R y us)(k:dW Z cm top pk lv sl au S z vs)(QK:∀Y,R Y y->S Y z->T Y x):dW Z cm top pk lv sl au T x (us++vs):=by grind[dW]
section
variable{Z:Cx}{cm:List (Tr bH)}{ts:Tr Unit}{top pk lv sl au:Nat}
theorem Eu(h:aH Z cm ts){k:Nat}{x y:AV}{us:List (List (List D))}{v:Value}(hx:bA cm top pk k lv sl au x=some (y,us))(hv:VC Z x v):dW Z cm top pk lv sl au (λY y=>VC Y y v) y us:=by
 by_cases hu:us=[];.refine .inl ⟨hu,λY hY=>?_⟩;rcases By h hY.w hY.F hY.ρ hY.fz hx hv with⟨_,h⟩|⟨_,_,_,h,_⟩<;>grind
 .rcases By (Y:={Z with F:=λ_ _=>True}) h rfl (λ_ _ _=>trivial) (λ_ _ _ h=>h) (λ_ _ _ _ _ _ _ _ _ _ _=>trivial) hx hv with⟨h,_⟩|⟨els,len,sz,h1,rfl,h2,h3⟩<;>grind[bA,VC,dW]
theorem Bz(h:aH Z cm ts):∀{k:Nat}{xs ys:List AV}{us:List (List (List D))}{vs:List Value},dH cm top pk lv sl au k xs=some (ys,us)->aE (VC Z) xs vs->dW Z cm top pk lv sl au (λY ys=>aE (VC Y) ys vs) ys us
 |k,[],ys,us,[],hx,_=>by grind[dH,VC,aE,dW]|k,x::xs,ys,us,v::vs,hx,hv=>by
  simp[dH]at hx;split at hx;.rename_i y u ys' us' h1 h2;cases hx;exact(Eu h h1 hv.1).pair (Bz h h2 hv.2) λY a b=>⟨a,b⟩
  grind|_,[],_,_,_::_,_,hv=>hv.elim|_,_::_,_,_,[],_,hv=>hv.elim
theorem Ry(h:aH Z cm ts){k:Nat}{x y:AV}{us:List (List (List D))}{v:Value}(hx:lM cm top pk lv sl au k x=some (y,us))(hv:V1 Z x v):dW Z cm top pk lv sl au (λY y=>V1 Y y v) y us:=by cases x with
 |agg cs=>simp only[lM]at hx;cases hd:dH cm top pk lv sl au k cs with|none=>grind|some p=>rw[hd]at hx;cases hx;obtain⟨vs,rfl,h3⟩:=hv;exact(Bz h (us:=p.2) hd h3).map λY h=>⟨vs,rfl,h⟩
 |jF cs=>cases hx|_=>simp only[lM]at hx;exact(Eu h hx hv).map λY h=>.kz h
theorem Is(h:aH Z cm ts):∀{k:Nat}{xs ys:List AV}{us:List (List (List D))}{vs:List Value},fX cm top pk lv sl au k xs=some (ys,us)->aE (V1 Z) xs vs->dW Z cm top pk lv sl au (λY ys=>aE (V1 Y) ys vs) ys us
 |k,[],ys,us,[],hx,_=>by grind[fX,V1,aE,dW]|k,x::xs,ys,us,v::vs,hx,hv=>by
  simp[fX]at hx;split at hx;.rename_i y u ys' us' h1 h2;cases hx;exact(Ry h h1 hv.1).pair (Is h h2 hv.2) λY a b=>⟨a,b⟩
  grind|_,[],_,_,_::_,_,hv=>hv.elim|_,_::_,_,_,[],_,hv=>hv.elim
theorem KZ(h:aH Z cm ts){x y:AV}{us:List (List (List D))}{v:Value}(hx:iN cm top pk lv sl au x=some (y,us))(hv:VR Z x v):dW Z cm top pk lv sl au (λY y=>VR Y y v) y us:=by cases x with
 |jF cs=>simp only[iN]at hx;cases hd:fX cm top pk lv sl au 1 cs with|none=>grind|some p=>rw[hd]at hx;cases hx;obtain⟨vs,rfl,h3⟩:=hv;exact(Is h (us:=p.2) hd h3).map λY h=>⟨vs,rfl,h⟩
 |_=>simp only[iN]at hx;exact(Ry h hx hv).map λY h=>.vK h
theorem BA{Y:Cx}{m:List (Tr bH)}{t:Tr Unit}{els:List (List D)}{len sz off cap:Nat}{a:Option Addr}{L:Loc}(hm:aH Y m t)(hw:Y.w=Z.w)(hF:∀b o,Z.F b o->Y.F b o)(hb:∀b,Y.old b->Z.old b)(hfr:Y.ρ au=none)(h1:len<=cap)(h2:els.length=len)(h3:∀e∈els,e.length=sz)(h4:0<cap->a=some ⟨L.b,L.o+off*sz,none⟩/\off+cap<=L.cap/\L.sz=sz/\0<L.cap/\Block Z L.b (L.o+L.cap*L.sz)/\(∀o,¬Z.F L.b o)/\∀i e j x,els[i]?=some e->e[j]?=some x->∃u,Z.w.cell? ⟨L.b,L.o+off*sz+i*sz+j,none⟩=some u/\DR Z.w Z.F x u)(hno:0<cap->(∀o,¬Y.F L.b o)/\∀k u M,Holds m t k u->Y.ρ u=some M->0<M.cap->M.b≠L.b):∃W:Cx,W.w=Y.w/\W.F=Y.F/\W.old=Y.old/\(∀u M,Y.ρ u=some M->W.ρ u=some M)/\(∀u M,W.ρ u=some M->Y.ρ u=some M\/u=au)/\aH W (cC m lv sl (some (.row au els))) t/\VC W (.ref lv sl au 0 len sz) (.slice a len cap):=by
 let L':Loc:=⟨L.b,L.o+off*sz,sz,cap⟩;refine⟨Y.name au L',rfl,rfl,rfl,(ez hfr).loc,λu M hu=>?_,?_,L',a,cap,eT,rfl,rfl,h1,λhc=>⟨by rw[(h4 hc).1];simp[L'],by simp[L']⟩⟩;.grind[Cx.name,Holds,Block]
 .refine(gI hm hfr).add (e:=.row au els) (L:=L') eT ⟨by rw[h2];exact h1,h3,λhc=>?_,λi e j x hi hj=>?_⟩ λk u M hk _ hu xB hc=>?_;.obtain⟨g1,g2,g3,g4,⟨g5,C,ce,g6,g7⟩,g8,_⟩:=h4 hc;refine⟨⟨λq=>g5 (hb _ q),C,ce,by show Y.w.heap[L.b]?=_;rw[hw];exact g6,?_⟩,(hno hc).1⟩;have:=dE sz g2<;>grind
  .have hi':i<els.length:=(cf.1 hi).1;obtain⟨u,hu,hd⟩:=(h4 (by omega)).2.2.2.2.2.2 i e j x hi hj;refine⟨u,?_,?_⟩;.grind[Holds,Block,Cx.name]
   .show DR Y.w Y.F x u;rw[hw];exact hd.mono hF
  .obtain⟨M',lP,_⟩:=hm.dV hk<;>grind[Cx.name,cB,Holds,Block]
end
theorem mS(m:List (Tr bH))(k lv sl:Nat):aN (m.take k) lv sl=if lv<k then aN m lv sl else none:=by grind[aN]
section
variable{P:Program}{X:Cx}{nt:NT}{s:St}{a:Act}{o:Oper}{dst:Option Nat}{aT:Nat}
theorem BB{call:Go.bM.Call}(cH:eo P call)(hs:fu X nt s a)(hfr:X.ρ aT=none){f pk lv sl:Nat}{cL:Array Value}{aO:List AV}{ks:List (Nat×Nat)}{r val:AV}{cm:List (Tr bH)}{ts:Tr Unit}{n':Nat}{us:List (List (List D))}{u:List (Nat×Nat×Option bH)}{rd:List (Nat×Nat×Nat)}(hV:aE (V1 (X.mN s.mem ks).inner) aO cL.toList)(hc:call f aO [.lf] .lf 0=some (r,cm,ts,n'))(hi:iN cm 0 pk lv sl aT r=some (val,us))(hu:kK lv sl aT us=some u)(hrun:(∃fn,P.funcs[f]?=some fn/\fn.body.isSome=true/\(fn.name== "runtime.NumGoroutine")=false)->(execOp a.eval o).run P X.w=.ok (.enter f cL) X.w):dI P X s a o dst aT (.ck {val,di:=ew s.mem ks++u,cK:=[],rd}):=by
 intro K Q hK;have DQ:=F2 hs.mem ks;have hx1:=qO hs.mem ks;obtain⟨hfn,uW⟩:=cH f aO [.lf] .lf 0 r cm ts n' hc (X.mN s.mem ks).inner cL (OD DQ) (λ_ _=>rfl) hV;unfold Oper.wp;rw[hrun hfn];refine Calls.mono uW ?_;rintro e w'⟨Z,v,rfl,rfl,Gm,hvZ,OF,_,_⟩;have hblk:∀b,b<X.w.heap.size->Z.w.heap[b]?=X.w.heap[b]?:=λb hb=>Gm.below.block b hb;have Rz:Z.old=λb=>b<X.w.heap.size:=Gm.base;have hZF:∀b o,Z.F b o->(X.mN s.mem ks).F b o\/X.w.heap.size<=b:=λb o h=>(Gm.new b o h).imp id λh=>Nat.le_of_not_lt h;have mk:∀(p:Option Nat),∃Y:Cx,Y.w=Z.w/\Y.old=X.old/\Y.ρ=X.ρ/\(∀b o,Y.F b o↔Z.F b o\/(X.w.heap.size<=b/\b<Z.w.heap.size/\some b≠p))/\Ext X Y/\aH Y (bF s.mem (ew s.mem ks)) s.aK:=by
  intro p;let Y:Cx:={w:=Z.w,F:=λb o=>Z.F b o\/(X.w.heap.size<=b/\b<Z.w.heap.size/\some b≠p),ρ:=X.ρ,old:=X.old};have hx:Ext (X.mN s.mem ks) Y:=by
   refine⟨rfl,Gm.below.mono hs.mem.low,λb o h=>.inl (Gm.Zw b o h),λb o h=>?_,λ_ _ h=>h,λb o h=>?_⟩;.exact Gm.keep b o h
   .rcases h with h|h;.exact(hZF b o h).imp id λh q=>pd _ (i7 (hs.mem.low _ q) h)
    .exact .inr λq=>pd _ (i7 (hs.mem.low _ q) h.1)
  refine⟨Y,rfl,rfl,rfl,λ_ _=>xr,hx1.trans hx,DQ.move hx (λk v L hk hv hc=>?_) (λk v L o hk hv hc h=>?_) λb o h=>?_⟩;.obtain⟨M,hM,h2⟩:=DQ.dV hk;rw[hv]at hM;cases hM;exact hblk _ (h2 hc).1
  .obtain⟨M,hM,h2⟩:=DQ.dV hk;rw[hv]at hM;cases hM;have:=(h2 hc).1;have this:L.b<X.w.heap.size:=this<;>grind
  .rcases h with h|h;.exact OF.p7 b o h
   grind
 rcases KZ OF hi hvZ with⟨rfl,hb⟩|⟨els,len,sz,v',rfl,⟨hpk,⟨L,off,ad,cap,g3,g4,g5,g6,g7'⟩⟩,hb⟩|hlen
 .cases hu;obtain⟨Y,y1,y2,y3,y4,y5,y6⟩:=mk none;rw[<-y1];refine hK Y v y5 (hb Y ⟨y1,λb o h=>(y4 b o).2 (.inl h),λh=>absurd h (by omega),λ_ cM cZ e L _ hg hz hL hc o=>?_⟩) ?_ ?_;.obtain⟨M,hM,h2⟩:=OF.dV (.inl ⟨cM,cZ,e,rfl,hg,rfl,hz⟩)<;>grind
  .rw[dt];exact y6
  .exact fL.Ib y3
 .cases hu;subst g3;have g7:=λhc=>(g7' hc).2;obtain⟨Y,y1,y2,y3,y4,y5,y6⟩:=mk (some L.b);have hLb:0<cap->X.w.heap.size<=L.b:=λhc=>by have:=(g7 hc).2.2.2.2.1.1;rw[Rz]at this;exact Nat.le_of_not_lt this
  obtain⟨W,w1,w2,w3,w4,w5,w6,w7⟩:=BA (Z:=Z) (lv:=lv) (sl:=sl) (au:=aT) y6 y1 (λb o h=>(y4 b o).2 (.inl h)) (by rw[y2,Rz];exact hs.mem.low) (by rw[y3];exact hfr) g4 g5 g6 g7 λhc=>⟨λo h=>by
    rcases(y4 _ _).1 h with h|h;.exact(g7 hc).2.2.2.2.2.1 o h
    .exact h.2.2 rfl,λk u M hk hM xB=>by obtain⟨M',lP,h2⟩:=DQ.dV hk;rw[y3]at hM;have lP:X.ρ u=some M':=lP;rw[hM]at lP;injection lP with lP;subst lP;have:M.b<X.w.heap.size:=(h2 xB).1;have:=hLb hc;omega⟩;have hxW:Ext Y W:=⟨w3,by rw[w1];exact eY.refl _ _,λb o h=>by rw[w2];exact h,λb o _=>by rw[w1],w4,λb o h=>by rw[w2]at h;exact .inl h⟩;rw[<-y1,<-w1];refine hK W v (y5.trans hxW) (hb W ⟨w1.trans y1,λb o h=>by rw[w2];exact(y4 b o).2 (.inl h),λh=>absurd h (by omega),λh=>absurd h hpk⟩ w7) ?_ ?_;.show aH W (bF s.mem (ew s.mem ks++_)) s.aK;rw[j8];exact w6
  .refine⟨bc _,λu M hM=>?_⟩<;>grind
 .match us,hlen with|_::_::_,_=>simp[kK]at hu
end
end Go.bM
