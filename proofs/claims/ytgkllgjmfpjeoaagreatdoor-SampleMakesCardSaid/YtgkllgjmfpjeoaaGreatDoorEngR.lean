/- A part of the proof: EngQ, EngR. -/
import Derived.Test.YtgkllgjmfpjeoaaGreatDoorEngP
set_option linter.unusedVariables false
set_option linter.unusedSimpArgs false
namespace Go.bJ
open Go Go.RowKit
def cM(P:Program)(call:Go.bJ.Call):Prop:=∀f args mem aI nv r mem' qP Mj,call f args mem aI nv=some (r,mem',qP,Mj)->∀(X:Cx)(ck:Array Value),aH X mem aI->(∀v,nv<=v->X.ρ v=none)->aC (V1 X) args ck.toList->(∃fn,P.funcs[f]?=some fn/\fn.body.isSome=true/\(fn.name== "runtime.NumGoroutine")=false)/\Calls P f ck X.w λe w'=>∃Y v,e=.returned v/\Y.w=w'/\Ext X Y/\VR Y r v/\aH Y mem' qP/\nv<=Mj/\∀u L,Y.ρ u=some L->X.ρ u=some L\/(nv<=u/\u<Mj)
theorem DR.mono{w:World}{F G:Nat->Nat->Prop}(h:∀b o,F b o->G b o){x:D}{v:Value}(hd:DR w F x v):DR w G x v:=by induction hd with|sc v h1=>exact .sc v h1|er v h1=>exact .er v h1|sl els a n cap sz b o g hn hcap hsz ha hF hc _ ih=>exact .sl els a n cap sz b o g hn hcap hsz ha (λi e j x h1 h2=>h _ _ (hF i e j x h1 h2)) hc ih
theorem ei.mono{w:World}{F G R S:Nat->Nat->Prop}(h:∀b o,F b o->G b o){els:List (List D)}{b o sz:Nat}(hrs:∀q,(∃v,w.cell? ⟨b,q,none⟩=some v)->R b q->S b q)(hl:ei w F R els b o sz):ei w G S els b o sz:=⟨hl.1,λi e j x h1 h2=>by obtain⟨hF,v,hv,hd⟩:=hl.2 i e j x h1 h2;exact⟨hrs _ ⟨v,hv⟩ hF,v,hv,hd.mono h⟩⟩
theorem Mk{w:World}{b o:Nat}(h:∃v,w.cell? ⟨b,o,none⟩=some v):b<w.heap.size:=by obtain⟨v,hv⟩:=h;exact World.block_lt_of_cell? w ⟨b,o,none⟩ hv
def Cx.inner(X:Cx):Cx:={w:=X.w,F:=X.F,ρ:=λ_=>none,old:=λb=>b<X.w.heap.size}
theorem Fj{X Y:Cx}{f:Nat}{v:Value}(h:VC X (.gp f []) v):VC Y (.gp f []) v:=by grind[JR,aC,VC]
section
variable{X:Cx}{m:List (Tr bB)}{t:Tr Unit}
theorem lY(h:aH X m t)(ks:List (Nat×Nat)){x y:AV}{v:Value}(hx:cP m x=some y)(hv:VC X x v):VC (X.lU m ks).inner y v:=by
 have hex:=qc h ks;have hsub:∀b o,X.F b o->(X.lU m ks).F b o:=λ_ _=>.inl;have data:∀{els a cap sz b o},v=.slice a els.length cap->els.length<=cap->(0<els.length->a=some ⟨b,o,none⟩)->ei X.w X.F X.F els b o sz->VC (X.lU m ks).inner (.d (.sl els)) v:=by rintro els a cap sz b o rfl h2 h3 h4;exact DR.gE (h4.ext hex) rfl h2 h3
 have QF:∀{els a cap sz b o}{R:Nat->Nat->Prop},v=.slice a els.length cap->els.length<=cap->(0<els.length->a=some ⟨b,o,none⟩)->ei X.w X.F R els b o sz->VC (X.lU m ks).inner (.own els .bC) v:=by rintro els a cap sz b o R rfl h2 h3 h4;exact⟨a,b,o,sz,cap,rfl,h2,h3,h4.mono hsub λq hq _=>Mk hq⟩
 cases x with
 |d x=>cases hx;exact DR.ext hex hv|own els ow=>cases ow with|full=>cases hx;obtain⟨a,b,o,sz,h1,h2,h3⟩:=hv;exact data h1 (Nat.le_refl _) h2 h3|cD ah tz=>cases hx;obtain⟨a,b,o,sz,cap,h1,h2,h3,h4,_⟩:=hv;exact data h1 h2 (λh=>h3 (by omega)) h4|bC=>cases hx;obtain⟨a,b,o,sz,cap,h1,h2,h3,h4⟩:=hv;exact QF h1 h2 h3 h4
 |ref lv sl ah off len sz=>simp only[cP]at hx;cases he:dc m (.ref lv sl ah off len sz)with|none=>grind|some els=>rw[he]at hx;cases hx;obtain⟨a,cap,sz',b,o,h1,h2,h3,h4⟩:=rz h he (.fI hv);exact QF h1 h2 h3 h4
 |gp f c=>cases c with|nil=>cases hx;exact Fj hv|cons=>cases hx
 |_=>cases hx
theorem ya(h:aH X m t){ks k:List (Nat×Nat)}{x y:AV}{v:Value}(hx:ef m x=some (y,k))(hv:VC X x v)(hk:∀p∈k,p∈ks):VC (X.lU m ks).inner y v:=by
 have aiP:∀{x},(zn m x).map (λp=>(AV.d p.1,p.2))=some (y,k)->VC X x v->VC (X.lU m ks).inner y v:=by intro x hx hv;cases hd:zn m x with|none=>rw[hd]at hx;cases hx|some p=>rw[hd]at hx;injection hx with hx;injection hx with h1 h2;subst h1;exact Qs h (ks:=ks) hd hv λq hq=>hk q (by rw[<-h2];exact hq)
 unfold ef at hx;split at hx;.cases hx;exact lY h ks rfl hv
 .cases hx;exact lY h ks rfl hv
 .exact aiP hx hv
theorem vj(h:aH X m t){ks:List (Nat×Nat)}:∀{xs ys:List AV}{k:List (Nat×Nat)}{vs:List Value},ff m xs=some (ys,k)->aC (VC X) xs vs->(∀p∈k,p∈ks)->aC (VC (X.lU m ks).inner) ys vs
 |[],ys,k,[],hx,_,_=>by cases hx;trivial|x::xs,ys,k,v::vs,hx,hv,hk=>by
  simp[ff]at hx;split at hx;.rename_i y k1 ys' k2 h1 h2;cases hx;exact⟨ya h h1 hv.1 λp hp=>hk p (by simp[hp]),vj h h2 hv.2 λp hp=>hk p (by simp[hp])⟩
  grind|[],_,_,_::_,_,hv,_=>hv.elim|_::_,_,_,[],_,hv,_=>hv.elim
theorem Ml(h:aH X m t){ks k:List (Nat×Nat)}{x y:AV}{v:Value}(hx:wN m x=some (y,k))(hv:VR X x v)(hk:∀p∈k,p∈ks):V1 (X.lU m ks).inner y v:=by
 have one:∀{x:AV},(cP m x).map (λy=>(y,([]:List (Nat×Nat))))=some (y,k)->VC X x v->V1 (X.lU m ks).inner y v:=by intro x hx hv;cases hd:cP m x with|none=>grind|some y'=>rw[hd]at hx;cases hx;exact .fI (lY h ks hd hv)
 cases x with
 |agg cs=>simp only[wN]at hx;cases hd:ff m cs with|none=>grind|some p=>rw[hd]at hx;injection hx with hx;injection hx with h1 h2;subst h1;obtain⟨vs,rfl,h3⟩:=hv;exact⟨vs,rfl,vj h (k:=p.2) hd h3 λq hq=>hk q (by rw[<-h2];exact hq)⟩
 |iY cs=>simp[wN,cP]at hx|_=>simp only[wN]at hx;exact one hx hv
theorem Hr(h:aH X m t){ks:List (Nat×Nat)}:∀{xs ys:List AV}{k:List (Nat×Nat)}{vs:List Value},qK m xs=some (ys,k)->aC (VR X) xs vs->(∀p∈k,p∈ks)->aC (V1 (X.lU m ks).inner) ys vs
 |[],ys,k,[],hx,_,_=>by cases hx;trivial|x::xs,ys,k,v::vs,hx,hv,hk=>by
  simp[qK]at hx;split at hx;.rename_i y k1 ys' k2 h1 h2;cases hx;exact⟨Ml h h1 hv.1 λp hp=>hk p (by simp[hp]),Hr h h2 hv.2 λp hp=>hk p (by simp[hp])⟩
  grind|[],_,_,_::_,_,hv,_=>hv.elim|_::_,_,_,[],_,hv,_=>hv.elim
theorem Vr(h:aH X m t){ks k:List (Nat×Nat)}{x y:AV}{v:Value}(hx:wO m x=some (y,k))(hv:VR X x v)(hk:∀p∈k,p∈ks):V1 (X.lU m ks).inner y v:=by cases x with|agg cs=>exact Ml h (x:=.agg cs) hx hv hk|iY cs=>simp[wO,ef,zn]at hx|_=>simp only[wO]at hx;exact .fI (ya h hx hv hk)
theorem Hs(h:aH X m t){ks:List (Nat×Nat)}:∀{xs ys:List AV}{k:List (Nat×Nat)}{vs:List Value},qL m xs=some (ys,k)->aC (VR X) xs vs->(∀p∈k,p∈ks)->aC (V1 (X.lU m ks).inner) ys vs
 |[],ys,k,[],hx,_,_=>by cases hx;trivial|x::xs,ys,k,v::vs,hx,hv,hk=>by
  simp[qL]at hx;split at hx;.rename_i y k1 ys' k2 h1 h2;cases hx;exact⟨Vr h h1 hv.1 λp hp=>hk p (List.mem_append.2 (.inl hp)),Hs h h2 hv.2 λp hp=>hk p (List.mem_append.2 (.inr hp))⟩
  grind|[],_,_,_::_,_,hv,_=>hv.elim|_::_,_,_,[],_,hv,_=>hv.elim
theorem Dp(h:aH X m t)(ks:List (Nat×Nat)):∀{xs ys:List AV}{vs:List Value},oK m xs=some ys->aC (VC X) xs vs->aC (VC (X.lU m ks).inner) ys vs
 |[],ys,[],hx,_=>by cases hx;trivial|x::xs,ys,v::vs,hx,hv=>by
  simp[oK]at hx;split at hx;.rename_i y ys' h1 h2;cases hx;exact⟨lY h ks h1 hv.1,Dp h ks h2 hv.2⟩
  grind|[],_,_::_,_,hv=>hv.elim|_::_,_,[],_,hv=>hv.elim
theorem QG(h:aH X m t)(ks:List (Nat×Nat)){x y:AV}{v:Value}(hx:qM m x=some y)(hv:VR X x v):V1 (X.lU m ks).inner y v:=by cases x with
 |agg cs=>simp only[qM]at hx;cases h1:oK m cs with|none=>grind|some z=>rw[h1]at hx;cases hx;obtain⟨vs,rfl,h3⟩:=hv;exact⟨vs,rfl,Dp h ks h1 h3⟩
 |iY cs=>simp[qM,cP]at hx|_=>simp only[qM]at hx;exact .fI (lY h ks hx hv)
theorem Dq(h:aH X m t)(ks:List (Nat×Nat)):∀{xs ys:List AV}{vs:List Value},p5 m xs=some ys->aC (VR X) xs vs->aC (V1 (X.lU m ks).inner) ys vs
 |[],ys,[],hx,_=>by cases hx;trivial|x::xs,ys,v::vs,hx,hv=>by
  simp[p5]at hx;split at hx;.rename_i y ys' h1 h2;cases hx;exact⟨QG h ks h1 hv.1,Dq h ks h2 hv.2⟩
  grind|[],_,_::_,_,hv=>hv.elim|_::_,_,[],_,hv=>hv.elim
theorem NM(h:aH X m t):aH X.inner [.lf] .lf:=by
 refine⟨λlv sl e he=>?_,λv hv=>by simp at hv,λk k' v v' L L' _ _ _ hv _ _ _=>?_,h.oL,λ_ h=>h,λb hb=>h.low b (h.tG.gb b hb),h.tG.gk⟩;.unfold aK at he;grind[Tr.get?,ny,bB.ah,Cx.inner]
 .cases hv
end
structure QH(Z:Cx)(top:Nat)(cm:List (Tr bB))(els:List (List D))(len sz:Nat)(v:Value):Prop where row:∃L off a cap,v=.slice a len cap/\len<=cap/\els.length=len/\(∀e∈els,e.length=sz)/\(0<cap->(∃cL dU e,top<=cL/\(aK cm cL dU=some e/\e.fz=false)/\Z.ρ e.ah=some L)/\a=some ⟨L.b,L.o+off*sz,none⟩/\off+cap<=L.cap/\L.sz=sz/\0<L.cap/\Block Z L.b (L.o+L.cap*L.sz)/\(∀o,¬Z.F L.b o)/\∀i e j x,els[i]?=some e->e[j]?=some x->∃u,Z.w.cell? ⟨L.b,L.o+off*sz+i*sz+j,none⟩=some u/\DR Z.w Z.F x u)
section
variable{Z Y:Cx}{cm:List (Tr bB)}{ts:Tr Unit}
theorem Au(h:aH Z cm ts){top pk k lv sl ah:Nat}(hw:Y.w=Z.w)(hF:∀b o,Z.F b o->Y.F b o)(hρ:0<top->∀v L,Z.ρ v=some L->Y.ρ v=some L)(hfz:pk=0->∀cL dU e L,top<=cL->aK cm cL dU=some e->e.fz=false->Z.ρ e.ah=some L->0<L.cap->∀o,Y.F L.b o){x y:AV}{us:List (List (List D))}{v:Value}(hx:bu cm top pk k lv sl ah x=some (y,us))(hv:VC Z x v):(us=[]/\VC Y y v)\/∃els len sz,us=[els]/\y=.ref lv sl ah 0 len sz/\pk≠0/\QH Z top cm els len sz v:=by
 have data:∀{els a cap sz b o},v=.slice a els.length cap->els.length<=cap->(0<els.length->a=some ⟨b,o,none⟩)->ei Z.w Z.F Z.F els b o sz->VC Y (.d (.sl els)) v:=by rintro els a cap sz b o rfl h2 h3 h4;refine DR.gE (b:=b) (o:=o) (sz:=sz) ?_ rfl h2 h3;rw[hw];exact h4.mono hF λq _ hq=>hF _ _ hq
 cases x with
 |d x=>injection hx with hx;injection hx with h1 h2;subst h1;refine .inl ⟨h2.symm,?_⟩;show DR Y.w Y.F x v;rw[hw];exact DR.mono hF hv|own els ow=>cases ow with
  |full=>
   simp[bu]at hx;obtain⟨a,b,o,sz,g1,g2,g3⟩:=hv;split at hx
   .rename_i hq;injection hx with hx;injection hx with h1 h2;subst h1;have hpk:pk≠0:=by intro e;subst e;simp at hq
    exact .inr ⟨[],0,pk/65536,h2.symm,rfl,hpk,⟨⟨0,0,0,0⟩,0,a,0,g1,Nat.le_refl _,rfl,λ_ h=>(by cases h),λh=>absurd h (by omega)⟩⟩
   .split at hx;.injection hx with hx;injection hx with h1 h2;subst h1;refine .inl ⟨h2.symm,a,b,o,sz,g1,g2,?_⟩;rw[hw];exact g3.mono hF λq _ hq=>hF _ _ hq
    grind|cD ah tz=>
   simp[bu]at hx;obtain⟨a,b,o,sz,cap,g1,g2,g3,g4,g5,g6⟩:=hv;split at hx
   .rename_i hk;injection hx with hx;injection hx with h1 h2;subst h1;have ht:0<top:=by
     have:=(Bool.and_eq_true_iff.1 hk).2;rcases Nat.eq_zero_or_pos top with e|e;.rw[e]at this;cases this
     .exact e
    refine .inl ⟨h2.symm,a,b,o,sz,cap,g1,g2,g3,?_,hρ ht _ _ g5,g6⟩;rw[hw];exact g4.mono hF λq _ hq=>hF _ _ hq
   grind|bC=>cases hx
 |ref cL dU gB off len sz=>simp[bu]at hx;cases hb:Nat.ble top cL with|false=>
   rw[hb]at hx;injection hx with hx;injection hx with h1 h2;subst h1;have ht:0<top:=by
    have:¬top<=cL:=λhle=>by rw[Nat.ble_eq_true_of_le hle]at hb;cases hb
    omega
   obtain⟨L,a,cap,g1,g2⟩:=hv;exact .inl ⟨h2.symm,L,a,cap,hρ ht _ _ g1,g2⟩|true=>rw[hb]at hx;have hle:top<=cL:=Nat.le_of_ble_eq_true hb;cases he:dc cm (.ref cL dU gB off len sz)with|none=>grind|some els=>rw[he]at hx;simp at hx;obtain⟨L',a,cap,hL',g1,rfl,g3,g4⟩:=hv;simp[dc]at he;cases hr:qJ cm cL dU gB with|none=>grind|some els'=>
     rw[hr]at he;simp only[Option.bind_some]at he;split at he
     .cases he;obtain⟨L,hL,hE1,hE⟩:=Ah h hr;rw[hL]at hL';injection hL' with hL';subst hL';have hlen:((els'.drop off).take len).length=len:=by grind
      have hsz:∀e∈(els'.drop off).take len,e.length=sz:=λf hf=>by rw[hE.1 f (List.mem_of_mem_drop (List.mem_of_mem_take hf)),g1]
      split at hx
      .rename_i hpk;injection hx with hx;injection hx with h1 h2;subst h1;refine .inl ⟨h2.symm,?_⟩;have hpk:=beq_true.1 hpk;have hl:=(hE.region (S:=Y.F) λb o hq=>hq.elim (hF b o) λhq=>by obtain⟨e,M,q1,q2,q3,rfl,q5⟩:=j5 hq;exact hfz hpk cL dU e M hle q1 q5 q2 q3 o).sub off len;refine DR.gE (b:=L.b) (o:=L.o+off*L.sz) (sz:=L.sz) ?_ hlen g3 λh0=>by rw[(g4 (by omega)).1,g1]
       rw[hw];exact hl.mono hF λq _ hq=>hq
      .rename_i hpk;have hpk:=beq_false.1 hpk;split at hx
       .split at hx
        .rename_i wU hr2;injection hx with hx;injection hx with h1 h2;subst h1;obtain⟨L2,hL2,hE2,hg⟩:=lX h hr2;have Ai:wU=els':=by have hr':=hr;unfold qJ at hr'<;>grind
         subst Ai;rw[hL]at hL2;cases hL2;refine .inr ⟨_,len,sz,h2.symm,rfl,hpk,⟨L,off,a,cap,rfl,g3,hlen,hsz,λhc=>?_⟩⟩;obtain⟨k1,k2⟩:=g4 hc;have hc0:0<L.cap:=by omega
         refine⟨⟨cL,dU,_,hle,⟨hg,rfl⟩,hL⟩,k1,k2,g1,hc0,(hE2.2.2.1 hc0).1,(hE2.2.2.1 hc0).2,λi e j x hi hj=>?_⟩;obtain⟨u,hu,hd⟩:=hE2.2.2.2 (off+i) e j x (dX hi).1 hj<;>grind
        grind
       .split at hx;.cases hx
        .rename_i hr2;injection hx with hx;injection hx with h1 h2;subst h1;refine .inl ⟨h2.symm,?_⟩;have hl:=(hE.region (S:=Y.F) λb o hq=>hq.elim (hF b o) λhq=>by exfalso;obtain⟨e,M,q1,q2,q3,rfl,q5⟩:=j5 hq;have q1:aK cm cL dU=some e:=q1;unfold qJ at hr;unfold rowAt at hr2;rw[q1]at hr hr2;cases e with|row v els=>simp only at hr hr2;rw[hr]at hr2;cases hr2|box v cs=>cases hr|mp v ks=>cases hr|Nw v els=>cases q5).sub off len;refine DR.gE (b:=L.b) (o:=L.o+off*L.sz) (sz:=L.sz) ?_ hlen g3 λh0=>by rw[(g4 (by omega)).1,g1]
         rw[hw];exact hl.mono hF λq _ hq=>hq
     grind
 |gp f c=>cases c with|nil=>injection hx with hx;injection hx with h1 h2;subst h1;exact .inl ⟨h2.symm,Fj hv⟩|cons=>cases hx
 |_=>cases hx
end
end Go.bJ
namespace Go.bJ
open Go Go.RowKit
structure Good(Z:Cx)(cm:List (Tr bB))(top pk:Nat)(Y:Cx):Prop where
 w:Y.w=Z.w
 F:∀b o,Z.F b o->Y.F b o
 ρ:0<top->∀v L,Z.ρ v=some L->Y.ρ v=some L
 fz:pk=0->∀cL dU e L,top<=cL->aK cm cL dU=some e->e.fz=false->Z.ρ e.ah=some L->0<L.cap->∀o,Y.F L.b o
def dH{α:Type}(Z:Cx)(cm:List (Tr bB))(top pk lv sl ah:Nat)(R:Cx->α->Prop)(y:α)(us:List (List (List D))):Prop:=(us=[]/\∀Y,Good Z cm top pk Y->R Y y)\/(∃els len sz v',us=[els]/\(pk≠0/\QH Z top cm els len sz v')/\∀Y,Good Z cm top pk Y->VC Y (.ref lv sl ah 0 len sz) v'->R Y y)\/2<=us.length
theorem dH.map{α β:Type}{Z:Cx}{cm:List (Tr bB)}{top pk lv sl ah:Nat}{R:Cx->α->Prop}{S:Cx->β->Prop}{y:α}{z:β}{us:List (List (List D))}(h:dH Z cm top pk lv sl ah R y us)(hrs:∀Y,R Y y->S Y z):dH Z cm top pk lv sl ah S z us:=by grind[dH]
theorem dH.pair{α β γ:Type}{Z:Cx}{cm:List (Tr bB)}{top pk lv sl ah:Nat}{R:Cx->α->Prop}{S:Cx->β->Prop}{T:Cx->γ->Prop}{y:α}{z:β}{x:γ}{us vs:List (List (List D))}(h:dH Z cm top pk lv sl ah R y us)(k:dH Z cm top pk lv sl ah S z vs)(hrs:∀Y,R Y y->S Y z->T Y x):dH Z cm top pk lv sl ah T x (us++vs):=by grind[dH]
section
variable{Z:Cx}{cm:List (Tr bB)}{ts:Tr Unit}{top pk lv sl ah:Nat}
theorem Dr(h:aH Z cm ts){k:Nat}{x y:AV}{us:List (List (List D))}{v:Value}(hx:bu cm top pk k lv sl ah x=some (y,us))(hv:VC Z x v):dH Z cm top pk lv sl ah (λY y=>VC Y y v) y us:=by
 by_cases hu:us=[];.refine .inl ⟨hu,λY hY=>?_⟩;rcases Au h hY.w hY.F hY.ρ hY.fz hx hv with⟨_,h⟩|⟨_,_,_,h,_⟩<;>grind
 .rcases Au (Y:={Z with F:=λ_ _=>True}) h rfl (λ_ _ _=>trivial) (λ_ _ _ h=>h) (λ_ _ _ _ _ _ _ _ _ _ _=>trivial) hx hv with⟨h,_⟩|⟨els,len,sz,h1,rfl,h2,h3⟩<;>grind[bu,VC,dH]
theorem Av(h:aH Z cm ts):∀{k:Nat}{xs ys:List AV}{us:List (List (List D))}{vs:List Value},de cm top pk lv sl ah k xs=some (ys,us)->aC (VC Z) xs vs->dH Z cm top pk lv sl ah (λY ys=>aC (VC Y) ys vs) ys us
 |k,[],ys,us,[],hx,_=>by grind[de,VC,aC,dH]|k,x::xs,ys,us,v::vs,hx,hv=>by
  simp[de]at hx;split at hx;.rename_i y u ys' us' h1 h2;cases hx;exact(Dr h h1 hv.1).pair (Av h h2 hv.2) λY a b=>⟨a,b⟩
  grind|_,[],_,_,_::_,_,hv=>hv.elim|_,_::_,_,_,[],_,hv=>hv.elim
theorem QI(h:aH Z cm ts){k:Nat}{x y:AV}{us:List (List (List D))}{v:Value}(hx:kR cm top pk lv sl ah k x=some (y,us))(hv:V1 Z x v):dH Z cm top pk lv sl ah (λY y=>V1 Y y v) y us:=by cases x with
 |agg cs=>simp only[kR]at hx;cases hd:de cm top pk lv sl ah k cs with|none=>grind|some p=>rw[hd]at hx;cases hx;obtain⟨vs,rfl,h3⟩:=hv;exact(Av h (us:=p.2) hd h3).map λY h=>⟨vs,rfl,h⟩
 |iY cs=>cases hx|_=>simp only[kR]at hx;exact(Dr h hx hv).map λY h=>.fI h
theorem Ht(h:aH Z cm ts):∀{k:Nat}{xs ys:List AV}{us:List (List (List D))}{vs:List Value},fL cm top pk lv sl ah k xs=some (ys,us)->aC (V1 Z) xs vs->dH Z cm top pk lv sl ah (λY ys=>aC (V1 Y) ys vs) ys us
 |k,[],ys,us,[],hx,_=>by grind[fL,V1,aC,dH]|k,x::xs,ys,us,v::vs,hx,hv=>by
  simp[fL]at hx;split at hx;.rename_i y u ys' us' h1 h2;cases hx;exact(QI h h1 hv.1).pair (Ht h h2 hv.2) λY a b=>⟨a,b⟩
  grind|_,[],_,_,_::_,_,hv=>hv.elim|_,_::_,_,_,[],_,hv=>hv.elim
theorem J4(h:aH Z cm ts){x y:AV}{us:List (List (List D))}{v:Value}(hx:gC cm top pk lv sl ah x=some (y,us))(hv:VR Z x v):dH Z cm top pk lv sl ah (λY y=>VR Y y v) y us:=by cases x with
 |iY cs=>simp only[gC]at hx;cases hd:fL cm top pk lv sl ah 1 cs with|none=>grind|some p=>rw[hd]at hx;cases hx;obtain⟨vs,rfl,h3⟩:=hv;exact(Ht h (us:=p.2) hd h3).map λY h=>⟨vs,rfl,h⟩
 |_=>simp only[gC]at hx;exact(QI h hx hv).map λY h=>.uZ h
theorem Aw{Y:Cx}{m:List (Tr bB)}{t:Tr Unit}{els:List (List D)}{len sz off cap:Nat}{a:Option Addr}{L:Loc}(hm:aH Y m t)(hw:Y.w=Z.w)(hF:∀b o,Z.F b o->Y.F b o)(hb:∀b,Y.old b->Z.old b)(hfr:Y.ρ ah=none)(h1:len<=cap)(h2:els.length=len)(h3:∀e∈els,e.length=sz)(h4:0<cap->a=some ⟨L.b,L.o+off*sz,none⟩/\off+cap<=L.cap/\L.sz=sz/\0<L.cap/\Block Z L.b (L.o+L.cap*L.sz)/\(∀o,¬Z.F L.b o)/\∀i e j x,els[i]?=some e->e[j]?=some x->∃u,Z.w.cell? ⟨L.b,L.o+off*sz+i*sz+j,none⟩=some u/\DR Z.w Z.F x u)(hno:0<cap->(∀o,¬Y.F L.b o)/\∀k u M,Holds m t k u->Y.ρ u=some M->0<M.cap->M.b≠L.b):∃W:Cx,W.w=Y.w/\W.F=Y.F/\W.old=Y.old/\(∀u M,Y.ρ u=some M->W.ρ u=some M)/\(∀u M,W.ρ u=some M->Y.ρ u=some M\/u=ah)/\aH W (ct m lv sl (some (.row ah els))) t/\VC W (.ref lv sl ah 0 len sz) (.slice a len cap):=by
 let L':Loc:=⟨L.b,L.o+off*sz,sz,cap⟩;refine⟨Y.name ah L',rfl,rfl,rfl,(dW hfr).loc,λu M hu=>?_,?_,L',a,cap,ep,rfl,rfl,h1,λhc=>⟨by rw[(h4 hc).1];simp[L'],by simp[L']⟩⟩;.grind[Cx.name,Holds,Block]
 .refine(gu hm hfr).add (e:=.row ah els) (L:=L') ep ⟨by rw[h2];exact h1,h3,λhc=>?_,λi e j x hi hj=>?_⟩ λk u M hk _ hu wL hc=>?_;.obtain⟨g1,g2,g3,g4,⟨g5,C,ce,g6,g7⟩,g8,_⟩:=h4 hc;refine⟨⟨λq=>g5 (hb _ q),C,ce,by show Y.w.heap[L.b]?=_;rw[hw];exact g6,?_⟩,(hno hc).1⟩;have:=Nat.mul_le_mul_right sz g2<;>grind
  .have hi':i<els.length:=(List.getElem?_eq_some_iff.1 hi).1;obtain⟨u,hu,hd⟩:=(h4 (by omega)).2.2.2.2.2.2 i e j x hi hj;refine⟨u,?_,?_⟩;.grind[Holds,Block,Cx.name]
   .show DR Y.w Y.F x u;rw[hw];exact hd.mono hF
  .obtain⟨M',kU,_⟩:=hm.dG hk<;>grind[Cx.name,cq,Holds,Block]
end
theorem n7(m:List (Tr bB))(k lv sl:Nat):aK (m.take k) lv sl=if lv<k then aK m lv sl else none:=by grind[aK]
section
variable{P:Program}{X:Cx}{nt:Nat}{s:St}{a:Act}{o:Oper}{dst:Option Nat}{aO:Nat}
theorem Ax{call:Go.bJ.Call}(cT:cM P call)(hs:fo X nt s a)(hfr:X.ρ aO=none){f pk lv sl:Nat}{ck:Array Value}{aL:List AV}{ks:List (Nat×Nat)}{r val:AV}{cm:List (Tr bB)}{ts:Tr Unit}{n':Nat}{us:List (List (List D))}{u:List (Nat×Nat×Option bB)}{rd:List (Nat×Nat×Nat)}(hV:aC (V1 (X.lU s.mem ks).inner) aL ck.toList)(hc:call f aL [.lf] .lf 0=some (r,cm,ts,n'))(hi:gC cm 0 pk lv sl aO r=some (val,us))(hu:jZ lv sl aO us=some u)(hrun:(∃fn,P.funcs[f]?=some fn/\fn.body.isSome=true/\(fn.name== "runtime.NumGoroutine")=false)->(execOp a.eval o).run P X.w=.ok (.enter f ck) X.w):dh P X s a o dst aO (.bW {val,cV:=dV s.mem ks++u,cD:=[],rd}):=by
 intro K Q hK;have CL:=E8 hs.mem ks;have hx1:=qc hs.mem ks;obtain⟨hfn,ue⟩:=cT f aL [.lf] .lf 0 r cm ts n' hc (X.lU s.mem ks).inner ck (NM CL) (λ_ _=>rfl) hV;unfold Oper.wp;rw[hrun hfn];refine Calls.mono ue ?_;rintro e w'⟨Z,v,rfl,rfl,JN,ZT,NN,_,_⟩;have hblk:∀b,b<X.w.heap.size->Z.w.heap[b]?=X.w.heap[b]?:=λb hb=>JN.below.block b hb;have QJ:Z.old=λb=>b<X.w.heap.size:=JN.base;have hZF:∀b o,Z.F b o->(X.lU s.mem ks).F b o\/X.w.heap.size<=b:=λb o h=>(JN.new b o h).imp id λh=>Nat.le_of_not_lt h;have mk:∀(p:Option Nat),∃Y:Cx,Y.w=Z.w/\Y.old=X.old/\Y.ρ=X.ρ/\(∀b o,Y.F b o↔Z.F b o\/(X.w.heap.size<=b/\b<Z.w.heap.size/\some b≠p))/\Ext X Y/\aH Y (bw s.mem (dV s.mem ks)) s.aI:=by
  intro p;let Y:Cx:={w:=Z.w,F:=λb o=>Z.F b o\/(X.w.heap.size<=b/\b<Z.w.heap.size/\some b≠p),ρ:=X.ρ,old:=X.old};have hx:Ext (X.lU s.mem ks) Y:=by
   refine⟨rfl,JN.below.mono hs.mem.low,λb o h=>.inl (JN.Xz b o h),λb o h=>?_,λ_ _ h=>h,λb o h=>?_⟩;.exact JN.keep b o h
   .rcases h with h|h;.exact(hZF b o h).imp id λh q=>Nat.lt_irrefl _ (Nat.lt_of_lt_of_le (hs.mem.low _ q) h)
    .exact .inr λq=>Nat.lt_irrefl _ (Nat.lt_of_lt_of_le (hs.mem.low _ q) h.1)
  refine⟨Y,rfl,rfl,rfl,λ_ _=>Iff.rfl,hx1.trans hx,CL.move hx (λk v L hk hv hc=>?_) (λk v L o hk hv hc h=>?_) λb o h=>?_⟩;.obtain⟨M,hM,h2⟩:=CL.dG hk;rw[hv]at hM;cases hM;exact hblk _ (h2 hc).1
  .obtain⟨M,hM,h2⟩:=CL.dG hk;rw[hv]at hM;cases hM;have:=(h2 hc).1;have this:L.b<X.w.heap.size:=this<;>grind
  .rcases h with h|h;.exact NN.oL b o h
   grind
 rcases J4 NN hi ZT with⟨rfl,hb⟩|⟨els,len,sz,v',rfl,⟨hpk,⟨L,off,ad,cap,g3,g4,g5,g6,ZU⟩⟩,hb⟩|hlen
 .cases hu;obtain⟨Y,y1,y2,y3,y4,y5,y6⟩:=mk none;rw[<-y1];refine hK Y v y5 (hb Y ⟨y1,λb o h=>(y4 b o).2 (.inl h),λh=>absurd h (by omega),λ_ cL dU e L _ hg hz hL hc o=>?_⟩) ?_ ?_;.obtain⟨M,hM,h2⟩:=NN.dG (.inl ⟨cL,dU,e,rfl,hg,rfl,hz⟩)<;>grind
  .rw[List.append_nil];exact y6
  .exact fy.G2 y3
 .cases hu;subst g3;have g7:=λhc=>(ZU hc).2;obtain⟨Y,y1,y2,y3,y4,y5,y6⟩:=mk (some L.b);have hLb:0<cap->X.w.heap.size<=L.b:=λhc=>by have:=(g7 hc).2.2.2.2.1.1;rw[QJ]at this;exact Nat.le_of_not_lt this
  obtain⟨W,w1,w2,w3,w4,w5,w6,w7⟩:=Aw (Z:=Z) (lv:=lv) (sl:=sl) (ah:=aO) y6 y1 (λb o h=>(y4 b o).2 (.inl h)) (by rw[y2,QJ];exact hs.mem.low) (by rw[y3];exact hfr) g4 g5 g6 g7 λhc=>⟨λo h=>by
    rcases(y4 _ _).1 h with h|h;.exact(g7 hc).2.2.2.2.2.1 o h
    .exact h.2.2 rfl,λk u M hk hM wL=>by obtain⟨M',kU,h2⟩:=CL.dG hk;rw[y3]at hM;have kU:X.ρ u=some M':=kU;rw[hM]at kU;injection kU with kU;subst kU;have:M.b<X.w.heap.size:=(h2 wL).1;have:=hLb hc;omega⟩;have hxW:Ext Y W:=⟨w3,by rw[w1];exact eo.refl _ _,λb o h=>by rw[w2];exact h,λb o _=>by rw[w1],w4,λb o h=>by rw[w2]at h;exact .inl h⟩;rw[<-y1,<-w1];refine hK W v (y5.trans hxW) (hb W ⟨w1.trans y1,λb o h=>by rw[w2];exact(y4 b o).2 (.inl h),λh=>absurd h (by omega),λh=>absurd h hpk⟩ w7) ?_ ?_;.show aH W (bw s.mem (dV s.mem ks++_)) s.aI;rw[jD];exact w6
  .refine⟨Nat.le_refl _,λu M hM=>?_⟩<;>grind
 .match us,hlen with|_::_::_,_=>simp[jZ]at hu
end
end Go.bJ
