/- Functions and images: what is valid. -/
import Derived.Test.YtkdilffhbejjaaaGreatLaw21ti
set_option linter.unusedVariables false
set_option linter.unusedSimpArgs false
namespace Go.Proofs.YtkdilffhbejjaaaGreat
open Go Go.bM Go.Sym
open Classical
noncomputable def jW(l:List Field)(n:Nat):Prop:=∀f,f∈l->0<=f.2/\f.2<n
noncomputable def eX(n:Nat)(f:Func):Prop:=lK f.1=true/\f.2.2.2.1.length<=16/\cr f.2.2.2.1/\(0<=f.2.1/\f.2.1<=f.2.2.2.1.length)/\(-1<=f.2.2.1/\f.2.2.1<n)/\jW f.2.2.2.1 n/\(1<=f.2.2.2.2.1.length/\f.2.2.2.2.1.length<=200)/\(∀x,x∈f.2.2.2.2.1->eA x=true)/\dF f.2.2.2.2.2.1 f.2.2.2.2.1.length/\dF f.2.2.2.2.2.2 f.2.2.2.2.1.length
noncomputable def tO(f:Func):Prop:=f.2.2.2.1.length<=300/\f.2.2.2.2.1.length<=1000/\f.2.2.2.2.2.1.length<=1000/\f.2.2.2.2.2.2.length<=1000/\(∀x,x∈f.2.2.2.2.1->okI x)/\Hp f.2.2.2.2.2.1/\Hp f.2.2.2.2.2.2
theorem VU{N:Nat}{l:List Field}{ts:List aA}(hN:l.length<N)(hl:l.length<=1000)(a:List UInt8)(b c:Int)(d:List Field)(e:List Instr)(f g:List eN):f117.aP N N (ts,l,(l.length:Int),(0:Int),a,b,c,d,e,f,g)=some (if jW l ts.length then .inr (a,b,c,d,e,f,g)else .inl false):=by
 have key:=fN (l:=l) (a:=(.inr (a,b,c,d,e,f,g):Bool⊕(List UInt8×Int×Int×List Field×List Instr×List eN×List eN))) (b:=.inl false) (p:=λx=>!decide (0<=x.2/\x.2<(ts.length:Int))) (Lf:=λk i=>f117.aP N k (ts,l,(l.length:Int),i,a,b,c,d,e,f,g)) (λk _=>by simp only[f117.aP.eq_2,aJ,af]) (λk i x hx hm=>by
   simp only[f117.aP.eq_2,aG (aC hx),aq,aD hx,ae,ai (show i<9223372036854775807by have:=aC hx;omega),dg];by_cases h:0<=x.2/\x.2<(ts.length:Int);.rw[aS h,aM (show¬x.2<0 by omega),aM (show¬x.2>=(ts.length:Int)by omega)];rfl
   .rw[aM h];by_cases h1:x.2<0;.rw[aS h1];rfl
    .rw[aS (show x.2>=(ts.length:Int)by omega),t6];rfl) (k:=N) hN;rw[key,nX];simp only[db];exact i6 some (NM xr)
theorem Mm{N:Nat}{l:List Field}{ts:List aA}(hN:l.length<N)(hl:l.length<=1000)(a:List UInt8)(b c:Int)(e:List Instr)(f g:List eN):f165.aP N N (ts,(0:Int),a,b,c,l,e,f,g)=some (if jW l ts.length then .inr (a,b,c,l,e,f,g)else .inl false):=by
 have key:=fN (l:=l) (a:=(.inr (a,b,c,l,e,f,g):Bool⊕(List UInt8×Int×Int×List Field×List Instr×List eN×List eN))) (b:=.inl false) (p:=λx=>!decide (0<=x.2/\x.2<(ts.length:Int))) (Lf:=λk i=>f165.aP N k (ts,i,a,b,c,l,e,f,g)) (λk _=>by simp only[f165.aP.eq_2,aJ,af]) (λk i x hx hm=>by
   simp only[f165.aP.eq_2,aG (aC hx),aq,aD hx,ae,ai (show i<9223372036854775807by have:=aC hx;omega),dg];by_cases h:0<=x.2/\x.2<(ts.length:Int);.rw[aS h,aM (show¬x.2<0 by omega),aM (show¬x.2>=(ts.length:Int)by omega)];rfl
   .rw[aM h];by_cases h1:x.2<0;.rw[aS h1];rfl
    .rw[aS (show x.2>=(ts.length:Int)by omega),t6];rfl) (k:=N) hN;rw[key,nX];simp only[db];exact i6 some (NM xr)
theorem YK{N:Nat}{l:List Instr}(hN:l.length<N)(hl:l.length<=1000)(a:List UInt8)(b c:Int)(d:List Field)(e:List Instr)(f g:List eN):f117.cQ N N (l,(l.length:Int),(0:Int),a,b,c,d,e,f,g)=some (if∀x,x∈l->eA x=true then .inr (a,b,c,d,e,f,g)else .inl false):=by
 have key:=fN (l:=l) (a:=(.inr (a,b,c,d,e,f,g):Bool⊕(List UInt8×Int×Int×List Field×List Instr×List eN×List eN))) (b:=.inl false) (p:=λx=>!eA x) (Lf:=λk i=>f117.cQ N k (l,(l.length:Int),i,a,b,c,d,e,f,g)) (λk _=>by simp only[f117.cQ.eq_2,aJ,af]) (λk i x hx hm=>by
  simp only[f117.cQ.eq_2,aG (aC hx),aq,aD hx,ae,ai (show i<9223372036854775807by have:=aC hx;omega),uo];by_cases h:eA x=true;.simp[h]
  .simp[h]) (k:=N) hN;rw[key,nX]
theorem Qb{N:Nat}{l:List Instr}(hN:l.length<N)(hl:l.length<=1000)(hx:∀x,x∈l->okI x)(a:List UInt8)(b c:Int)(d:List Field)(f g:List eN):f165.z6 N N ((0:Int),a,b,c,d,l,f,g)=some (if∀x,x∈l->eA x=true then .inr (a,b,c,d,l,f,g)else .inl false):=by
 have key:=fN (l:=l) (a:=(.inr (a,b,c,d,l,f,g):Bool⊕(List UInt8×Int×Int×List Field×List Instr×List eN×List eN))) (b:=.inl false) (p:=λx=>!eA x) (Lf:=λk i=>f165.z6 N k (i,a,b,c,d,l,f,g)) (λk _=>by simp only[f165.z6.eq_2,aJ,af]) (λk i x hx' hm=>by
  simp only[f165.z6.eq_2,aG (aC hx'),aq,aD hx',ae,ai (show i<9223372036854775807by have:=aC hx';omega),CZ N (hx x hm)];by_cases h:eA x=true;.simp[h]
  .simp[h]) (k:=N) hN;rw[key,nX]
theorem J5{N:Nat}{ts:List aA}{f:Func}(hN:1300<N)(hf:tO f):S9 N (ts,f.1,f.2.1,f.2.2.1,f.2.2.2.1,f.2.2.2.2.1,f.2.2.2.2.2.1,f.2.2.2.2.2.2)=some (decide (eX ts.length f)):=by
 obtain⟨nm,pa,re,sl,co,si,li⟩:=f;obtain⟨g1,g2,g3,g4,g5,g6,g7⟩:=hf;simp only at g1 g2 g3 g4 g5 g6 g7⊢;rw[S9.eq_1,C4 (by omega),JY (by omega) (by omega)];simp only[ae,dg];have no:∀{p:Prop},(eX ts.length (nm,pa,re,sl,co,si,li)->p)->¬p->decide (eX ts.length (nm,pa,re,sl,co,si,li))=false:=λh hp=>aM λh'=>hp (h h');by_cases hA:lK nm=true/\sl.length<=16/\cr sl/\(0<=pa/\pa<=sl.length)/\-1<=re/\re<ts.length
 .obtain⟨a1,a2,a3,a4,a5,a6⟩:=hA;rw[a1,aM (show¬(sl.length:Int)>16by omega),aS a3,aM (show¬pa<0 by omega),aM (show¬pa>(sl.length:Int)by omega),aM (show¬re< -1by omega),aM (show¬re>=(ts.length:Int)by omega),show(!true||(false||(!true||(false||(false||(false||false))))))=false from rfl,af,VU (by omega) (by omega),ae];by_cases hr:jW sl ts.length
  .rw[bb hr];simp only;rw[YK (by omega) (by omega),ae];by_cases hc:∀x,x∈co->eA x=true
   .rw[bb hc];simp only;rw[uq (by omega) (by omega),uq (by omega) (by omega),ae,ae];by_cases hn:co.length<1\/co.length>200;.rw[bb hn,no (p:=1<=co.length/\co.length<=200) (λh=>h.2.2.2.2.2.2.1) (by omega)];rfl
    .rw[be hn,be hn];by_cases hs:dF si co.length
     .rw[bb hs];by_cases hv:dF li co.length;.rw[bb hv,aS (show eX ts.length (nm,pa,re,sl,co,si,li)from⟨a1,a2,a3,a4,⟨a5,a6⟩,hr,by simp only;omega,hc,hs,hv⟩)];rfl
      .rw[be hv,no (λh=>h.2.2.2.2.2.2.2.2.2) hv];rfl
     .rw[be hs,no (λh=>h.2.2.2.2.2.2.2.2.1) hs];rfl
   .rw[be hc,no (λh=>h.2.2.2.2.2.2.2.1) hc]
  .rw[be hr,no (λh=>h.2.2.2.2.2.1) hr]
 .rw[no (λh=>⟨h.1,h.2.1,h.2.2.1,h.2.2.2.1,h.2.2.2.2.1.1,h.2.2.2.2.1.2⟩) hA];have:(!lK nm||(decide ((sl.length:Int)>16)||(!decide (cr sl)||(decide (pa<0)||(decide (pa>(sl.length:Int))||(decide (re< -1)||decide (re>=(ts.length:Int))))))))=true:=by false_or_by_contra;rename_i h;apply hA;simp only[pu,gg,ph,lx,db]at h;obtain⟨k1,k2,k3,k4,k5,k6,k7⟩:=h;exact⟨k1,by omega,k3,by omega,by omega,by omega⟩
  rw[this,aq]
theorem D3{N:Nat}{ts:List aA}{f:Func}(hN:1300<N)(hf:tO f):Un N (ts,f.1,f.2.1,f.2.2.1,f.2.2.2.1,f.2.2.2.2.1,f.2.2.2.2.2.1,f.2.2.2.2.2.2)=some (decide (eX ts.length f)):=by
 obtain⟨nm,pa,re,sl,co,si,li⟩:=f;obtain⟨g1,g2,g3,g4,g5,g6,g7⟩:=hf;simp only at g1 g2 g3 g4 g5 g6 g7⊢;rw[Un.eq_1,C5 (by omega),tK (by omega) (by omega)];simp only[ae,dg];have no:∀{p:Prop},(eX ts.length (nm,pa,re,sl,co,si,li)->p)->¬p->decide (eX ts.length (nm,pa,re,sl,co,si,li))=false:=λh hp=>aM λh'=>hp (h h');by_cases hA:lK nm=true/\((sl.length:Int)<=16/\cr sl)/\(0<=pa/\pa<=sl.length)/\(-1<=re/\re<ts.length)/\1<=co.length/\co.length<=200
 .obtain⟨a1,a3,a4,a5,a6⟩:=hA;rw[a1,aS a3,aM (show¬pa<0 by omega),aM (show¬pa>(sl.length:Int)by omega),aM (show¬re< -1by omega),aM (show¬re>=(ts.length:Int)by omega),aM (show¬(co.length:Int)<1by omega),aM (show¬(co.length:Int)>200by omega),show(!true||(!true||(false||(false||(false||(false||(false||false)))))))=false from rfl,af,Mm (by omega) (by omega),ae];by_cases hr:jW sl ts.length
  .rw[bb hr];simp only;rw[Qb (by omega) (by omega) g5,ae];by_cases hc:∀x,x∈co->eA x=true
   .rw[bb hc];simp only;rw[FA (by omega) (by omega),FA (by omega) (by omega),ae,ae];by_cases hs:dF si co.length
    .rw[aS hs];by_cases hv:dF li co.length;.rw[aS hv,aS (show eX ts.length (nm,pa,re,sl,co,si,li)from⟨a1,by simp only;omega,a3.2,a4,a5,hr,a6,hc,hs,hv⟩)];rfl
     .rw[aM hv,no (λh=>h.2.2.2.2.2.2.2.2.2) hv];rfl
    .rw[aM hs,no (λh=>h.2.2.2.2.2.2.2.2.1) hs];rfl
   .rw[be hc,no (λh=>h.2.2.2.2.2.2.2.1) hc]
  .rw[be hr,no (λh=>h.2.2.2.2.2.1) hr]
 .rw[no (λh=>⟨h.1,⟨by have:=h.2.1;simp only at this;omega,h.2.2.1⟩,h.2.2.2.1,h.2.2.2.2.1,h.2.2.2.2.2.2.1⟩) hA];have:(!lK nm||(!decide ((sl.length:Int)<=16/\cr sl)||(decide (pa<0)||(decide (pa>(sl.length:Int))||(decide (re< -1)||(decide (re>=(ts.length:Int))||(decide ((co.length:Int)<1)||decide ((co.length:Int)>200))))))))=true:=by false_or_by_contra;rename_i h;apply hA;simp only[pu,gg,ph,lx,db]at h;obtain⟨k1,k2,k3,k4,k5,k6,k7,k8⟩:=h;exact⟨k1,k2,by omega,by omega,by omega⟩
  rw[this,aq]
noncomputable def fn0:Func:=([],0,0,[],[],[],[])
noncomputable def gj(l:List Func)(i:Nat):Func:=l.getD i fn0
noncomputable def Qc(l:List Func)(i:Nat):Prop:=∃j,j<i/\(gj l j).1=(gj l i).1
noncomputable def Ht(n:Nat)(l:List Func)(i:Nat):Bool:=decide (eX n (gj l i))&&!decide (Qc l i)
noncomputable def dZ(ts:List aA)(xs:List (List UInt8))(fs:List Func):Prop:=j9 ts/\xs.length<=32/\(1<=fs.length/\fs.length<=32)/\rE ts/\(∀s,s∈xs->s.length<=64)/\∀i,i<fs.length->Ht ts.length fs i=true
noncomputable def Mn(ts:List aA)(xs:List (List UInt8))(fs:List Func):Prop:=J3 ts/\xs.length<=50/\(∀s,s∈xs->s.length<=1000)/\fs.length<=50/\∀f,f∈fs->tO f
theorem Dd{l:List Func}{i:Nat}(hi:i<l.length):hasB ((l.take i).map (·.1)) (gj l i).1=decide (Qc l i):=by
 unfold hasB;by_cases h:Qc l i;.rw[bm h,ls];obtain⟨j,h1,h2⟩:=h;refine⟨(gj l j).1,im.2 ⟨gj l j,?_,rfl⟩,bm h2.symm⟩;rw[gj,ci,al (by omega)];exact oi.2 ⟨j,by omega,rfl⟩
 .rw[bv h];cases ha:((l.take i).map (·.1)).any λq=>decide ((gj l i).1=q)with|false=>rfl|true=>exfalso;obtain⟨q,h1,h2⟩:=ls.1 ha;obtain⟨f,h3,rfl⟩:=im.1 h1;obtain⟨j,h4,rfl⟩:=oi.1 h3;refine h ⟨j,by omega,?_⟩;rw[dv h2];rw[gj,ci,al (by omega)];rfl
theorem YL{l:List Func}{i:Nat}(hi:i<l.length):l[i]?=some (gj l i):=by rw[gj,ci,al hi];rfl
theorem Mo{l:List Func}{i:Nat}(hi:i<l.length)(h:¬Qc l i):sj ((l.take i).map (·.1)) (gj l i).1=(l.take (i+1)).map (·.1):=by unfold sj;rw[Dd hi,bv h,take_succ (YL hi),fw];rfl
theorem YM{N:Nat}{ts:List aA}{xs:List (List UInt8)}{fs:List Func}(hN:1300<N)(hm:Mn ts xs fs):F87 N (ts,xs,fs)=some (decide (dZ ts xs fs)):=by
 obtain⟨m1,m2,m3,m4,m5⟩:=hm;have no:∀{p:Prop},(dZ ts xs fs->p)->¬p->decide (dZ ts xs fs)=false:=λh hp=>aM λh'=>hp (h h');have htl:=m1.1;rw[F87.eq_1,yy hN m1];simp[ae,dg];by_cases hA:j9 ts/\xs.length<=32/\1<=fs.length/\fs.length<=32
 .obtain⟨a1,a2,a3,a4⟩:=hA;rw[bb a1,gR,aM (show¬(xs.length:Int)>32by omega),Ho (show¬fs.length=0 by omega),aM (show¬(fs.length:Int)>32by omega),show(false||(false||(false||false)))=false from rfl,af];have key:=gx (n:=ts.length) (a:=(.inr (ts,xs,fs):Bool⊕(List aA×List (List UInt8)×List Func))) (b:=.inl false) (q:=λi=>!decide ((fC (exs ts) i).1<=256)) (Lf:=λk i=>f87.aP N k ((ts.length:Int),i,ts,xs,fs)) (λk _=>by simp only[f87.aP.eq_2,aJ,af]) (λk i hi _=>by
    simp only[f87.aP.eq_2,aG hi,aq,NY hN m1 a1 (show 0<=(i:Int)/\(i:Int)<ts.length by omega),ae,ai (show i<9223372036854775807by omega)];by_cases h:(fC (exs ts) i).1<=256;.rw[bb h,aS h];rfl
    .rw[be h,aM h];rfl) (k:=N) (by omega);rw[key,rB,ae];by_cases hs:rE ts
  .rw[bb λi hi=>aS (hs i hi)];simp;have Mk:=fN (l:=xs) (a:=(.inr (ts,xs,fs):Bool⊕(List aA×List (List UInt8)×List Func))) (b:=.inl false) (p:=λs=>!decide (s.length<=64)) (Lf:=λk i=>f87.CB N k (xs,(xs.length:Int),i,ts,xs,fs)) (λk _=>by simp only[f87.CB.eq_2,aJ,af]) (λk i x hx hm=>by
     simp only[f87.CB.eq_2,aG (aC hx),aq,aD hx,ae,ai (show i<9223372036854775807by have:=aC hx;omega)];by_cases h:x.length<=64;.rw[aS h,aM (show¬(x.length:Int)>64by omega)];rfl
     .rw[aM h,aS (show(x.length:Int)>64by omega)];rfl) (k:=N) (by omega);rw[Mk,nX,ae];by_cases hx:∀s,s∈xs->s.length<=64
   .rw[bb λs h=>aS (hx s h)];simp;have YN:=gx (n:=fs.length) (a:=(.inr ():Bool⊕Unit)) (b:=.inl false) (q:=λi=>!Ht ts.length fs i) (Lf:=λk i=>f87.nP N k (fs,(fs.length:Int),i,ts,xs,fs,(fs.take i.toNat).map (·.1))) (λk _=>by simp only[f87.nP.eq_2,aJ,af]) (λk i hi _=>by
      have e:idx fs (i:Int)=some (gj fs i):=cq _ hi;simp only[f87.nP.eq_2,aG hi,aq,e,ae,bd,Dd hi,ai (show i<9223372036854775807by omega)];have hfk:=J5 (ts:=ts) hN (m5 _ (ny fn0 hi));rw[show fs.getD i fn0=gj fs i from rfl]at hfk;rw[hfk,ae];unfold Ht;by_cases hd:Qc fs i;.rw[aS hd,da,f0];rfl
      .rw[Mo hi hd,aM hd];by_cases hk:eX ts.length (gj fs i);.rw[aS hk];rfl
       .rw[aM hk];rfl) (k:=N) (by omega);rw[show(0:Int).toNat=0from rfl,wl,kw]at YN;rw[YN,rB,ae];by_cases hf:∀i,i<fs.length->Ht ts.length fs i=true;.rw[bb hf,aS (show dZ ts xs fs from⟨a1,a2,⟨a3,a4⟩,hs,hx,hf⟩)]
    .rw[be hf,no (λh=>h.2.2.2.2.2) hf]
   .rw[be λh=>hx λs hs=>dv (h s hs),no (λh=>h.2.2.2.2.1) hx]
  .rw[be λh=>hs λi hi=>dv (h i hi),no (λh=>h.2.2.2.1) hs]
 .rw[no (λh=>⟨h.1,h.2.1,h.2.2.1⟩) hA]<;>grind
theorem YO{x:List Ex}{i:Nat}(h:i<x.length):(x.map (·.1))[i]?=some (fC x i).1:=by rw[eJ,fC,bd,ci,al h];rfl
theorem Qd{N:Nat}{ts:List aA}{xs:List (List UInt8)}{fs:List Func}(hN:1300<N)(hm:Mn ts xs fs):Us N (ts,xs,fs)=some (decide (dZ ts xs fs)):=by
 obtain⟨m1,m2,m3,m4,m5⟩:=hm;have no:∀{p:Prop},(dZ ts xs fs->p)->¬p->decide (dZ ts xs fs)=false:=λh hp=>aM λh'=>hp (h h');have htl:=m1.1;rw[Us.eq_1,Ml hN m1];simp[ae,dg];by_cases hA:j9 ts/\xs.length<=32/\1<=fs.length/\fs.length<=32
 .obtain⟨a1,a2,a3,a4⟩:=hA;rw[bb a1,gR,aM (show¬(xs.length:Int)>32by omega),aM (show¬(fs.length:Int)<1by omega),aM (show¬(fs.length:Int)>32by omega),show(false||(false||(false||false)))=false from rfl,af,Db (by omega) htl a1.2.1,ae];have hlen:((cE 1000000 ts ts.length).map (·.1)).length=ts.length:=by rw[ll,ff]
  have key:=gx (n:=ts.length) (a:=(.inr (ts,xs,fs):Bool⊕(List aA×List (List UInt8)×List Func))) (b:=.inl false) (q:=λi=>!decide ((fC (exs ts) i).1<=256)) (Lf:=λk i=>f127.cI N k ((cE 1000000 ts ts.length).map (·.1),i,ts,xs,fs)) (λk _=>by simp only[f127.cI.eq_2,hlen,aJ,af]) (λk i hi _=>by
    have e:idx ((cE 1000000 ts ts.length).map (·.1)) (i:Int)=some (fC (cE 1000000 ts ts.length) i).1:=aD (YO (by rw[ff];exact hi));simp only[f127.cI.eq_2,hlen,aG hi,aq,e,ae,ai (show i<9223372036854775807by omega)];obtain⟨r1,_⟩:=tN a1.2.1 ts.length (bc _) (i:Int);rw[show cE 1048576 ts ts.length=exs ts from rfl]at r1;by_cases h:(fC (exs ts) i).1<=256;.rw[aM (show¬(fC (cE 1000000 ts ts.length) i).1>256by omega),aS h];rfl
    .rw[aS (show(fC (cE 1000000 ts ts.length) i).1>256by omega),aM h];rfl) (k:=N) (by omega);rw[key,rB,ae];by_cases hs:rE ts
  .rw[bb λi hi=>aS (hs i hi)];simp;have Mk:=fN (l:=xs) (a:=(.inr (ts,xs,fs):Bool⊕(List aA×List (List UInt8)×List Func))) (b:=.inl false) (p:=λs=>!decide (s.length<=64)) (Lf:=λk i=>f127.cQ N k (i,ts,xs,fs)) (λk _=>by simp only[f127.cQ.eq_2,aJ,af]) (λk i x hx hm=>by
     simp only[f127.cQ.eq_2,aG (aC hx),aq,aD hx,ae,ai (show i<9223372036854775807by have:=aC hx;omega)];by_cases h:x.length<=64;.rw[aS h,aM (show¬(x.length:Int)>64by omega)];rfl
     .rw[aM h,aS (show(x.length:Int)>64by omega)];rfl) (k:=N) (by omega);rw[Mk,nX,ae];by_cases hx:∀s,s∈xs->s.length<=64
   .rw[bb λs h=>aS (hx s h)];simp;have YN:=gx (n:=fs.length) (a:=(.inr ():Bool⊕Unit)) (b:=.inl false) (q:=λi=>!Ht ts.length fs i) (Lf:=λk i=>f127.je N k (i,ts,xs,fs)) (λk _=>by simp only[f127.je.eq_2,aJ,af]) (λk i hi _=>by
      have e:idx fs (i:Int)=some (gj fs i):=cq _ hi;have hfk:=D3 (ts:=ts) hN (m5 _ (ny fn0 hi));rw[show fs.getD i fn0=gj fs i from rfl]at hfk;simp only[f127.je.eq_2,aG hi,aq,e,ae,hfk];unfold Ht;by_cases hk:eX ts.length (gj fs i)
      .rw[aS hk,da,af,fr];have inner:=gx (n:=i) (a:=(.inr ((i:Int),ts,xs,fs):Bool⊕(Int×List aA×List (List UInt8)×List Func))) (b:=.inl false) (q:=λj=>(gj fs j).1==(gj fs i).1) (Lf:=λk j=>f127.nQ N k ((i:Int),j,ts,xs,fs)) (λk _=>by simp only[f127.nQ.eq_2,aJ,af]) (λk j hj _=>by have ej:idx fs (j:Int)=some (gj fs j):=cq _ (by omega);simp only[f127.nQ.eq_2,aG hj,aq,e,ej,ae,ai (show j<9223372036854775807by omega)];by_cases hb:((gj fs j).1==(gj fs i).1)=true<;>simp[hb]) (k:=N) (by omega);rw[inner,ae];by_cases hd:Qc fs i
       .rw[bb,aS hd];.rfl
        .obtain⟨j,h1,h2⟩:=hd;exact⟨j,h1,by simpa using h2⟩
       .rw[be,aM hd];.simp only;rw[ai (by omega)];rfl
        .rintro⟨j,h1,h2⟩;exact hd ⟨j,h1,by simpa using h2⟩
      .rw[aM hk];rfl) (k:=N) (by omega);rw[YN,rB,ae];by_cases hf:∀i,i<fs.length->Ht ts.length fs i=true;.rw[bb hf,aS (show dZ ts xs fs from⟨a1,a2,⟨a3,a4⟩,hs,hx,hf⟩)]
    .rw[be hf,no (λh=>h.2.2.2.2.2) hf]
   .rw[be λh=>hx λs hs=>dv (h s hs),no (λh=>h.2.2.2.2.1) hx]
  .rw[be λh=>hs λi hi=>dv (h i hi),no (λh=>h.2.2.2.1) hs]
 .rw[no (λh=>⟨h.1,h.2.1,h.2.2.1⟩) hA]<;>grind
end Go.Proofs.YtkdilffhbejjaaaGreat
