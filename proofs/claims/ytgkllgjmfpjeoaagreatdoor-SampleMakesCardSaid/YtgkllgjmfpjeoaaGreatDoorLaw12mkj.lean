/- Functions and images: what is valid. -/
import Derived.Test.YtgkllgjmfpjeoaaGreatDoorLaw12mki
set_option linter.unusedVariables false
set_option linter.unusedSimpArgs false
namespace Go.Proofs.YtgkllgjmfpjeoaaGreatDoor
open Go Go.bJ Go.Sym
open Classical
noncomputable def nO(l:List Field)(n:Nat):Prop:=∀f,f∈l->0<=f.2/\f.2<n
noncomputable def eA(n:Nat)(f:Func):Prop:=kQ f.1=true/\f.2.2.2.1.length<=16/\bV f.2.2.2.1/\(0<=f.2.1/\f.2.1<=f.2.2.2.1.length)/\(-1<=f.2.2.1/\f.2.2.1<n)/\nO f.2.2.2.1 n/\(1<=f.2.2.2.2.1.length/\f.2.2.2.2.1.length<=200)/\(∀x,x∈f.2.2.2.2.1->dD x=true)/\cO f.2.2.2.2.2.1 f.2.2.2.2.1.length/\cO f.2.2.2.2.2.2 f.2.2.2.2.1.length
noncomputable def oB(f:Func):Prop:=f.2.2.2.1.length<=300/\f.2.2.2.2.1.length<=1000/\f.2.2.2.2.2.1.length<=1000/\f.2.2.2.2.2.2.length<=1000/\(∀x,x∈f.2.2.2.2.1->O6 x)/\wg f.2.2.2.2.2.1/\wg f.2.2.2.2.2.2
theorem T5{N:Nat}{l:List Field}{ts:List aB}(hN:l.length<N)(hl:l.length<=1000)(a:List UInt8)(b c:Int)(d:List Field)(e:List Instr)(f g:List fm):f161.aT N N (ts,l,(l.length:Int),(0:Int),a,b,c,d,e,f,g)=some (if nO l ts.length then .inr (a,b,c,d,e,f,g)else .inl false):=by
 have key:=fB (l:=l) (a:=(.inr (a,b,c,d,e,f,g):Bool⊕(List UInt8×Int×Int×List Field×List Instr×List fm×List fm))) (b:=.inl false) (p:=λx=>!decide (0<=x.2/\x.2<(ts.length:Int))) (Lf:=λk i=>f161.aT N k (ts,l,(l.length:Int),i,a,b,c,d,e,f,g)) (λk _=>by simp only[f161.aT.eq_2,aM,aq]) (λk i x hx hm=>by
   simp only[f161.aT.eq_2,aJ (az hx),au,aE hx,Option.bind_some,aj (show i<9223372036854775807by have:=az hx;omega),dK];by_cases h:0<=x.2/\x.2<(ts.length:Int);.rw[bI h,bE (show¬x.2<0 by omega),bE (show¬x.2>=(ts.length:Int)by omega)];rfl
   .rw[bE h];by_cases h1:x.2<0;.rw[bI h1];rfl
    .rw[bI (show x.2>=(ts.length:Int)by omega),Bool.or_true];rfl) (k:=N) hN;rw[key,mV];simp only[decide_eq_true_eq];exact congrArg some (MY Iff.rfl)
theorem Lq{N:Nat}{l:List Field}{ts:List aB}(hN:l.length<N)(hl:l.length<=1000)(a:List UInt8)(b c:Int)(e:List Instr)(f g:List fm):f128.aT N N (ts,(0:Int),a,b,c,l,e,f,g)=some (if nO l ts.length then .inr (a,b,c,l,e,f,g)else .inl false):=by
 have key:=fB (l:=l) (a:=(.inr (a,b,c,l,e,f,g):Bool⊕(List UInt8×Int×Int×List Field×List Instr×List fm×List fm))) (b:=.inl false) (p:=λx=>!decide (0<=x.2/\x.2<(ts.length:Int))) (Lf:=λk i=>f128.aT N k (ts,i,a,b,c,l,e,f,g)) (λk _=>by simp only[f128.aT.eq_2,aM,aq]) (λk i x hx hm=>by
   simp only[f128.aT.eq_2,aJ (az hx),au,aE hx,Option.bind_some,aj (show i<9223372036854775807by have:=az hx;omega),dK];by_cases h:0<=x.2/\x.2<(ts.length:Int);.rw[bI h,bE (show¬x.2<0 by omega),bE (show¬x.2>=(ts.length:Int)by omega)];rfl
   .rw[bE h];by_cases h1:x.2<0;.rw[bI h1];rfl
    .rw[bI (show x.2>=(ts.length:Int)by omega),Bool.or_true];rfl) (k:=N) hN;rw[key,mV];simp only[decide_eq_true_eq];exact congrArg some (MY Iff.rfl)
theorem WM{N:Nat}{l:List Instr}(hN:l.length<N)(hl:l.length<=1000)(a:List UInt8)(b c:Int)(d:List Field)(e:List Instr)(f g:List fm):f161.e9 N N (l,(l.length:Int),(0:Int),a,b,c,d,e,f,g)=some (if∀x,x∈l->dD x=true then .inr (a,b,c,d,e,f,g)else .inl false):=by
 have key:=fB (l:=l) (a:=(.inr (a,b,c,d,e,f,g):Bool⊕(List UInt8×Int×Int×List Field×List Instr×List fm×List fm))) (b:=.inl false) (p:=λx=>!dD x) (Lf:=λk i=>f161.e9 N k (l,(l.length:Int),i,a,b,c,d,e,f,g)) (λk _=>by simp only[f161.e9.eq_2,aM,aq]) (λk i x hx hm=>by
  simp only[f161.e9.eq_2,aJ (az hx),au,aE hx,Option.bind_some,aj (show i<9223372036854775807by have:=az hx;omega),tw];by_cases h:dD x=true;.simp[h]
  .simp[h]) (k:=N) hN;rw[key,mV]
theorem Pd{N:Nat}{l:List Instr}(hN:l.length<N)(hl:l.length<=1000)(hx:∀x,x∈l->O6 x)(a:List UInt8)(b c:Int)(d:List Field)(f g:List fm):f128.mO N N ((0:Int),a,b,c,d,l,f,g)=some (if∀x,x∈l->dD x=true then .inr (a,b,c,d,l,f,g)else .inl false):=by
 have key:=fB (l:=l) (a:=(.inr (a,b,c,d,l,f,g):Bool⊕(List UInt8×Int×Int×List Field×List Instr×List fm×List fm))) (b:=.inl false) (p:=λx=>!dD x) (Lf:=λk i=>f128.mO N k (i,a,b,c,d,l,f,g)) (λk _=>by simp only[f128.mO.eq_2,aM,aq]) (λk i x hx' hm=>by
  simp only[f128.mO.eq_2,aJ (az hx'),au,aE hx',Option.bind_some,aj (show i<9223372036854775807by have:=az hx';omega),BU N (hx x hm)];by_cases h:dD x=true;.simp[h]
  .simp[h]) (k:=N) hN;rw[key,mV]
theorem Jf{N:Nat}{ts:List aB}{f:Func}(hN:1300<N)(hf:oB f):Sl N (ts,f.1,f.2.1,f.2.2.1,f.2.2.2.1,f.2.2.2.2.1,f.2.2.2.2.2.1,f.2.2.2.2.2.2)=some (decide (eA ts.length f)):=by
 obtain⟨nm,pa,re,sl,co,si,li⟩:=f;obtain⟨g1,g2,g3,g4,g5,g6,g7⟩:=hf;simp only at g1 g2 g3 g4 g5 g6 g7⊢;rw[Sl.eq_1,BZ (by omega),I9 (by omega) (by omega)];simp only[Option.bind_some,dK];have no:∀{p:Prop},(eA ts.length (nm,pa,re,sl,co,si,li)->p)->¬p->decide (eA ts.length (nm,pa,re,sl,co,si,li))=false:=λh hp=>bE λh'=>hp (h h');by_cases hA:kQ nm=true/\sl.length<=16/\bV sl/\(0<=pa/\pa<=sl.length)/\-1<=re/\re<ts.length
 .obtain⟨a1,a2,a3,a4,a5,a6⟩:=hA;rw[a1,bE (show¬(sl.length:Int)>16by omega),bI a3,bE (show¬pa<0 by omega),bE (show¬pa>(sl.length:Int)by omega),bE (show¬re< -1by omega),bE (show¬re>=(ts.length:Int)by omega),show(!true||(false||(!true||(false||(false||(false||false))))))=false from rfl,aq,T5 (by omega) (by omega),Option.bind_some];by_cases hr:nO sl ts.length
  .rw[if_pos hr];simp only;rw[WM (by omega) (by omega),Option.bind_some];by_cases hc:∀x,x∈co->dD x=true
   .rw[if_pos hc];simp only;rw[xH (by omega) (by omega),xH (by omega) (by omega),Option.bind_some,Option.bind_some];by_cases hn:co.length<1\/co.length>200;.rw[if_pos hn,no (p:=1<=co.length/\co.length<=200) (λh=>h.2.2.2.2.2.2.1) (by omega)];rfl
    .rw[if_neg hn,if_neg hn];by_cases hs:cO si co.length
     .rw[if_pos hs];by_cases hv:cO li co.length;.rw[if_pos hv,bI (show eA ts.length (nm,pa,re,sl,co,si,li)from⟨a1,a2,a3,a4,⟨a5,a6⟩,hr,by simp only;omega,hc,hs,hv⟩)];rfl
      .rw[if_neg hv,no (λh=>h.2.2.2.2.2.2.2.2.2) hv];rfl
     .rw[if_neg hs,no (λh=>h.2.2.2.2.2.2.2.2.1) hs];rfl
   .rw[if_neg hc,no (λh=>h.2.2.2.2.2.2.2.1) hc]
  .rw[if_neg hr,no (λh=>h.2.2.2.2.2.1) hr]
 .rw[no (λh=>⟨h.1,h.2.1,h.2.2.1,h.2.2.2.1,h.2.2.2.2.1.1,h.2.2.2.2.1.2⟩) hA];have:(!kQ nm||(decide ((sl.length:Int)>16)||(!decide (bV sl)||(decide (pa<0)||(decide (pa>(sl.length:Int))||(decide (re< -1)||decide (re>=(ts.length:Int))))))))=true:=by false_or_by_contra;rename_i h;apply hA;simp only[Bool.not_eq_true,Bool.or_eq_false_iff,Bool.not_eq_false',decide_eq_false_iff_not,decide_eq_true_eq]at h;obtain⟨k1,k2,k3,k4,k5,k6,k7⟩:=h;exact⟨k1,by omega,k3,by omega,by omega,by omega⟩
  rw[this,au]
theorem CZ{N:Nat}{ts:List aB}{f:Func}(hN:1300<N)(hf:oB f):S9 N (ts,f.1,f.2.1,f.2.2.1,f.2.2.2.1,f.2.2.2.2.1,f.2.2.2.2.2.1,f.2.2.2.2.2.2)=some (decide (eA ts.length f)):=by
 obtain⟨nm,pa,re,sl,co,si,li⟩:=f;obtain⟨g1,g2,g3,g4,g5,g6,g7⟩:=hf;simp only at g1 g2 g3 g4 g5 g6 g7⊢;rw[S9.eq_1,B0 (by omega),sN (by omega) (by omega)];simp only[Option.bind_some,dK];have no:∀{p:Prop},(eA ts.length (nm,pa,re,sl,co,si,li)->p)->¬p->decide (eA ts.length (nm,pa,re,sl,co,si,li))=false:=λh hp=>bE λh'=>hp (h h');by_cases hA:kQ nm=true/\((sl.length:Int)<=16/\bV sl)/\(0<=pa/\pa<=sl.length)/\(-1<=re/\re<ts.length)/\1<=co.length/\co.length<=200
 .obtain⟨a1,a3,a4,a5,a6⟩:=hA;rw[a1,bI a3,bE (show¬pa<0 by omega),bE (show¬pa>(sl.length:Int)by omega),bE (show¬re< -1by omega),bE (show¬re>=(ts.length:Int)by omega),bE (show¬(co.length:Int)<1by omega),bE (show¬(co.length:Int)>200by omega),show(!true||(!true||(false||(false||(false||(false||(false||false)))))))=false from rfl,aq,Lq (by omega) (by omega),Option.bind_some];by_cases hr:nO sl ts.length
  .rw[if_pos hr];simp only;rw[Pd (by omega) (by omega) g5,Option.bind_some];by_cases hc:∀x,x∈co->dD x=true
   .rw[if_pos hc];simp only;rw[Eu (by omega) (by omega),Eu (by omega) (by omega),Option.bind_some,Option.bind_some];by_cases hs:cO si co.length
    .rw[bI hs];by_cases hv:cO li co.length;.rw[bI hv,bI (show eA ts.length (nm,pa,re,sl,co,si,li)from⟨a1,by simp only;omega,a3.2,a4,a5,hr,a6,hc,hs,hv⟩)];rfl
     .rw[bE hv,no (λh=>h.2.2.2.2.2.2.2.2.2) hv];rfl
    .rw[bE hs,no (λh=>h.2.2.2.2.2.2.2.2.1) hs];rfl
   .rw[if_neg hc,no (λh=>h.2.2.2.2.2.2.2.1) hc]
  .rw[if_neg hr,no (λh=>h.2.2.2.2.2.1) hr]
 .rw[no (λh=>⟨h.1,⟨by have:=h.2.1;simp only at this;omega,h.2.2.1⟩,h.2.2.2.1,h.2.2.2.2.1,h.2.2.2.2.2.2.1⟩) hA];have:(!kQ nm||(!decide ((sl.length:Int)<=16/\bV sl)||(decide (pa<0)||(decide (pa>(sl.length:Int))||(decide (re< -1)||(decide (re>=(ts.length:Int))||(decide ((co.length:Int)<1)||decide ((co.length:Int)>200))))))))=true:=by false_or_by_contra;rename_i h;apply hA;simp only[Bool.not_eq_true,Bool.or_eq_false_iff,Bool.not_eq_false',decide_eq_false_iff_not,decide_eq_true_eq]at h;obtain⟨k1,k2,k3,k4,k5,k6,k7,k8⟩:=h;exact⟨k1,k2,by omega,by omega,by omega⟩
  rw[this,au]
noncomputable def fn0:Func:=([],0,0,[],[],[],[])
noncomputable def dZ(l:List Func)(i:Nat):Func:=l.getD i fn0
noncomputable def C0(l:List Func)(i:Nat):Prop:=∃j,j<i/\(dZ l j).1=(dZ l i).1
noncomputable def B7(n:Nat)(l:List Func)(i:Nat):Bool:=decide (eA n (dZ l i))&&!decide (C0 l i)
noncomputable def fC(ts:List aB)(xs:List (List UInt8))(fs:List Func):Prop:=ov ts/\xs.length<=32/\(1<=fs.length/\fs.length<=32)/\Gr ts/\(∀s,s∈xs->s.length<=64)/\∀i,i<fs.length->B7 ts.length fs i=true
noncomputable def Lr(ts:List aB)(xs:List (List UInt8))(fs:List Func):Prop:=M7 ts/\xs.length<=50/\(∀s,s∈xs->s.length<=1000)/\fs.length<=50/\∀f,f∈fs->oB f
theorem B8{l:List Func}{i:Nat}(hi:i<l.length):hasB ((l.take i).map (·.1)) (dZ l i).1=decide (C0 l i):=by
 unfold hasB;by_cases h:C0 l i;.rw[decide_eq_true h,List.any_eq_true];obtain⟨j,h1,h2⟩:=h;refine⟨(dZ l j).1,List.mem_map.2 ⟨dZ l j,?_,rfl⟩,decide_eq_true h2.symm⟩;rw[dZ,List.getD_eq_getElem?_getD,List.getElem?_eq_getElem (by omega)];exact List.mem_take_iff_getElem.2 ⟨j,by omega,rfl⟩
 .rw[decide_eq_false h];cases ha:((l.take i).map (·.1)).any λq=>decide ((dZ l i).1=q)with|false=>rfl|true=>exfalso;obtain⟨q,h1,h2⟩:=List.any_eq_true.1 ha;obtain⟨f,h3,rfl⟩:=List.mem_map.1 h1;obtain⟨j,h4,rfl⟩:=List.mem_take_iff_getElem.1 h3;refine h ⟨j,by omega,?_⟩;rw[of_decide_eq_true h2];rw[dZ,List.getD_eq_getElem?_getD,List.getElem?_eq_getElem (by omega)];rfl
theorem WN{l:List Func}{i:Nat}(hi:i<l.length):l[i]?=some (dZ l i):=by rw[dZ,List.getD_eq_getElem?_getD,List.getElem?_eq_getElem hi];rfl
theorem Ls{l:List Func}{i:Nat}(hi:i<l.length)(h:¬C0 l i):q9 ((l.take i).map (·.1)) (dZ l i).1=(l.take (i+1)).map (·.1):=by unfold q9;rw[B8 hi,decide_eq_false h,take_succ (WN hi),List.map_append];rfl
theorem Na{N:Nat}{ts:List aB}{xs:List (List UInt8)}{fs:List Func}(hN:1300<N)(hm:Lr ts xs fs):F96 N (ts,xs,fs)=some (decide (fC ts xs fs)):=by
 obtain⟨m1,m2,m3,m4,m5⟩:=hm;have no:∀{p:Prop},(fC ts xs fs->p)->¬p->decide (fC ts xs fs)=false:=λh hp=>bE λh'=>hp (h h');have htl:=m1.1;rw[F96.eq_1,EB hN m1];simp[Option.bind_some,dK];by_cases hA:ov ts/\xs.length<=32/\1<=fs.length/\fs.length<=32
 .obtain⟨a1,a2,a3,a4⟩:=hA;rw[if_pos a1,I4,bE (show¬(xs.length:Int)>32by omega),Gl (show¬fs.length=0 by omega),bE (show¬(fs.length:Int)>32by omega),show(false||(false||(false||false)))=false from rfl,aq];have key:=fX (n:=ts.length) (a:=(.inr (ts,xs,fs):Bool⊕(List aB×List (List UInt8)×List Func))) (b:=.inl false) (q:=λi=>!decide ((iV (exs ts) i).1<=256)) (Lf:=λk i=>f96.aT N k ((ts.length:Int),i,ts,xs,fs)) (λk _=>by simp only[f96.aT.eq_2,aM,aq]) (λk i hi _=>by
    simp only[f96.aT.eq_2,aJ hi,au,M9 hN m1 a1 (show 0<=(i:Int)/\(i:Int)<ts.length by omega),Option.bind_some,aj (show i<9223372036854775807by omega)];by_cases h:(iV (exs ts) i).1<=256;.rw[if_pos h,bI h];rfl
    .rw[if_neg h,bE h];rfl) (k:=N) (by omega);rw[key,qv,Option.bind_some];by_cases hs:Gr ts
  .rw[if_pos λi hi=>bI (hs i hi)];simp;have Ln:=fB (l:=xs) (a:=(.inr (ts,xs,fs):Bool⊕(List aB×List (List UInt8)×List Func))) (b:=.inl false) (p:=λs=>!decide (s.length<=64)) (Lf:=λk i=>f96.Bx N k (xs,(xs.length:Int),i,ts,xs,fs)) (λk _=>by simp only[f96.Bx.eq_2,aM,aq]) (λk i x hx hm=>by
     simp only[f96.Bx.eq_2,aJ (az hx),au,aE hx,Option.bind_some,aj (show i<9223372036854775807by have:=az hx;omega)];by_cases h:x.length<=64;.rw[bI h,bE (show¬(x.length:Int)>64by omega)];rfl
     .rw[bE h,bI (show(x.length:Int)>64by omega)];rfl) (k:=N) (by omega);rw[Ln,mV,Option.bind_some];by_cases hx:∀s,s∈xs->s.length<=64
   .rw[if_pos λs h=>bI (hx s h)];simp;have WO:=fX (n:=fs.length) (a:=(.inr ():Bool⊕Unit)) (b:=.inl false) (q:=λi=>!B7 ts.length fs i) (Lf:=λk i=>f96.mM N k (fs,(fs.length:Int),i,ts,xs,fs,(fs.take i.toNat).map (·.1))) (λk _=>by simp only[f96.mM.eq_2,aM,aq]) (λk i hi _=>by
      have e:idx fs (i:Int)=some (dZ fs i):=cS _ hi;simp only[f96.mM.eq_2,aJ hi,au,e,Option.bind_some,Int.toNat_natCast,B8 hi,aj (show i<9223372036854775807by omega)];have hfk:=Jf (ts:=ts) hN (m5 _ (sL fn0 hi));rw[show fs.getD i fn0=dZ fs i from rfl]at hfk;rw[hfk,Option.bind_some];unfold B7;by_cases hd:C0 fs i;.rw[bI hd,Bool.not_true,Bool.and_false];rfl
      .rw[Ls hi hd,bE hd];by_cases hk:eA ts.length (dZ fs i);.rw[bI hk];rfl
       .rw[bE hk];rfl) (k:=N) (by omega);rw[show(0:Int).toNat=0from rfl,List.take_zero,List.map_nil]at WO;rw[WO,qv,Option.bind_some];by_cases hf:∀i,i<fs.length->B7 ts.length fs i=true;.rw[if_pos hf,bI (show fC ts xs fs from⟨a1,a2,⟨a3,a4⟩,hs,hx,hf⟩)]
    .rw[if_neg hf,no (λh=>h.2.2.2.2.2) hf]
   .rw[if_neg λh=>hx λs hs=>of_decide_eq_true (h s hs),no (λh=>h.2.2.2.2.1) hx]
  .rw[if_neg λh=>hs λi hi=>of_decide_eq_true (h i hi),no (λh=>h.2.2.2.1) hs]
 .rw[no (λh=>⟨h.1,h.2.1,h.2.2.1⟩) hA]<;>grind
theorem WQ{x:List Ex}{i:Nat}(h:i<x.length):(x.map (·.1))[i]?=some (iV x i).1:=by rw[List.getElem?_map,iV,Int.toNat_natCast,List.getD_eq_getElem?_getD,List.getElem?_eq_getElem h];rfl
theorem Pe{N:Nat}{ts:List aB}{xs:List (List UInt8)}{fs:List Func}(hN:1300<N)(hm:Lr ts xs fs):F73 N (ts,xs,fs)=some (decide (fC ts xs fs)):=by
 obtain⟨m1,m2,m3,m4,m5⟩:=hm;have no:∀{p:Prop},(fC ts xs fs->p)->¬p->decide (fC ts xs fs)=false:=λh hp=>bE λh'=>hp (h h');have htl:=m1.1;rw[F73.eq_1,Lo hN m1];simp[Option.bind_some,dK];by_cases hA:ov ts/\xs.length<=32/\1<=fs.length/\fs.length<=32
 .obtain⟨a1,a2,a3,a4⟩:=hA;rw[if_pos a1,I4,bE (show¬(xs.length:Int)>32by omega),bE (show¬(fs.length:Int)<1by omega),bE (show¬(fs.length:Int)>32by omega),show(false||(false||(false||false)))=false from rfl,aq,Jd (by omega) htl a1.2.1,Option.bind_some];have hlen:((cy 1000000 ts ts.length).map (·.1)).length=ts.length:=by rw[List.length_map,ga]
  have key:=fX (n:=ts.length) (a:=(.inr (ts,xs,fs):Bool⊕(List aB×List (List UInt8)×List Func))) (b:=.inl false) (q:=λi=>!decide ((iV (exs ts) i).1<=256)) (Lf:=λk i=>f73.cI N k ((cy 1000000 ts ts.length).map (·.1),i,ts,xs,fs)) (λk _=>by simp only[f73.cI.eq_2,hlen,aM,aq]) (λk i hi _=>by
    have e:idx ((cy 1000000 ts ts.length).map (·.1)) (i:Int)=some (iV (cy 1000000 ts ts.length) i).1:=aE (WQ (by rw[ga];exact hi));simp only[f73.cI.eq_2,hlen,aJ hi,au,e,Option.bind_some,aj (show i<9223372036854775807by omega)];obtain⟨r1,_⟩:=wm a1.2.1 ts.length (Nat.le_refl _) (i:Int);rw[show cy 1048576 ts ts.length=exs ts from rfl]at r1;by_cases h:(iV (exs ts) i).1<=256;.rw[bE (show¬(iV (cy 1000000 ts ts.length) i).1>256by omega),bI h];rfl
    .rw[bI (show(iV (cy 1000000 ts ts.length) i).1>256by omega),bE h];rfl) (k:=N) (by omega);rw[key,qv,Option.bind_some];by_cases hs:Gr ts
  .rw[if_pos λi hi=>bI (hs i hi)];simp;have Ln:=fB (l:=xs) (a:=(.inr (ts,xs,fs):Bool⊕(List aB×List (List UInt8)×List Func))) (b:=.inl false) (p:=λs=>!decide (s.length<=64)) (Lf:=λk i=>f73.e9 N k (i,ts,xs,fs)) (λk _=>by simp only[f73.e9.eq_2,aM,aq]) (λk i x hx hm=>by
     simp only[f73.e9.eq_2,aJ (az hx),au,aE hx,Option.bind_some,aj (show i<9223372036854775807by have:=az hx;omega)];by_cases h:x.length<=64;.rw[bI h,bE (show¬(x.length:Int)>64by omega)];rfl
     .rw[bE h,bI (show(x.length:Int)>64by omega)];rfl) (k:=N) (by omega);rw[Ln,mV,Option.bind_some];by_cases hx:∀s,s∈xs->s.length<=64
   .rw[if_pos λs h=>bI (hx s h)];simp;have WO:=fX (n:=fs.length) (a:=(.inr ():Bool⊕Unit)) (b:=.inl false) (q:=λi=>!B7 ts.length fs i) (Lf:=λk i=>f73.iC N k (i,ts,xs,fs)) (λk _=>by simp only[f73.iC.eq_2,aM,aq]) (λk i hi _=>by
      have e:idx fs (i:Int)=some (dZ fs i):=cS _ hi;have hfk:=CZ (ts:=ts) hN (m5 _ (sL fn0 hi));rw[show fs.getD i fn0=dZ fs i from rfl]at hfk;simp only[f73.iC.eq_2,aJ hi,au,e,Option.bind_some,hfk];unfold B7;by_cases hk:eA ts.length (dZ fs i)
      .rw[bI hk,Bool.not_true,aq,Bool.true_and];have inner:=fX (n:=i) (a:=(.inr ((i:Int),ts,xs,fs):Bool⊕(Int×List aB×List (List UInt8)×List Func))) (b:=.inl false) (q:=λj=>(dZ fs j).1==(dZ fs i).1) (Lf:=λk j=>f73.mP N k ((i:Int),j,ts,xs,fs)) (λk _=>by simp only[f73.mP.eq_2,aM,aq]) (λk j hj _=>by have ej:idx fs (j:Int)=some (dZ fs j):=cS _ (by omega);simp only[f73.mP.eq_2,aJ hj,au,e,ej,Option.bind_some,aj (show j<9223372036854775807by omega)];by_cases hb:((dZ fs j).1==(dZ fs i).1)=true<;>simp[hb]) (k:=N) (by omega);rw[inner,Option.bind_some];by_cases hd:C0 fs i
       .rw[if_pos,bI hd];.rfl
        .obtain⟨j,h1,h2⟩:=hd;exact⟨j,h1,by simpa using h2⟩
       .rw[if_neg,bE hd];.simp only;rw[aj (by omega)];rfl
        .rintro⟨j,h1,h2⟩;exact hd ⟨j,h1,by simpa using h2⟩
      .rw[bE hk];rfl) (k:=N) (by omega);rw[WO,qv,Option.bind_some];by_cases hf:∀i,i<fs.length->B7 ts.length fs i=true;.rw[if_pos hf,bI (show fC ts xs fs from⟨a1,a2,⟨a3,a4⟩,hs,hx,hf⟩)]
    .rw[if_neg hf,no (λh=>h.2.2.2.2.2) hf]
   .rw[if_neg λh=>hx λs hs=>of_decide_eq_true (h s hs),no (λh=>h.2.2.2.2.1) hx]
  .rw[if_neg λh=>hs λi hi=>of_decide_eq_true (h i hi),no (λh=>h.2.2.2.1) hs]
 .rw[no (λh=>⟨h.1,h.2.1,h.2.2.1⟩) hA]<;>grind
end Go.Proofs.YtgkllgjmfpjeoaaGreatDoor
