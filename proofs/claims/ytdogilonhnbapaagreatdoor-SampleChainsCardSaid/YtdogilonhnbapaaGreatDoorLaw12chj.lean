/- Functions and images: what is valid. -/
import Derived.Test.YtdogilonhnbapaaGreatDoorLaw12chi
set_option linter.unusedVariables false
set_option linter.unusedSimpArgs false
namespace Go.Proofs.YtdogilonhnbapaaGreatDoor
open Go Go.bI Go.Sym
open Classical
noncomputable def nY(l:List Field)(n:Nat):Prop:=∀f,f∈l->0<=f.2/\f.2<n
noncomputable def eB(n:Nat)(f:Func):Prop:=kK f.1=true/\f.2.2.2.1.length<=16/\cc f.2.2.2.1/\(0<=f.2.1/\f.2.1<=f.2.2.2.1.length)/\(-1<=f.2.2.1/\f.2.2.1<n)/\nY f.2.2.2.1 n/\(1<=f.2.2.2.2.1.length/\f.2.2.2.2.1.length<=200)/\(∀x,x∈f.2.2.2.2.1->dL x=true)/\cQ f.2.2.2.2.2.1 f.2.2.2.2.1.length/\cQ f.2.2.2.2.2.2 f.2.2.2.2.1.length
noncomputable def um(f:Func):Prop:=f.2.2.2.1.length<=300/\f.2.2.2.2.1.length<=1000/\f.2.2.2.2.2.1.length<=1000/\f.2.2.2.2.2.2.length<=1000/\(∀x,x∈f.2.2.2.2.1->Oa x)/\zF f.2.2.2.2.2.1/\zF f.2.2.2.2.2.2
theorem UQ{N:Nat}{l:List Field}{ts:List aB}(hN:l.length<N)(hl:l.length<=1000)(a:List UInt8)(b c:Int)(d:List Field)(e:List Instr)(f g:List fA):f156.aU N N (ts,l,(l.length:Int),(0:Int),a,b,c,d,e,f,g)=some (if nY l ts.length then .inr (a,b,c,d,e,f,g)else .inl false):=by
 have key:=fC (l:=l) (a:=(.inr (a,b,c,d,e,f,g):Bool⊕(List UInt8×Int×Int×List Field×List Instr×List fA×List fA))) (b:=.inl false) (p:=λx=>!decide (0<=x.2/\x.2<(ts.length:Int))) (Lf:=λk i=>f156.aU N k (ts,l,(l.length:Int),i,a,b,c,d,e,f,g)) (λk _=>by simp only[f156.aU.eq_2,aL,ak]) (λk i x hx hm=>by
   simp only[f156.aU.eq_2,aI (aA hx),au,aD hx,Option.bind_some,aj (show i<9223372036854775807by have:=aA hx;omega),dK];by_cases h:0<=x.2/\x.2<(ts.length:Int);.rw[bJ h,bE (show¬x.2<0 by omega),bE (show¬x.2>=(ts.length:Int)by omega)];rfl
   .rw[bE h];by_cases h1:x.2<0;.rw[bJ h1];rfl
    .rw[bJ (show x.2>=(ts.length:Int)by omega),Bool.or_true];rfl) (k:=N) hN;rw[key,nc];simp only[decide_eq_true_eq];exact congrArg some (N6 Iff.rfl)
theorem MB{N:Nat}{l:List Field}{ts:List aB}(hN:l.length<N)(hl:l.length<=1000)(a:List UInt8)(b c:Int)(e:List Instr)(f g:List fA):f125.aU N N (ts,(0:Int),a,b,c,l,e,f,g)=some (if nY l ts.length then .inr (a,b,c,l,e,f,g)else .inl false):=by
 have key:=fC (l:=l) (a:=(.inr (a,b,c,l,e,f,g):Bool⊕(List UInt8×Int×Int×List Field×List Instr×List fA×List fA))) (b:=.inl false) (p:=λx=>!decide (0<=x.2/\x.2<(ts.length:Int))) (Lf:=λk i=>f125.aU N k (ts,i,a,b,c,l,e,f,g)) (λk _=>by simp only[f125.aU.eq_2,aL,ak]) (λk i x hx hm=>by
   simp only[f125.aU.eq_2,aI (aA hx),au,aD hx,Option.bind_some,aj (show i<9223372036854775807by have:=aA hx;omega),dK];by_cases h:0<=x.2/\x.2<(ts.length:Int);.rw[bJ h,bE (show¬x.2<0 by omega),bE (show¬x.2>=(ts.length:Int)by omega)];rfl
   .rw[bE h];by_cases h1:x.2<0;.rw[bJ h1];rfl
    .rw[bJ (show x.2>=(ts.length:Int)by omega),Bool.or_true];rfl) (k:=N) hN;rw[key,nc];simp only[decide_eq_true_eq];exact congrArg some (N6 Iff.rfl)
theorem Y1{N:Nat}{l:List Instr}(hN:l.length<N)(hl:l.length<=1000)(a:List UInt8)(b c:Int)(d:List Field)(e:List Instr)(f g:List fA):f156.e8 N N (l,(l.length:Int),(0:Int),a,b,c,d,e,f,g)=some (if∀x,x∈l->dL x=true then .inr (a,b,c,d,e,f,g)else .inl false):=by
 have key:=fC (l:=l) (a:=(.inr (a,b,c,d,e,f,g):Bool⊕(List UInt8×Int×Int×List Field×List Instr×List fA×List fA))) (b:=.inl false) (p:=λx=>!dL x) (Lf:=λk i=>f156.e8 N k (l,(l.length:Int),i,a,b,c,d,e,f,g)) (λk _=>by simp only[f156.e8.eq_2,aL,ak]) (λk i x hx hm=>by
  simp only[f156.e8.eq_2,aI (aA hx),au,aD hx,Option.bind_some,aj (show i<9223372036854775807by have:=aA hx;omega),tP];by_cases h:dL x=true;.simp[h]
  .simp[h]) (k:=N) hN;rw[key,nc]
theorem Qw{N:Nat}{l:List Instr}(hN:l.length<N)(hl:l.length<=1000)(hx:∀x,x∈l->Oa x)(a:List UInt8)(b c:Int)(d:List Field)(f g:List fA):f125.mS N N ((0:Int),a,b,c,d,l,f,g)=some (if∀x,x∈l->dL x=true then .inr (a,b,c,d,l,f,g)else .inl false):=by
 have key:=fC (l:=l) (a:=(.inr (a,b,c,d,l,f,g):Bool⊕(List UInt8×Int×Int×List Field×List Instr×List fA×List fA))) (b:=.inl false) (p:=λx=>!dL x) (Lf:=λk i=>f125.mS N k (i,a,b,c,d,l,f,g)) (λk _=>by simp only[f125.mS.eq_2,aL,ak]) (λk i x hx' hm=>by
  simp only[f125.mS.eq_2,aI (aA hx'),au,aD hx',Option.bind_some,aj (show i<9223372036854775807by have:=aA hx';omega),Cq N (hx x hm)];by_cases h:dL x=true;.simp[h]
  .simp[h]) (k:=N) hN;rw[key,nc]
theorem J2{N:Nat}{ts:List aB}{f:Func}(hN:1300<N)(hf:um f):P3 N (ts,f.1,f.2.1,f.2.2.1,f.2.2.2.1,f.2.2.2.2.1,f.2.2.2.2.2.1,f.2.2.2.2.2.2)=some (decide (eB ts.length f)):=by
 obtain⟨nm,pa,re,sl,co,si,li⟩:=f;obtain⟨g1,g2,g3,g4,g5,g6,g7⟩:=hf;simp only at g1 g2 g3 g4 g5 g6 g7⊢;rw[P3.eq_1,Cv (by omega),JW (by omega) (by omega)];simp only[Option.bind_some,dK];have no:∀{p:Prop},(eB ts.length (nm,pa,re,sl,co,si,li)->p)->¬p->decide (eB ts.length (nm,pa,re,sl,co,si,li))=false:=λh hp=>bE λh'=>hp (h h');by_cases hA:kK nm=true/\sl.length<=16/\cc sl/\(0<=pa/\pa<=sl.length)/\-1<=re/\re<ts.length
 .obtain⟨a1,a2,a3,a4,a5,a6⟩:=hA;rw[a1,bE (show¬(sl.length:Int)>16by omega),bJ a3,bE (show¬pa<0 by omega),bE (show¬pa>(sl.length:Int)by omega),bE (show¬re< -1by omega),bE (show¬re>=(ts.length:Int)by omega),show(!true||(false||(!true||(false||(false||(false||false))))))=false from rfl,ak,UQ (by omega) (by omega),Option.bind_some];by_cases hr:nY sl ts.length
  .rw[if_pos hr];simp only;rw[Y1 (by omega) (by omega),Option.bind_some];by_cases hc:∀x,x∈co->dL x=true
   .rw[if_pos hc];simp only;rw[xY (by omega) (by omega),xY (by omega) (by omega),Option.bind_some,Option.bind_some];by_cases hn:co.length<1\/co.length>200;.rw[if_pos hn,no (p:=1<=co.length/\co.length<=200) (λh=>h.2.2.2.2.2.2.1) (by omega)];rfl
    .rw[if_neg hn,if_neg hn];by_cases hs:cQ si co.length
     .rw[if_pos hs];by_cases hv:cQ li co.length;.rw[if_pos hv,bJ (show eB ts.length (nm,pa,re,sl,co,si,li)from⟨a1,a2,a3,a4,⟨a5,a6⟩,hr,by simp only;omega,hc,hs,hv⟩)];rfl
      .rw[if_neg hv,no (λh=>h.2.2.2.2.2.2.2.2.2) hv];rfl
     .rw[if_neg hs,no (λh=>h.2.2.2.2.2.2.2.2.1) hs];rfl
   .rw[if_neg hc,no (λh=>h.2.2.2.2.2.2.2.1) hc]
  .rw[if_neg hr,no (λh=>h.2.2.2.2.2.1) hr]
 .rw[no (λh=>⟨h.1,h.2.1,h.2.2.1,h.2.2.2.1,h.2.2.2.2.1.1,h.2.2.2.2.1.2⟩) hA];have:(!kK nm||(decide ((sl.length:Int)>16)||(!decide (cc sl)||(decide (pa<0)||(decide (pa>(sl.length:Int))||(decide (re< -1)||decide (re>=(ts.length:Int))))))))=true:=by false_or_by_contra;rename_i h;apply hA;simp only[Bool.not_eq_true,Bool.or_eq_false_iff,Bool.not_eq_false',decide_eq_false_iff_not,decide_eq_true_eq]at h;obtain⟨k1,k2,k3,k4,k5,k6,k7⟩:=h;exact⟨k1,by omega,k3,by omega,by omega,by omega⟩
  rw[this,au]
theorem Dy{N:Nat}{ts:List aB}{f:Func}(hN:1300<N)(hf:um f):Qf N (ts,f.1,f.2.1,f.2.2.1,f.2.2.2.1,f.2.2.2.2.1,f.2.2.2.2.2.1,f.2.2.2.2.2.2)=some (decide (eB ts.length f)):=by
 obtain⟨nm,pa,re,sl,co,si,li⟩:=f;obtain⟨g1,g2,g3,g4,g5,g6,g7⟩:=hf;simp only at g1 g2 g3 g4 g5 g6 g7⊢;rw[Qf.eq_1,Cw (by omega),tn (by omega) (by omega)];simp only[Option.bind_some,dK];have no:∀{p:Prop},(eB ts.length (nm,pa,re,sl,co,si,li)->p)->¬p->decide (eB ts.length (nm,pa,re,sl,co,si,li))=false:=λh hp=>bE λh'=>hp (h h');by_cases hA:kK nm=true/\((sl.length:Int)<=16/\cc sl)/\(0<=pa/\pa<=sl.length)/\(-1<=re/\re<ts.length)/\1<=co.length/\co.length<=200
 .obtain⟨a1,a3,a4,a5,a6⟩:=hA;rw[a1,bJ a3,bE (show¬pa<0 by omega),bE (show¬pa>(sl.length:Int)by omega),bE (show¬re< -1by omega),bE (show¬re>=(ts.length:Int)by omega),bE (show¬(co.length:Int)<1by omega),bE (show¬(co.length:Int)>200by omega),show(!true||(!true||(false||(false||(false||(false||(false||false)))))))=false from rfl,ak,MB (by omega) (by omega),Option.bind_some];by_cases hr:nY sl ts.length
  .rw[if_pos hr];simp only;rw[Qw (by omega) (by omega) g5,Option.bind_some];by_cases hc:∀x,x∈co->dL x=true
   .rw[if_pos hc];simp only;rw[E7 (by omega) (by omega),E7 (by omega) (by omega),Option.bind_some,Option.bind_some];by_cases hs:cQ si co.length
    .rw[bJ hs];by_cases hv:cQ li co.length;.rw[bJ hv,bJ (show eB ts.length (nm,pa,re,sl,co,si,li)from⟨a1,by simp only;omega,a3.2,a4,a5,hr,a6,hc,hs,hv⟩)];rfl
     .rw[bE hv,no (λh=>h.2.2.2.2.2.2.2.2.2) hv];rfl
    .rw[bE hs,no (λh=>h.2.2.2.2.2.2.2.2.1) hs];rfl
   .rw[if_neg hc,no (λh=>h.2.2.2.2.2.2.2.1) hc]
  .rw[if_neg hr,no (λh=>h.2.2.2.2.2.1) hr]
 .rw[no (λh=>⟨h.1,⟨by have:=h.2.1;simp only at this;omega,h.2.2.1⟩,h.2.2.2.1,h.2.2.2.2.1,h.2.2.2.2.2.2.1⟩) hA];have:(!kK nm||(!decide ((sl.length:Int)<=16/\cc sl)||(decide (pa<0)||(decide (pa>(sl.length:Int))||(decide (re< -1)||(decide (re>=(ts.length:Int))||(decide ((co.length:Int)<1)||decide ((co.length:Int)>200))))))))=true:=by false_or_by_contra;rename_i h;apply hA;simp only[Bool.not_eq_true,Bool.or_eq_false_iff,Bool.not_eq_false',decide_eq_false_iff_not,decide_eq_true_eq]at h;obtain⟨k1,k2,k3,k4,k5,k6,k7,k8⟩:=h;exact⟨k1,k2,by omega,by omega,by omega⟩
  rw[this,au]
noncomputable def fn0:Func:=([],0,0,[],[],[],[])
noncomputable def fQ(l:List Func)(i:Nat):Func:=l.getD i fn0
noncomputable def MC(l:List Func)(i:Nat):Prop:=∃j,j<i/\(fQ l j).1=(fQ l i).1
noncomputable def CD(n:Nat)(l:List Func)(i:Nat):Bool:=decide (eB n (fQ l i))&&!decide (MC l i)
noncomputable def fD(ts:List aB)(xs:List (List UInt8))(fs:List Func):Prop:=oJ ts/\xs.length<=32/\(1<=fs.length/\fs.length<=32)/\Hj ts/\(∀s,s∈xs->s.length<=64)/\∀i,i<fs.length->CD ts.length fs i=true
noncomputable def MD(ts:List aB)(xs:List (List UInt8))(fs:List Func):Prop:=Of ts/\xs.length<=50/\(∀s,s∈xs->s.length<=1000)/\fs.length<=50/\∀f,f∈fs->um f
theorem CE{l:List Func}{i:Nat}(hi:i<l.length):hasB ((l.take i).map (·.1)) (fQ l i).1=decide (MC l i):=by
 unfold hasB;by_cases h:MC l i;.rw[decide_eq_true h,List.any_eq_true];obtain⟨j,h1,h2⟩:=h;refine⟨(fQ l j).1,List.mem_map.2 ⟨fQ l j,?_,rfl⟩,decide_eq_true h2.symm⟩;rw[fQ,List.getD_eq_getElem?_getD,List.getElem?_eq_getElem (by omega)];exact List.mem_take_iff_getElem.2 ⟨j,by omega,rfl⟩
 .rw[decide_eq_false h];cases ha:((l.take i).map (·.1)).any λq=>decide ((fQ l i).1=q)with|false=>rfl|true=>exfalso;obtain⟨q,h1,h2⟩:=List.any_eq_true.1 ha;obtain⟨f,h3,rfl⟩:=List.mem_map.1 h1;obtain⟨j,h4,rfl⟩:=List.mem_take_iff_getElem.1 h3;refine h ⟨j,by omega,?_⟩;rw[of_decide_eq_true h2];rw[fQ,List.getD_eq_getElem?_getD,List.getElem?_eq_getElem (by omega)];rfl
theorem Y2{l:List Func}{i:Nat}(hi:i<l.length):l[i]?=some (fQ l i):=by rw[fQ,List.getD_eq_getElem?_getD,List.getElem?_eq_getElem hi];rfl
theorem ME{l:List Func}{i:Nat}(hi:i<l.length)(h:¬MC l i):rL ((l.take i).map (·.1)) (fQ l i).1=(l.take (i+1)).map (·.1):=by unfold rL;rw[CE hi,decide_eq_false h,take_succ (Y2 hi),List.map_append];rfl
theorem Oi{N:Nat}{ts:List aB}{xs:List (List UInt8)}{fs:List Func}(hN:1300<N)(hm:MD ts xs fs):F93 N (ts,xs,fs)=some (decide (fD ts xs fs)):=by
 obtain⟨m1,m2,m3,m4,m5⟩:=hm;have no:∀{p:Prop},(fD ts xs fs->p)->¬p->decide (fD ts xs fs)=false:=λh hp=>bE λh'=>hp (h h');have htl:=m1.1;rw[F93.eq_1,Fc hN m1];simp[Option.bind_some,dK];by_cases hA:oJ ts/\xs.length<=32/\1<=fs.length/\fs.length<=32
 .obtain⟨a1,a2,a3,a4⟩:=hA;rw[if_pos a1,JR,bE (show¬(xs.length:Int)>32by omega),He (show¬fs.length=0 by omega),bE (show¬(fs.length:Int)>32by omega),show(false||(false||(false||false)))=false from rfl,ak];have key:=fX (n:=ts.length) (a:=(.inr (ts,xs,fs):Bool⊕(List aB×List (List UInt8)×List Func))) (b:=.inl false) (q:=λi=>!decide ((iY (exs ts) i).1<=256)) (Lf:=λk i=>f93.aU N k ((ts.length:Int),i,ts,xs,fs)) (λk _=>by simp only[f93.aU.eq_2,aL,ak]) (λk i hi _=>by
    simp only[f93.aU.eq_2,aI hi,au,Oh hN m1 a1 (show 0<=(i:Int)/\(i:Int)<ts.length by omega),Option.bind_some,aj (show i<9223372036854775807by omega)];by_cases h:(iY (exs ts) i).1<=256;.rw[if_pos h,bJ h];rfl
    .rw[if_neg h,bE h];rfl) (k:=N) (by omega);rw[key,qH,Option.bind_some];by_cases hs:Hj ts
  .rw[if_pos λi hi=>bJ (hs i hi)];simp;have My:=fC (l:=xs) (a:=(.inr (ts,xs,fs):Bool⊕(List aB×List (List UInt8)×List Func))) (b:=.inl false) (p:=λs=>!decide (s.length<=64)) (Lf:=λk i=>f93.B4 N k (xs,(xs.length:Int),i,ts,xs,fs)) (λk _=>by simp only[f93.B4.eq_2,aL,ak]) (λk i x hx hm=>by
     simp only[f93.B4.eq_2,aI (aA hx),au,aD hx,Option.bind_some,aj (show i<9223372036854775807by have:=aA hx;omega)];by_cases h:x.length<=64;.rw[bJ h,bE (show¬(x.length:Int)>64by omega)];rfl
     .rw[bE h,bJ (show(x.length:Int)>64by omega)];rfl) (k:=N) (by omega);rw[My,nc,Option.bind_some];by_cases hx:∀s,s∈xs->s.length<=64
   .rw[if_pos λs h=>bJ (hx s h)];simp;have Y3:=fX (n:=fs.length) (a:=(.inr ():Bool⊕Unit)) (b:=.inl false) (q:=λi=>!CD ts.length fs i) (Lf:=λk i=>f93.mQ N k (fs,(fs.length:Int),i,ts,xs,fs,(fs.take i.toNat).map (·.1))) (λk _=>by simp only[f93.mQ.eq_2,aL,ak]) (λk i hi _=>by
      have e:idx fs (i:Int)=some (fQ fs i):=cW _ hi;simp only[f93.mQ.eq_2,aI hi,au,e,Option.bind_some,Int.toNat_natCast,CE hi,aj (show i<9223372036854775807by omega)];have hfk:=J2 (ts:=ts) hN (m5 _ (th fn0 hi));rw[show fs.getD i fn0=fQ fs i from rfl]at hfk;rw[hfk,Option.bind_some];unfold CD;by_cases hd:MC fs i;.rw[bJ hd,Bool.not_true,Bool.and_false];rfl
      .rw[ME hi hd,bE hd];by_cases hk:eB ts.length (fQ fs i);.rw[bJ hk];rfl
       .rw[bE hk];rfl) (k:=N) (by omega);rw[show(0:Int).toNat=0from rfl,List.take_zero,List.map_nil]at Y3;rw[Y3,qH,Option.bind_some];by_cases hf:∀i,i<fs.length->CD ts.length fs i=true;.rw[if_pos hf,bJ (show fD ts xs fs from⟨a1,a2,⟨a3,a4⟩,hs,hx,hf⟩)]
    .rw[if_neg hf,no (λh=>h.2.2.2.2.2) hf]
   .rw[if_neg λh=>hx λs hs=>of_decide_eq_true (h s hs),no (λh=>h.2.2.2.2.1) hx]
  .rw[if_neg λh=>hs λi hi=>of_decide_eq_true (h i hi),no (λh=>h.2.2.2.1) hs]
 .rw[no (λh=>⟨h.1,h.2.1,h.2.2.1⟩) hA]<;>grind
theorem Y4{x:List Ex}{i:Nat}(h:i<x.length):(x.map (·.1))[i]?=some (iY x i).1:=by rw[List.getElem?_map,iY,Int.toNat_natCast,List.getD_eq_getElem?_getD,List.getElem?_eq_getElem h];rfl
theorem Qx{N:Nat}{ts:List aB}{xs:List (List UInt8)}{fs:List Func}(hN:1300<N)(hm:MD ts xs fs):F69 N (ts,xs,fs)=some (decide (fD ts xs fs)):=by
 obtain⟨m1,m2,m3,m4,m5⟩:=hm;have no:∀{p:Prop},(fD ts xs fs->p)->¬p->decide (fD ts xs fs)=false:=λh hp=>bE λh'=>hp (h h');have htl:=m1.1;rw[F69.eq_1,Mz hN m1];simp[Option.bind_some,dK];by_cases hA:oJ ts/\xs.length<=32/\1<=fs.length/\fs.length<=32
 .obtain⟨a1,a2,a3,a4⟩:=hA;rw[if_pos a1,JR,bE (show¬(xs.length:Int)>32by omega),bE (show¬(fs.length:Int)<1by omega),bE (show¬(fs.length:Int)>32by omega),show(false||(false||(false||false)))=false from rfl,ak,J0 (by omega) htl a1.2.1,Option.bind_some];have hlen:((cA 1000000 ts ts.length).map (·.1)).length=ts.length:=by rw[List.length_map,ga]
  have key:=fX (n:=ts.length) (a:=(.inr (ts,xs,fs):Bool⊕(List aB×List (List UInt8)×List Func))) (b:=.inl false) (q:=λi=>!decide ((iY (exs ts) i).1<=256)) (Lf:=λk i=>f69.ct N k ((cA 1000000 ts ts.length).map (·.1),i,ts,xs,fs)) (λk _=>by simp only[f69.ct.eq_2,hlen,aL,ak]) (λk i hi _=>by
    have e:idx ((cA 1000000 ts ts.length).map (·.1)) (i:Int)=some (iY (cA 1000000 ts ts.length) i).1:=aD (Y4 (by rw[ga];exact hi));simp only[f69.ct.eq_2,hlen,aI hi,au,e,Option.bind_some,aj (show i<9223372036854775807by omega)];obtain⟨r1,_⟩:=wN a1.2.1 ts.length (Nat.le_refl _) (i:Int);rw[show cA 1048576 ts ts.length=exs ts from rfl]at r1;by_cases h:(iY (exs ts) i).1<=256;.rw[bE (show¬(iY (cA 1000000 ts ts.length) i).1>256by omega),bJ h];rfl
    .rw[bJ (show(iY (cA 1000000 ts ts.length) i).1>256by omega),bE h];rfl) (k:=N) (by omega);rw[key,qH,Option.bind_some];by_cases hs:Hj ts
  .rw[if_pos λi hi=>bJ (hs i hi)];simp;have My:=fC (l:=xs) (a:=(.inr (ts,xs,fs):Bool⊕(List aB×List (List UInt8)×List Func))) (b:=.inl false) (p:=λs=>!decide (s.length<=64)) (Lf:=λk i=>f69.e8 N k (i,ts,xs,fs)) (λk _=>by simp only[f69.e8.eq_2,aL,ak]) (λk i x hx hm=>by
     simp only[f69.e8.eq_2,aI (aA hx),au,aD hx,Option.bind_some,aj (show i<9223372036854775807by have:=aA hx;omega)];by_cases h:x.length<=64;.rw[bJ h,bE (show¬(x.length:Int)>64by omega)];rfl
     .rw[bE h,bJ (show(x.length:Int)>64by omega)];rfl) (k:=N) (by omega);rw[My,nc,Option.bind_some];by_cases hx:∀s,s∈xs->s.length<=64
   .rw[if_pos λs h=>bJ (hx s h)];simp;have Y3:=fX (n:=fs.length) (a:=(.inr ():Bool⊕Unit)) (b:=.inl false) (q:=λi=>!CD ts.length fs i) (Lf:=λk i=>f69.iB N k (i,ts,xs,fs)) (λk _=>by simp only[f69.iB.eq_2,aL,ak]) (λk i hi _=>by
      have e:idx fs (i:Int)=some (fQ fs i):=cW _ hi;have hfk:=Dy (ts:=ts) hN (m5 _ (th fn0 hi));rw[show fs.getD i fn0=fQ fs i from rfl]at hfk;simp only[f69.iB.eq_2,aI hi,au,e,Option.bind_some,hfk];unfold CD;by_cases hk:eB ts.length (fQ fs i)
      .rw[bJ hk,Bool.not_true,ak,Bool.true_and];have inner:=fX (n:=i) (a:=(.inr ((i:Int),ts,xs,fs):Bool⊕(Int×List aB×List (List UInt8)×List Func))) (b:=.inl false) (q:=λj=>(fQ fs j).1==(fQ fs i).1) (Lf:=λk j=>f69.mT N k ((i:Int),j,ts,xs,fs)) (λk _=>by simp only[f69.mT.eq_2,aL,ak]) (λk j hj _=>by have ej:idx fs (j:Int)=some (fQ fs j):=cW _ (by omega);simp only[f69.mT.eq_2,aI hj,au,e,ej,Option.bind_some,aj (show j<9223372036854775807by omega)];by_cases hb:((fQ fs j).1==(fQ fs i).1)=true<;>simp[hb]) (k:=N) (by omega);rw[inner,Option.bind_some];by_cases hd:MC fs i
       .rw[if_pos,bJ hd];.rfl
        .obtain⟨j,h1,h2⟩:=hd;exact⟨j,h1,by simpa using h2⟩
       .rw[if_neg,bE hd];.simp only;rw[aj (by omega)];rfl
        .rintro⟨j,h1,h2⟩;exact hd ⟨j,h1,by simpa using h2⟩
      .rw[bE hk];rfl) (k:=N) (by omega);rw[Y3,qH,Option.bind_some];by_cases hf:∀i,i<fs.length->CD ts.length fs i=true;.rw[if_pos hf,bJ (show fD ts xs fs from⟨a1,a2,⟨a3,a4⟩,hs,hx,hf⟩)]
    .rw[if_neg hf,no (λh=>h.2.2.2.2.2) hf]
   .rw[if_neg λh=>hx λs hs=>of_decide_eq_true (h s hs),no (λh=>h.2.2.2.2.1) hx]
  .rw[if_neg λh=>hs λi hi=>of_decide_eq_true (h i hi),no (λh=>h.2.2.2.1) hs]
 .rw[no (λh=>⟨h.1,h.2.1,h.2.2.1⟩) hA]<;>grind
end Go.Proofs.YtdogilonhnbapaaGreatDoor
