/- A part of the proof: Law12mkg8, Law12mkg9. -/
import Derived.Test.YtgkllgjmfpjeoaaGreatDoorLaw12mkg7
set_option linter.unusedVariables false
set_option linter.unusedSimpArgs false
namespace Go.Proofs.YtgkllgjmfpjeoaaGreatDoor
open Go Go.bJ Go.Sym
open Classical
section
variable{ts:List aB}{xs:List (List UInt8)}{fs:List Func}{f:Func}
theorem fE.fits(hv:fE ts xs fs){i:Nat}(h:fs[i]?=some f):oB f:=hv.fit.1.2.2.2.2 f (aU h)
theorem instrR{N:Nat}(hN:1300<N)(hv:fE ts xs fs){g:Int}(hf:idx fs g=some f)(hok:eA ts.length f){i:Nat}{x:Instr}(hx:f.2.2.2.2.1[i]?=some x)(r:Bool):F77 N (ts,xs,fs,g,(i:Int),r)=some (if kJ xs.length (eL fs) f.2.2.2.1 x then(if r=true then(if Cn ts (eL fs) f.2.2.2.1 f.2.2.1 x=true then 0 else 30)else 6)else 16):=by
 have hc:=hok.2.2.2.2.2.2.2.1 x (aU hx);rw[F77.eq_1,hf];simp only[Option.bind_some,aE hx,ahH hN hf hc];by_cases hn:kJ xs.length (eL fs) f.2.2.2.1 x;.rw[bI hn,if_pos hn,Bool.not_true];cases r with|false=>rfl|true=>rw[aco hv hok hc hn hf]<;>grind
 grind
theorem UD{N:Nat}(hN:14000000<N)(hv:fE ts xs fs){g:Int}(hf:idx fs g=some f):F51 N (ts,xs,fs,g)=some ((eU ts xs fs f g).2.2.1,(eU ts xs fs f g).2.2.2):=by
 obtain⟨g0,rB⟩:=rT hf;have hok:=hv.get rB;have hfit:=hv.fits rB;obtain⟨hpos,hle⟩:=hok.2.2.2.2.2.2.1;have PB:=hok.2.2.2.2.2.2.2.1;unfold eU;rw[F51.eq_1,hf];simp[Option.bind_some,LF (N:=N) (l:=f.2.2.2.2.1) (by omega) (by omega) hfit.2.2.2.2.1];by_cases hval:gZ f.2.2.2.2.1=true;case neg=>grind
 rw[if_pos hval,hval];have hvc:=tB hval;have hp0:=hok.2.2.2.1.1;have hr0:=hok.2.2.2.2.1.1;by_cases hmain:g=0/\(0<f.2.1\/0<=f.2.2.1);.grind
 rw[if_neg hmain];have hmn:(bif g==(0:Int)then(bif f.2.1!=0then some true else some (f.2.2.1!=-1))else some false:Option Bool)=some false:=by
  by_cases h0:g=0;.rw[show(g==(0:Int))=true by simpa using h0,au,dK];congr 1;grind
  grind
 rw[hmn];simp[Option.bind_some,aq,Uu hvc (show 500<N by omega),tD hpos (show f.2.2.2.2.1.length<=10000000by omega)];have l1:=qG (l:=f.2.2.2.2.1) (p:=pU ts xs fs f) (a:=(.inr (g,ts,xs,fs,f.1,f.2.1,f.2.2.1,f.2.2.2.1,f.2.2.2.2.1,f.2.2.2.2.2.1,f.2.2.2.2.2.2):(Int×Int)⊕_)) (out:=λi e=>.inl (i,e)) (Lf:=λk i=>f51.gx N k (g,dP f.2.2.2.2.1,((f.2.2.2.2.1.length-1:Nat):Int),i,ts,xs,fs,f.1,f.2.1,f.2.2.1,f.2.2.2.1,f.2.2.2.2.1,f.2.2.2.2.2.1,f.2.2.2.2.2.2)) (λk=>by simp only[f51.gx.eq_2,aM,aq]) (λk i x hx=>by
   have hi:=az hx;simp only[f51.gx.eq_2,aJ hi,au,aE (jM hi),Option.bind_some,instrR (show 1300<N by omega) hv hf hok hx,aj (show i<9223372036854775807by omega),BT];have key:(bif decide (Reach f.2.2.2.2.1 i)then(if kJ xs.length (eL fs) f.2.2.2.1 x then(if True then(if Cn ts (eL fs) f.2.2.2.1 f.2.2.1 x=true then 0 else 30)else 6)else 16:Int)else(if kJ xs.length (eL fs) f.2.2.2.1 x then(if((i:Int)==((f.2.2.2.2.1.length-1:Nat):Int))=true then(if Cn ts (eL fs) f.2.2.2.1 f.2.2.1 x=true then 0 else 30)else 6)else 16:Int))=pU ts xs fs f i x:=by
    by_cases h1:Reach f.2.2.2.2.1 i;.rw[bI h1,au];unfold pU;rw[if_pos (show uQ f.2.2.2.2.1 i from .inl h1),if_pos trivial]
    .rw[bE h1,aq];unfold pU;by_cases h2:i=f.2.2.2.2.1.length-1;.rw[if_pos (show uQ f.2.2.2.2.1 i from .inr h2),if_pos (show((i:Int)==((f.2.2.2.2.1.length-1:Nat):Int))=true by rw[beq_iff_eq];omega)]
     .rw[if_neg (show¬uQ f.2.2.2.2.1 i fromλh=>h.elim h1 h2),if_neg (show¬((i:Int)==((f.2.2.2.2.1.length-1:Nat):Int))=true by rw[beq_iff_eq];omega)]
   rw[key];by_cases hz:pU ts xs fs f i x=0;.rw[if_neg (λh=>h hz),show(pU ts xs fs f i x !=0)=false by simp[hz],aq]
   .rw[if_pos hz,show(pU ts xs fs f i x !=0)=true by simp[bne,hz],au]) (k:=N) (by omega);simp[l1,Option.bind_some];cases he:fF (pU ts xs fs f) 0 f.2.2.2.2.1with
 |some r=>rfl
 |none=>have hz:=oI he;have hfn:Fn ts xs fs f:=⟨hv,hok,hval,λx hx=>by
   obtain⟨i,hi,rfl⟩:=List.mem_iff_getElem.1 hx;have:=hz i _ (List.getElem?_eq_getElem hi);unfold pU at this;split at this;.assumption
   .cases this⟩;obtain⟨r,c,s1,s2,s3⟩:=Jy (show 1300<N by omega) hfn hf;have m1:=UC hN hfn;obtain⟨_,m2,m3⟩:=Cs hN hfn;simp[Option.elim_none,s1,Option.bind_some];cases c with|false=>grind|true=>
   rw[if_pos (s2.1 rfl)];simp[Bool.not_true,aq,m1,Option.bind_some];have l3:∀(i:Nat)x,f.2.2.2.2.1[i]?=some x->f51.zb N N (cN (cr f),(i:Int),aQ jL x,0,f.1,f.2.1,f.2.2.1,f.2.2.2.1,f.2.2.2.2.1,f.2.2.2.2.2.1,f.2.2.2.2.2.2)=some (if oT (cr f) i x≠0then .inl ((i:Int),38)else .inr (cN (cr f),(i:Int),f.1,f.2.1,f.2.2.1,f.2.2.2.1,f.2.2.2.2.1,f.2.2.2.2.2.1,f.2.2.2.2.2.2)):=λi x hx=>by
    have hi:=az hx;have h15:=(nQ (PB x (aU hx))).1;have UX:(cN (cr f))[i]?=some ((O (cr f) i:Nat):Int):=gq (by omega);have hrl:=jN jL x;have:=fB (l:=aQ jL x) (a:=(.inr (cN (cr f),(i:Int),f.1,f.2.1,f.2.2.1,f.2.2.2.1,f.2.2.2.2.1,f.2.2.2.2.2.1,f.2.2.2.2.2.2):(Int×Int)⊕_)) (b:=.inl ((i:Int),38)) (p:=λs=>!((O (cr f) i).testBit s.toNat)) (Lf:=λk j=>f51.zb N k (cN (cr f),(i:Int),aQ jL x,j,f.1,f.2.1,f.2.2.1,f.2.2.2.1,f.2.2.2.2.1,f.2.2.2.2.2.1,f.2.2.2.2.2.2)) (λk _=>by simp only[f51.zb.eq_2,aM,aq]) (λk j s hs hm=>by have hj:=az hs;obtain⟨b0,b1⟩:=h15 s hm;simp only[f51.zb.eq_2,aJ hj,au,aE hs,Option.bind_some,aE UX,show(!decide (s<0))=true by simp;omega,ai,al0 b0 b1,aj (show j<9223372036854775807by omega)];cases(O (cr f) i).testBit s.toNat<;>rfl) (k:=N) (by omega);rw[this];unfold oT;by_cases hall:∀s,s∈aQ jL x->(O (cr f) i).testBit s.toNat=true;.rw[if_pos hall,if_neg (λ⟨s,h1,h2⟩=>by rw[hall s h1]at h2;cases h2),if_neg (by decide)]
    .have hex:∃s,s∈aQ jL x/\(!((O (cr f) i).testBit s.toNat))=true:=by rw[Classical.not_forall]at hall;obtain⟨s,hs⟩:=hall;rw[Classical.not_imp]at hs;exact⟨s,hs.1,by rw[Bool.not_eq_true'];exact Bool.eq_false_iff.2 hs.2⟩
     rw[if_pos hex,if_neg hall,if_pos (show(38:Int)≠0 by decide)]
   have l2:=qG (l:=f.2.2.2.2.1) (p:=oT (cr f)) (a:=(.inr ():(Int×Int)⊕Unit)) (out:=λi e=>.inl (i,e)) (Lf:=λk i=>f51.iC N k (cN (cr f),i,f.1,f.2.1,f.2.2.1,f.2.2.2.1,f.2.2.2.2.1,f.2.2.2.2.2.1,f.2.2.2.2.2.2)) (λk=>by simp only[f51.iC.eq_2,aM,aq]) (λk i x hx=>by
     have hi:=az hx;simp only[f51.iC.eq_2,aJ hi,au,aE hx,Option.bind_some,uM N (PB x (aU hx)),l3 i x hx];by_cases hz:oT (cr f) i x=0;.simp only[if_neg (show¬oT (cr f) i x≠0fromλh=>h hz),aj (show i<9223372036854775807by omega)]
     .have e38:oT (cr f) i x=38:=by
       unfold oT at hz⊢;split at hz;.exact absurd rfl hz
       .rename_i h;rw[if_neg h]
      simp only[if_pos (show oT (cr f) i x≠0from hz)];rw[e38]) (k:=N) (by omega);rw[l2];cases fF (oT (cr f)) 0 f.2.2.2.2.1with|some r=>rfl|none=>rfl
structure UE(ts:List aB)(xs:List (List UInt8))(fs:List Func)(f:Func):Prop where
 fn:Fn ts xs fs f
 sc:qZ f.2.2.2.2.1 (dL ts fs f)
theorem qH(hv:fE ts xs fs)(hok:eA ts.length f){g:Int}(h:(eU ts xs fs f g).2.2.2=0):UE ts xs fs f/\eU ts xs fs f g=(Cq (uP ts fs f),Cq (cN (cr f)),0,0):=by
 unfold eU at h⊢;split at h;case isFalse=>grind
 rename_i hval;rw[if_pos hval];split at h;.grind
 rename_i hmain;rw[if_neg hmain];cases he:fF (pU ts xs fs f) 0 f.2.2.2.2.1with|some r=>rw[he]at h;exact absurd h (xU he)|none=>
  rw[he]at h;split at h;case isFalse=>grind
  rename_i hsc;rw[if_pos hsc];have hz:=oI he;refine⟨⟨⟨hv,hok,hval,λx hx=>?_⟩,hsc⟩,?_⟩;.obtain⟨i,hi,rfl⟩:=List.mem_iff_getElem.1 hx;have:=hz i _ (List.getElem?_eq_getElem hi);unfold pU at this<;>grind
  .cases hl:fF (oT (cr f)) 0 f.2.2.2.2.1with|some r=>rw[hl]at h;exact absurd h (xU hl)|none=>rfl
theorem JB{N:Nat}(hN:1300<N)(hm:qU ts xs fs):F72 N ts=some ts:=by obtain⟨⟨m1,m2,m3,m4,m5⟩,_⟩:=hm;have htl:=m1.1;have k1:=gy (l:=ts) (enc:=λt=>[t]) (g:=id) (B:=1000) (m:=1) (Lf:=λk i s=>f72.bx N k (ts,s,i)) (λk s=>by simp only[f72.bx.eq_2,aM,aq];rfl) (λk i x s hx Qq hB=>by obtain⟨j,hj,rfl⟩:=pT ty0 Qq;have hf:=(m1.2 j hj).1;simp only[dO]at hf;simp only[f72.bx.eq_2,aJ (az hx),au,aE hx,Option.bind_some,af (show 0+(ts.getD j ty0).2.2.2.length<=10000000by omega) (show 24<=1000by omega),af (show s.length+1<=10000000by omega) (show 48<=1000by omega),ai,List.nil_append,aj (show i<9223372036854775807by have:=az hx;omega)]) (λx _=>by simp) (k:=N) (s:=[]) (by omega) (by simp;omega);rw[Pn,List.nil_append]at k1;rw[F72.eq_1,k1,Option.bind_some,id]
theorem wE(h:oB f):room (0+f.2.2.2.1.length) 24=true/\room (0+f.2.2.2.2.1.length) 32=true/\room (0+f.2.2.2.2.2.1.length) 16=true/\room (0+f.2.2.2.2.2.2.length) 16=true:=by obtain⟨g1,g2,g3,g4,_⟩:=h;exact⟨af (by omega) (by omega),af (by omega) (by omega),af (by omega) (by omega),af (by omega) (by omega)⟩
theorem Zy:room 1 128=true:=af (by omega) (by omega)
theorem Nl{N:Nat}(hN:14000000<N)(h:UE ts xs fs f){g:Nat}(hf:fs[g]?=some f):F52 N (ts,xs,fs,(g:Int))=some (f.1,f.2.1,f.2.2.1,f.2.2.2.1,f.2.2.2.2.1,Cq (uP ts fs f),Cq (cN (cr f))):=by
 have hv:=h.fn.img;obtain⟨hpos,hle⟩:=h.fn.len;have hgl:=az hf;obtain⟨f0,h0⟩:∃f0,fs[0]?=some f0:=⟨_,List.getElem?_eq_getElem (by omega)⟩;have Qb:=hv.fns.2;have al3:xs.length<=32:=hv.C5.2.1;obtain⟨r1,r2,r3,r4⟩:=wE (hv.fits h0);have key:=kE (n:=fs.length) (Lf:=λk i=>f52.eE N k (i,ts,xs,fs,ts,xs,fs.take i.toNat,ts,xs,fs,[],0,0)) (g:=λ_=>some (ts,xs,fs,ts,xs,fs,[],0,0)) (λk=>by simp only[f52.eE.eq_2,aM,aq,Int.toNat_natCast,List.take_length]) (λk i hi ih=>by have hx:=List.getElem?_eq_getElem hi;obtain⟨q1,q2,q3,q4⟩:=wE (hv.fits hx);simp only[Int.toNat_natCast]at ih⊢;simp only[f52.eE.eq_2,aJ hi,au,aE hx,Option.bind_some,q1,q2,q3,q4,ai,List.nil_append,af (show(fs.take i).length+1<=10000000by rw[List.length_take];omega) (show 128<=1000by omega),aj (show i<9223372036854775807by omega)];rw[<-ih,take_succ hx]) N 1 (by omega) (by omega);have htk:fs.take 1=[f0]:=by rw[take_succ h0];rfl
 rw[show(((1:Nat):Int)).toNat=1from rfl,htk,show((1:Nat):Int)=1from rfl]at key;obtain⟨r,c,s1,s2,s3⟩:=Jy (show 1300<N by omega) h.fn (aE hf);have hc:=s2.2 h.sc;have hr:=s3 hc;subst hc hr;have k2:=eS (l:=(List.range f.2.2.2.2.1.length).map (EI f.2.2.2.2.1 (dL ts fs f))) (g:=λs:List Int=>(s,([]:List UInt8),(0:Int),(0:Int),f)) (Inv:=λi s=>s=(uP ts fs f).take i) (Lf:=λk i s=>f52.aT N k ((List.range f.2.2.2.2.1.length).map (EI f.2.2.2.2.1 (dL ts fs f)),s,i,ts,xs,fs,[],0,0,f.1,f.2.1,f.2.2.1,f.2.2.2.1,f.2.2.2.2.1,f.2.2.2.2.2.1,f.2.2.2.2.2.2)) (λk s _=>by simp only[f52.aT.eq_2,aM,aq]) (λk i x s hx hs=>by
   have hi:=az hx;have wM:i<f.2.2.2.2.1.length:=by simpa using hi
   rw[List.getElem?_map,List.getElem?_range wM]at hx;have hx:=Option.some.inj hx;obtain⟨o1,o2⟩:=h.fn.LN i;rw[hx]at o1 o2;obtain⟨b1,b2⟩:=o1.nS hv;have bX:s.length<=200:=by rw[hs,List.length_take,oH];omega
   have hz:(uP ts fs f)[i]?=some (nS ts x):=by unfold uP;rw[List.getElem?_map,List.getElem?_range wM,<-hx];rfl
   have hgx:idx ((List.range f.2.2.2.2.1.length).map (EI f.2.2.2.2.1 (dL ts fs f))) (i:Int)=some x:=aE (by rw[List.getElem?_map,List.getElem?_range wM,<-hx];rfl);refine⟨s++[nS ts x],by rw[hs,take_succ hz],?_⟩;simp only[f52.aT.eq_2,aJ hi,au,hgx,Option.bind_some,LK (show 1300<N by omega) hv o1 (show x.length<=1000by omega),af (show s.length+1<=10000000by omega) (show 8<=1000by omega),ai,iD (n:=nS ts x) (by omega),aj (show i<9223372036854775807by omega)]) (k:=N) (s:=[]) rfl (by simp;omega);obtain⟨s,hs,k2⟩:=k2;have hs:s=uP ts fs f:=by
  rw[hs];have:((List.range f.2.2.2.2.1.length).map (EI f.2.2.2.2.1 (dL ts fs f))).length=(uP ts fs f).length:=by simp[oH]
  rw[this,List.take_length]
 subst hs;have m1:=UC hN h.fn;obtain⟨_,m2,_⟩:=Cs hN h.fn;have d1:=UA (N:=N) (v:=uP ts fs f) (by omega) (by rw[oH];omega);have d2:=UA (N:=N) (v:=cN (cr f)) (by omega) (by rw[bG];omega);have e0:idx fs 0=some f0:=aE (i:=0) h0;rw[F52.eq_1,JB (show 1300<N by omega) hv.fit];simp only[Option.bind_some,af (show 0+xs.length<=10000000by omega) (show 16<=1000by omega),ai,bI (show(0:Int)<(fs.length:Int)by omega),au,e0,r1,r2,r3,r4,Zy,List.nil_append,key,bS hgl,Int.toNat_natCast,hf,s1,k2,d1,m1,d2]
end
end Go.Proofs.YtgkllgjmfpjeoaaGreatDoor
namespace Go.Proofs.YtgkllgjmfpjeoaaGreatDoor
open Go Go.bJ Go.Sym
open Classical
structure Xf(fs fs':List Func):Prop where
 len:fs'.length=fs.length
 get:∀(i:Nat)(f:Func),fs[i]?=some f->∃S L,fs'[i]?=some (f.1,f.2.1,f.2.2.1,f.2.2.2.1,f.2.2.2.2.1,S,L)/\(cO S (f.2.2.2.2.1.length:Int)/\cO L (f.2.2.2.2.1.length:Int))/\wg S/\wg L
section
variable{ts:List aB}{xs:List (List UInt8)}{fs fs':List Func}{f f':Func}
theorem C6{fs:List Func}{i:Nat}{f:Func}(h:fs[i]?=some f):dZ fs i=f:=by unfold dZ<;>grind
theorem Xf.at(h:Xf fs fs'){i:Nat}(hi:i<fs.length):∃S L,dZ fs' i=((dZ fs i).1,(dZ fs i).2.1,(dZ fs i).2.2.1,(dZ fs i).2.2.2.1,(dZ fs i).2.2.2.2.1,S,L)/\(cO S ((dZ fs i).2.2.2.2.1.length:Int)/\cO L ((dZ fs i).2.2.2.2.1.length:Int))/\wg S/\wg L:=by have e:=List.getElem?_eq_getElem hi;obtain⟨S,L,h1,h2⟩:=h.get i _ e;rw[C6 e,C6 h1];exact⟨S,L,rfl,h2⟩
theorem Xf.name(h:Xf fs fs')(i:Nat):(dZ fs' i).1=(dZ fs i).1:=by
 by_cases hi:i<fs.length;.obtain⟨S,L,e,_⟩:=h.at hi<;>grind
 .unfold dZ;rw[List.getD_eq_getElem?_getD,List.getD_eq_getElem?_getD,List.getElem?_eq_none (by rw[h.len];omega),List.getElem?_eq_none (by omega)]
theorem Xf.PC(h:Xf fs fs')(hv:fE ts xs fs):fE ts xs fs':=by
 obtain⟨⟨⟨m1,m2,m3,m4,m5⟩,m6⟩,⟨f1,f2,f3,f4,f5,f6⟩⟩:=hv;have hmem:∀g,g∈fs'->∃i S L,i<fs.length/\g=((dZ fs i).1,(dZ fs i).2.1,(dZ fs i).2.2.1,(dZ fs i).2.2.2.1,(dZ fs i).2.2.2.2.1,S,L)/\(cO S ((dZ fs i).2.2.2.2.1.length:Int)/\cO L ((dZ fs i).2.2.2.2.1.length:Int))/\wg S/\wg L/\dZ fs i∈fs:=λg hg=>by
  obtain⟨i,hi,rfl⟩:=List.mem_iff_getElem.1 hg;have hi':i<fs.length:=by rw[<-h.len];exact hi
  obtain⟨S,L,e,h1,h2,h3⟩:=h.at hi';refine⟨i,S,L,hi',?_,h1,h2,h3,?_⟩;.rw[<-e,C6 (List.getElem?_eq_getElem hi)]
  .rw[C6 (List.getElem?_eq_getElem hi')];exact List.getElem_mem _
 refine⟨⟨⟨m1,m2,m3,by rw[h.len];exact m4,λg hg=>?_⟩,λg hg=>?_⟩,f1,f2,by rw[h.len];exact f3,f4,f5,λi hi=>?_⟩;.obtain⟨i,S,L,hi,rfl,⟨h1,h2⟩,h3,h4,hm⟩:=hmem g hg;obtain⟨g1,g2,g3,g4,g5,g6,g7⟩:=m5 _ hm;have r1:=jz h1;have r2:=jz h2;exact⟨g1,g2,by show S.length<=1000;omega,by show L.length<=1000;omega,g5,h3,h4⟩
 .grind
 .have hi':i<fs.length:=by rw[<-h.len];exact hi
  obtain⟨S,L,e,⟨h1,h2⟩,_,_⟩:=h.at hi';have h7:=f6 i hi';unfold B7 at h7⊢;rw[Bool.and_eq_true,decide_eq_true_eq]at h7⊢;obtain⟨⟨g1,g2,g3,g4,g5,g6,g7,g8,_,_⟩,hd⟩:=h7;refine⟨by rw[e];exact⟨g1,g2,g3,g4,g5,g6,g7,g8,h1,h2⟩,?_⟩;rw[Bool.not_eq_true',decide_eq_false_iff_not]at hd⊢;unfold C0 at hd⊢;simp only[h.name];exact hd
theorem Xf.eL(h:Xf fs fs'):eL fs'=Go.Proofs.YtgkllgjmfpjeoaaGreatDoor.eL fs:=by
 apply List.ext_getElem?;intro i;unfold Go.Proofs.YtgkllgjmfpjeoaaGreatDoor.eL;rw[List.getElem?_map,List.getElem?_map];by_cases hi:i<fs.length;.obtain⟨S,L,h1,_⟩:=h.get i _ (List.getElem?_eq_getElem hi);rw[h1,List.getElem?_eq_getElem hi];rfl
 .rw[List.getElem?_eq_none (by rw[h.len];omega),List.getElem?_eq_none (by omega)]
theorem fE.runs(hv:fE ts xs fs){i:Nat}(hi:fs[i]?=some f):(cO f.2.2.2.2.2.1 (f.2.2.2.2.1.length:Int)/\cO f.2.2.2.2.2.2 (f.2.2.2.2.1.length:Int))/\wg f.2.2.2.2.2.1/\wg f.2.2.2.2.2.2:=by obtain⟨_,_,_,_,_,_,_,_,h1,h2⟩:=hv.get hi;obtain⟨_,_,_,_,_,h3,h4⟩:=hv.fits hi<;>grind
theorem Xg(hS:eL fs'=eL fs)(hf:sg f'=sg f)(g:Int):eU ts xs fs' f' g=eU ts xs fs f g:=by
 obtain⟨n,p,r,s,l,a,b⟩:=f;obtain⟨n',p',r',s',l',a',b'⟩:=f';unfold sg at hf;simp at hf;obtain⟨rfl,rfl,rfl,rfl⟩:=hf;have e1:dL ts fs' (n',p',r',s',l',a',b')=dL ts fs (n,p',r',s',l',a,b):=by unfold dL;rw[hS]
 have e2:uP ts fs' (n',p',r',s',l',a',b')=uP ts fs (n,p',r',s',l',a,b):=by unfold uP;rw[e1]
 have e3:pU ts xs fs' (n',p',r',s',l',a',b')=pU ts xs fs (n,p',r',s',l',a,b):=by unfold pU<;>grind
 unfold eU;rw[e1,e2,e3];rfl
theorem pV(h:UE ts xs fs f):(cO (Cq (uP ts fs f)) (f.2.2.2.2.1.length:Int)/\cO (Cq (cN (cr f))) (f.2.2.2.2.1.length:Int))/\wg (Cq (uP ts fs f))/\wg (Cq (cN (cr f))):=by
 obtain⟨hpos,hle⟩:=h.fn.len;obtain⟨_,m2,m3⟩:=Cs (N:=14000001) (by omega) h.fn;have h1:=Uz (v:=uP ts fs f) (by rw[oH];omega);have h2:=Uz (v:=cN (cr f)) (by rw[bG];omega);rw[oH]at h1;rw[bG,m2]at h2;refine⟨⟨h1,h2⟩,λx hx=>?_,λx hx=>?_⟩;.have:=h.fn.acw (Nk hx);omega
 .obtain⟨k,hk,e⟩:=List.mem_map.1 (Nk hx);obtain⟨j,hj,rfl⟩:=List.mem_iff_getElem.1 hk;have:=m3 j;unfold O at this<;>grind
noncomputable def Ct(ts:List aB)(xs:List (List UInt8))(fs:List Func)(i:Nat):Func:=if(eU ts xs fs (dZ fs i) (i:Int)).2.2.2=0then((dZ fs i).1,(dZ fs i).2.1,(dZ fs i).2.2.1,(dZ fs i).2.2.2.1,(dZ fs i).2.2.2.2.1,(eU ts xs fs (dZ fs i) (i:Int)).1,(eU ts xs fs (dZ fs i) (i:Int)).2.1)else dZ fs i
noncomputable def oJ(ts:List aB)(xs:List (List UInt8))(fs:List Func)(a:Nat):List Func:=(List.range fs.length).map λi=>if i<a then Ct ts xs fs i else dZ fs i
noncomputable def wG(ts:List aB)(xs:List (List UInt8))(fs:List Func):List Func:=oJ ts xs fs fs.length
theorem jl(a:Nat):(oJ ts xs fs a).length=fs.length:=by simp[oJ]
theorem ng{a i:Nat}(hi:i<fs.length):(oJ ts xs fs a)[i]?=some (if i<a then Ct ts xs fs i else dZ fs i):=by unfold oJ<;>grind
theorem PD(hv:fE ts xs fs){i:Nat}(hi:i<fs.length):∃S L,Ct ts xs fs i=((dZ fs i).1,(dZ fs i).2.1,(dZ fs i).2.2.1,(dZ fs i).2.2.2.1,(dZ fs i).2.2.2.2.1,S,L)/\(cO S ((dZ fs i).2.2.2.2.1.length:Int)/\cO L ((dZ fs i).2.2.2.2.1.length:Int))/\wg S/\wg L:=by
 have hf:fs[i]?=some (dZ fs i):=by rw[C6 (List.getElem?_eq_getElem hi)]<;>grind
 unfold Ct;split;.rename_i he;obtain⟨h1,h2⟩:=qH hv (hv.get hf) he;obtain⟨g1,g2⟩:=pV h1<;>grind
 .obtain⟨h1,h2⟩:=hv.runs hf<;>grind
theorem xV(hv:fE ts xs fs)(a:Nat):Xf fs (oJ ts xs fs a):=by
 refine⟨jl a,λi f hf=>?_⟩;have hi:=az hf;rw[ng hi];have e:=C6 hf;split;.obtain⟨S,L,h1,h2⟩:=PD hv hi<;>grind
 .rw[e];obtain⟨h1,h2⟩:=hv.runs hf<;>grind
theorem LQ:oJ ts xs fs 0=fs:=by
 apply List.ext_getElem?;intro i;by_cases hi:i<fs.length;.rw[ng hi,if_neg (by omega),C6 (List.getElem?_eq_getElem hi)]<;>grind
 .rw[List.getElem?_eq_none (by rw[jl];omega),List.getElem?_eq_none (by omega)]
theorem EJ{a:Nat}(ha:a<fs.length):(oJ ts xs fs a).set a (Ct ts xs fs a)=oJ ts xs fs (a+1):=by
 apply List.ext_getElem?;intro i;by_cases hi:i<fs.length;.rw[List.getElem?_set,jl,ng hi,ng hi]<;>grind
 .rw[List.getElem?_eq_none (by rw[List.length_set,jl];omega),List.getElem?_eq_none (by rw[jl];omega)]
noncomputable def oU(ts:List aB)(xs:List (List UInt8))(fs:List Func)(i:Nat)(f:Func):Int:=if(eU ts xs fs f (i:Int)).2.2.2=0then(if(eU ts xs fs f (i:Int)).1=f.2.2.2.2.2.1/\(eU ts xs fs f (i:Int)).2.1=f.2.2.2.2.2.2then 0 else 32)else(eU ts xs fs f (i:Int)).2.2.2
theorem acy{N:Nat}(hN:14000000<N)(hv:fE ts xs fs){i:Nat}(hf:fs[i]?=some f):∃at',TG N (ts,xs,fs,(i:Int))=some (at',oU ts xs fs i f):=by
 rw[TG.eq_1,UD hN hv (aE hf)];simp[Option.bind_some];unfold oU;by_cases he:(eU ts xs fs f (i:Int)).2.2.2=0
 .obtain⟨h1,h2⟩:=qH hv (hv.get hf) he;obtain⟨g1,g2,g3,g4⟩:=(⟨(pV h1).1.1,(pV h1).1.2,(pV h1).2.1,(pV h1).2.2⟩:_/\_/\_/\_);have hfit:oB (f.1,f.2.1,f.2.2.1,f.2.2.2.1,f.2.2.2.2.1,Cq (uP ts fs f),Cq (cN (cr f))):=by obtain⟨q1,q2,q3,q4,q5,_⟩:=hv.fits hf;have r1:=jz g1;have r2:=jz g2;exact⟨q1,q2,by show(Cq (uP ts fs f)).length<=1000;omega,by show(Cq (cN (cr f))).length<=1000;omega,q5,g3,g4⟩
  have hs:=EE (g:=f) hfit (show 1300<N by omega);rw[show((eU ts xs fs f (i:Int)).2.2.2==0)=true by simpa using he,Nl hN h1 hf];simp[Option.bind_some,aE hf,hs];rw[h2];by_cases hq:Cq (uP ts fs f)=f.2.2.2.2.2.1/\Cq (cN (cr f))=f.2.2.2.2.2.2;.grind
  .rw[if_neg hq,bE (λh=>hq (by rw[<-h];exact⟨rfl,rfl⟩))]<;>grind
 grind
noncomputable def acz(ts:List aB)(xs:List (List UInt8))(fs:List Func):Int:=if me ts xs fs=0then(fF (oU ts xs fs) 0 fs).elim 0 λr=>r.2else me ts xs fs
theorem PE(h:me ts xs fs=0):fC ts xs fs:=by unfold me at h<;>grind
theorem acA{N:Nat}(hN:14000000<N)(hm:qU ts xs fs):F53 N (ts,xs,fs)=some (acz ts xs fs):=by
 have Qb:=hm.1.2.2.2.1;rw[F53.eq_1,F82.eq_1,Ca (show 1300<N by omega) hm];simp only[Option.bind_some];unfold acz;by_cases hc:me ts xs fs=0
 .have hv:fE ts xs fs:=⟨hm,PE hc⟩;rw[if_pos hc,show(me ts xs fs !=0)=false by simp[hc],aq];rcases fZ (l:=fs) (g:=λ_:Unit=>(.inr ():(Int×Int×Int)⊕Unit)) (Out:=λr=>∃i a e,r=.inl (i,a,e)/\(fF (oU ts xs fs) 0 fs).elim 0 (λr=>r.2)=e) (Inv:=λi _=>fF (oU ts xs fs) 0 fs=fF (oU ts xs fs) i (fs.drop i)) (Lf:=λk i _=>f82.cI N k (i,ts,xs,fs)) (λk _ _=>by simp only[f82.cI.eq_2,aM,aq]) (λk i x _ hx hI=>by
   have hi:=az hx;obtain⟨a,ha⟩:=acy hN hv hx;have hd:fs.drop i=x::fs.drop (i+1):=by rw[List.drop_eq_getElem_cons hi];rw[List.getElem?_eq_getElem hi]at hx;rw[Option.some.inj hx]
   simp only[f82.cI.eq_2,aJ hi,au,ha,Option.bind_some,aj (show i<9223372036854775807by omega)];rw[hd,fF]at hI;by_cases hz:oU ts xs fs i x=0;.rw[if_neg (λh=>h hz)]at hI;exact .inr ⟨(),hI,by rw[show(oU ts xs fs i x !=0)=false by simp[hz],aq]⟩
   .rw[if_pos hz]at hI;exact .inl ⟨_,⟨(i:Int),a,oU ts xs fs i x,rfl,by rw[hI];rfl⟩,by rw[show(oU ts xs fs i x !=0)=true by simp[bne,hz],au]⟩) (k:=N) (s:=()) rfl (by omega)with⟨r,⟨i,a,e,rfl,h2⟩,h3⟩|⟨_,h1,h3⟩;.rw[h3,h2];rfl
  .rw[h3,h1,List.drop_length];rfl
 .rw[if_neg hc,show(me ts xs fs !=0)=true by simp[bne,hc],au];rfl
theorem PG{N:Nat}(hN:14000000<N)(hv:fE ts xs fs)(hc:me ts xs fs=0):∃b,F31 N (ts,xs,fs)=some (ts,xs,wG ts xs fs,b):=by
 have Qb:=hv.fns;obtain⟨f0,h0⟩:∃f0,fs[0]?=some f0:=⟨_,List.getElem?_eq_getElem (by omega)⟩;have al3:xs.length<=32:=hv.C5.2.1;obtain⟨r1,r2,r3,r4⟩:=wE (hv.fits h0);have key:=kE (n:=fs.length) (Lf:=λk i=>f31.eG N k (i,ts,xs,fs,ts,xs,fs.take i.toNat,ts,xs,fs)) (g:=λ_=>some (ts,xs,fs,ts,xs,fs)) (λk=>by simp only[f31.eG.eq_2,aM,aq,Int.toNat_natCast,List.take_length]) (λk i hi ih=>by have hx:=List.getElem?_eq_getElem hi;obtain⟨q1,q2,q3,q4⟩:=wE (hv.fits hx);simp only[Int.toNat_natCast]at ih⊢;simp only[f31.eG.eq_2,aJ hi,au,aE hx,Option.bind_some,q1,q2,q3,q4,ai,List.nil_append,af (show(fs.take i).length+1<=10000000by rw[List.length_take];omega) (show 128<=1000by omega),aj (show i<9223372036854775807by omega)];rw[<-ih,take_succ hx]) N 1 (by omega) (by omega);have htk:fs.take 1=[f0]:=by rw[take_succ h0];rfl
 rw[show(((1:Nat):Int)).toNat=1from rfl,htk,show((1:Nat):Int)=1from rfl]at key;have k2:=kE (n:=fs.length) (Lf:=λk a=>f31.cI N k (a,ts,xs,oJ ts xs fs a.toNat)) (g:=λ_=>some (ts,xs,wG ts xs fs)) (λk=>by rw[Int.toNat_natCast,f31.cI.eq_2,jl,aM,aq];rfl) (λk a ha ih=>by
  have hR:=xV hv a;have kO:=hR.PC hv;have hf:fs[a]?=some (dZ fs a):=by rw[C6 (List.getElem?_eq_getElem ha)];exact List.getElem?_eq_getElem ha
  have hg:(oJ ts xs fs a)[a]?=some (dZ fs a):=by rw[ng ha,if_neg (by omega)]
  have hl:eU ts xs (oJ ts xs fs a) (dZ fs a) (a:Int)=eU ts xs fs (dZ fs a) (a:Int):=Xg hR.eL rfl _;have hal:a<(oJ ts xs fs a).length:=by rw[jl];exact ha
  simp only[Int.toNat_natCast]at ih⊢;simp only[f31.cI.eq_2,aJ hal,au,UD hN kO (aE hg),Option.bind_some,hl,aj (show a<9223372036854775807by omega)];have hw:Ct ts xs fs a=if(eU ts xs fs (dZ fs a) (a:Int)).2.2.2=0then((dZ fs a).1,(dZ fs a).2.1,(dZ fs a).2.2.1,(dZ fs a).2.2.2.1,(dZ fs a).2.2.2.2.1,(eU ts xs fs (dZ fs a) (a:Int)).1,(eU ts xs fs (dZ fs a) (a:Int)).2.1)else dZ fs a:=rfl;by_cases he:(eU ts xs fs (dZ fs a) (a:Int)).2.2.2=0;.rw[if_pos he]at hw;obtain⟨h1,h2⟩:=qH kO (kO.get hg) (by rw[hl];exact he);rw[hl]at h2;rw[h2]at hw;rw[show((eU ts xs fs (dZ fs a) (a:Int)).2.2.2==0)=true by simpa using he,au,Nl hN h1 hg];simp only[Option.bind_some,bS hal,ai,Int.toNat_natCast,hg];simp only at hw;rw[<-hw,EJ ha];exact ih
  .rw[if_neg he]at hw;rw[show((eU ts xs fs (dZ fs a) (a:Int)).2.2.2==0)=false by simpa using he,aq,<-ih,<-EJ ha,hw,BR hg]) N 0 (by omega) (by omega);rw[show(((0:Nat):Int)).toNat=0from rfl,LQ,show((0:Nat):Int)=0from rfl]at k2;have acm:=acA hN ((xV hv fs.length).PC hv).fit;have e0:idx fs 0=some f0:=aE (i:=0) h0;refine⟨acz ts xs (wG ts xs fs)==0,?_⟩;rw[F31.eq_1,JB (show 1300<N by omega) hv.fit];simp only[Option.bind_some,af (show 0+xs.length<=10000000by omega) (show 16<=1000by omega),ai,bI (show(0:Int)<(fs.length:Int)by omega),au,e0,r1,r2,r3,r4,Zy,List.nil_append,key,Ca (show 1300<N by omega) hv.fit,hc,show((0:Int)!=0)=false from rfl,aq,k2];rw[show oJ ts xs fs fs.length=wG ts xs fs from rfl]at acm<;>grind
end
theorem LR{N i:Nat}{ts:List aB}{xs:List (List UInt8)}{fs:List Func}{f:Func}{S L:List fm}{q:Int}(hc:F43 N (ts,xs,fs)=some 0)(hf:fs[i]?=some f)(h1:f.2.2.2.1.length<=1000)(h2:f.2.2.2.2.1.length<=1000)(hl:YE N (ts,xs,fs,(i:Int))=some (S,L,q,0)):F25 N (ts,xs,fs,(i:Int))=some (f.1,f.2.1,f.2.2.1,f.2.2.2.1,f.2.2.2.2.1,S,L,0):=by
 have hi:=az hf;have hw:F44 N (fs,(i:Int))=some true:=by rw[F44.eq_1]<;>grind
 rw[F25.eq_1,hc];simp[Option.bind_some,show((0:Int)!=0)=false from rfl,aq,hw,Bool.not_true,hl,aE hf,af (show f.2.2.2.1.length<=10000000by omega) (show 24<=1000by omega),af (show f.2.2.2.2.1.length<=10000000by omega) (show 32<=1000by omega),ai]
theorem PI{N:Nat}{ts:List aB}{xs:List (List UInt8)}{fs D:List Func}(hN:500<N)(hlen:D.length=fs.length)(Qb:fs.length<=100)(hT:∀(i:Nat)(x:Func),D[i]?=some x->F25 N (ts,xs,fs,(i:Int))=some (x.1,x.2.1,x.2.2.1,x.2.2.2.1,x.2.2.2.2.1,x.2.2.2.2.2.1,x.2.2.2.2.2.2,0)):YG N (ts,xs,fs)=some (ts,xs,D,0):=by
 obtain⟨s,⟨h1,h2⟩,he⟩:=eS (l:=D) (g:=λs:List Func=>(.inr (ts,xs,fs,s):Int⊕_)) (Inv:=λi s=>s.length=D.length/\∀j,j<i->s[j]?=D[j]?) (Lf:=λk i s=>f12.bx N k ((D.length:Int),i,ts,xs,fs,s)) (λk s _=>by simp only[f12.bx.eq_2,aM,aq]) (λk i x s hx⟨h1,h2⟩=>by
   have hi:=az hx;have Qw:i<s.length:=by omega
   refine⟨s.set i x,⟨by simp[h1],λj hj=>?_⟩,?_⟩
   .rw[List.getElem?_set];split;.rename_i e;subst e;simp only[hx]
    .exact h2 j (by omega)
   .simp only[f12.bx.eq_2,aJ hi,au,hT i x hx,Option.bind_some,show((0:Int)!=0)=false from rfl,aq,bS Qw,ai,Int.toNat_natCast,List.getElem?_eq_getElem Qw,aj (show i<9223372036854775807by omega)]) (k:=N) (s:=List.replicate fs.length (([]:List UInt8),(0:Int),(0:Int),[],[],[],[])) ⟨by simp[hlen],λj hj=>by omega⟩ (by omega);have e:s=D:=List.ext_getElem? λj=>by
  by_cases hj:j<D.length;.exact h2 j hj
  .rw[List.getElem?_eq_none (by omega),List.getElem?_eq_none (by omega)]
 subst e;rw[YG.eq_1];rw[hlen]at he;simp[Int.toNat_natCast,show decide ((0:Int)<=(fs.length:Int))=true by simp,ai,Nat.le_refl,decide_true,Bool.true_and,af (show fs.length<=10000000by omega) (show 128<=1000by omega),he,Option.bind_some]
theorem Xh{N:Nat}{ts:List aB}{xs:List (List UInt8)}{fs:List Func}(hN:14000000<N)(hv:fE ts xs fs)(hc:me ts xs fs=0)(hg:∀i,i<fs.length->(eU ts xs fs (dZ fs i) (i:Int)).2.2.2=0):YG N (ts,xs,fs)=some (ts,xs,wG ts xs fs,0):=by
 have Qb:=hv.fns;refine PI (by omega) (jl _) (by omega) λi x hx=>?_;have hi:i<fs.length:=by have:=az hx;unfold wG at this;rwa[jl]at this
 have hf:fs[i]?=some (dZ fs i):=by rw[C6 (List.getElem?_eq_getElem hi)]<;>grind
 have he:=hg i hi;unfold wG at hx;rw[ng hi,if_pos hi]at hx;have hx:=Option.some.inj hx;unfold Ct at hx;rw[if_pos he]at hx;obtain⟨h1,h2⟩:=qH hv (hv.get hf) he;have hl:=Zx hN hv (aE hf);rw[h2]at hl hx;have hfit:=hv.fits hf;rw[LR (by rw[Jg (by omega) hv.fit,hc]) hf (by have:=hfit.1;omega) (by have:=hfit.2.1;omega) hl,<-hx]
theorem Xi{N:Nat}{ts:List aB}{xs:List (List UInt8)}{fs:List Func}(hN:14000000<N)(hv:fE ts xs fs)(hc:me ts xs fs=0)(hg:∀i,i<fs.length->(eU ts xs fs (dZ fs i) (i:Int)).2.2.2=0):∃D b,YG N (ts,xs,fs)=some (ts,xs,D,0)/\F31 N (ts,xs,fs)=some (ts,xs,D,b)/\F8 N (ts,xs,D,ts,xs,D)=some true:=by obtain⟨b,hb⟩:=PG hN hv hc;refine⟨wG ts xs fs,b,Xh hN hv hc hg,hb,?_⟩;have hi:qU ts xs (wG ts xs fs):=((xV hv fs.length).PC hv).fit;rw[Nb (by omega) hi]<;>grind
end Go.Proofs.YtgkllgjmfpjeoaaGreatDoor
