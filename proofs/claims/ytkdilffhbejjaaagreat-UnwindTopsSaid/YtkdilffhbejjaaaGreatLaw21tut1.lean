/- A part of the proof: Law21tg8, Law21tg9, Law21tut1. -/
import Derived.Test.YtkdilffhbejjaaaGreatLaw21tg7
import Derived.Test.YtkdilffhbejjaaaGreatLaw21tt
set_option linter.unusedVariables false
set_option linter.unusedSimpArgs false
namespace Go.Proofs.YtkdilffhbejjaaaGreat
open Go Go.bM Go.Sym
open Classical
section
variable{ts:List aA}{xs:List (List UInt8)}{fs:List Func}{f:Func}
theorem gS.fits(hv:gS ts xs fs){i:Nat}(h:fs[i]?=some f):tO f:=hv.fit.1.2.2.2.2 f (aU h)
theorem instrR{N:Nat}(hN:1300<N)(hv:gS ts xs fs){g:Int}(hf:idx fs g=some f)(hok:eX ts.length f){i:Nat}{x:Instr}(hx:f.2.2.2.2.1[i]?=some x)(r:Bool):PV N (ts,xs,fs,g,(i:Int),r)=some (if nB xs.length (fD fs) f.2.2.2.1 x then(if r=true then(if Kq ts (fD fs) f.2.2.2.1 f.2.2.1 x=true then 0 else 30)else 6)else 16):=by
 have hc:=hok.2.2.2.2.2.2.2.1 x (aU hx);rw[PV.eq_1,hf];simp only[ae,aD hx,ali hN hf hc];by_cases hn:nB xs.length (fD fs) f.2.2.2.1 x;.rw[aS hn,bb hn,da];cases r with|false=>rfl|true=>rw[aeL hv hok hc hn hf]<;>grind
 grind
theorem aeT{N:Nat}(hN:14000000<N)(hv:gS ts xs fs){g:Int}(hf:idx fs g=some f):Vc N (ts,xs,fs,g)=some ((fE ts xs fs f g).2.2.1,(fE ts xs fs f g).2.2.2):=by
 obtain⟨g0,qP⟩:=sO hf;have hok:=hv.get qP;have hfit:=hv.fits qP;obtain⟨hpos,hle⟩:=hok.2.2.2.2.2.2.1;have QC:=hok.2.2.2.2.2.2.2.1;unfold fE;rw[Vc.eq_1,hf];simp[ae,ME (N:=N) (l:=f.2.2.2.2.1) (by omega) (by omega) hfit.2.2.2.2.1];by_cases hval:jX f.2.2.2.2.1=true;case neg=>grind
 rw[bb hval,hval];have hvc:=xh hval;have hp0:=hok.2.2.2.1.1;have hr0:=hok.2.2.2.2.1.1;by_cases Kw:g=0/\(0<f.2.1\/0<=f.2.2.1);.grind
 rw[be Kw];have hmn:(bif g==(0:Int)then(bif f.2.1!=0then some true else some (f.2.2.1!=-1))else some false:Option Bool)=some false:=by
  by_cases h0:g=0;.rw[show(g==(0:Int))=true by simpa using h0,aq,dg];congr 1;grind
  grind
 rw[hmn];simp[ae,af,Ww hvc (show 500<N by omega),uv hpos (show f.2.2.2.2.1.length<=10000000by omega)];have l1:=rL (l:=f.2.2.2.2.1) (p:=rM ts xs fs f) (a:=(.inr (g,ts,xs,fs,f.1,f.2.1,f.2.2.1,f.2.2.2.1,f.2.2.2.2.1,f.2.2.2.2.2.1,f.2.2.2.2.2.2):(Int×Int)⊕_)) (out:=λi e=>.inl (i,e)) (Lf:=λk i=>f129.eE N k (g,ep f.2.2.2.2.1,((f.2.2.2.2.1.length-1:Nat):Int),i,ts,xs,fs,f.1,f.2.1,f.2.2.1,f.2.2.2.1,f.2.2.2.2.1,f.2.2.2.2.2.1,f.2.2.2.2.2.2)) (λk=>by simp only[f129.eE.eq_2,aJ,af]) (λk i x hx=>by
   have hi:=aC hx;simp only[f129.eE.eq_2,aG hi,aq,aD (kq hi),ae,instrR (show 1300<N by omega) hv hf hok hx,ai (show i<9223372036854775807by omega),ym];have key:(bif decide (Reach f.2.2.2.2.1 i)then(if nB xs.length (fD fs) f.2.2.2.1 x then(if True then(if Kq ts (fD fs) f.2.2.2.1 f.2.2.1 x=true then 0 else 30)else 6)else 16:Int)else(if nB xs.length (fD fs) f.2.2.2.1 x then(if((i:Int)==((f.2.2.2.2.1.length-1:Nat):Int))=true then(if Kq ts (fD fs) f.2.2.2.1 f.2.2.1 x=true then 0 else 30)else 6)else 16:Int))=rM ts xs fs f i x:=by
    by_cases h1:Reach f.2.2.2.2.1 i;.rw[aS h1,aq];unfold rM;rw[bb (show yN f.2.2.2.2.1 i from .inl h1),bb trivial]
    .rw[aM h1,af];unfold rM;by_cases h2:i=f.2.2.2.2.1.length-1;.rw[bb (show yN f.2.2.2.2.1 i from .inr h2),bb (show((i:Int)==((f.2.2.2.2.1.length-1:Nat):Int))=true by rw[kv];omega)]
     .rw[be (show¬yN f.2.2.2.2.1 i fromλh=>h.elim h1 h2),be (show¬((i:Int)==((f.2.2.2.2.1.length-1:Nat):Int))=true by rw[kv];omega)]
   rw[key];by_cases hz:rM ts xs fs f i x=0;.rw[be (λh=>h hz),show(rM ts xs fs f i x !=0)=false by simp[hz],af]
   .rw[bb hz,show(rM ts xs fs f i x !=0)=true by simp[bne,hz],aq]) (k:=N) (by omega);simp[l1,ae];cases he:eZ (rM ts xs fs f) 0 f.2.2.2.2.1with
 |some r=>rfl
 |none=>have hz:=pL he;have hfn:Fn ts xs fs f:=⟨hv,hok,hval,λx hx=>by
   obtain⟨i,hi,rfl⟩:=f8.1 hx;have:=hz i _ (al hi);unfold rM at this;split at this;.assumption
   .cases this⟩;obtain⟨r,c,s1,s2,s3⟩:=Kt (show 1300<N by omega) hfn hf;have m1:=WD hN hfn;obtain⟨_,m2,m3⟩:=HH hN hfn;simp[t8,s1,ae];cases c with|false=>grind|true=>
   rw[bb (s2.1 rfl)];simp[da,af,m1,ae];have l3:∀(i:Nat)x,f.2.2.2.2.1[i]?=some x->f129.Aa N N (cN (cA f),(i:Int),bg mD x,0,f.1,f.2.1,f.2.2.1,f.2.2.2.1,f.2.2.2.2.1,f.2.2.2.2.2.1,f.2.2.2.2.2.2)=some (if qz (cA f) i x≠0then .inl ((i:Int),38)else .inr (cN (cA f),(i:Int),f.1,f.2.1,f.2.2.1,f.2.2.2.1,f.2.2.2.2.1,f.2.2.2.2.2.1,f.2.2.2.2.2.2)):=λi x hx=>by
    have hi:=aC hx;have h15:=(oM (QC x (aU hx))).1;have WW:(cN (cA f))[i]?=some ((O (cA f) i:Nat):Int):=gH (by omega);have hrl:=kr mD x;have:=fN (l:=bg mD x) (a:=(.inr (cN (cA f),(i:Int),f.1,f.2.1,f.2.2.1,f.2.2.2.1,f.2.2.2.2.1,f.2.2.2.2.2.1,f.2.2.2.2.2.2):(Int×Int)⊕_)) (b:=.inl ((i:Int),38)) (p:=λs=>!((O (cA f) i).testBit s.toNat)) (Lf:=λk j=>f129.Aa N k (cN (cA f),(i:Int),bg mD x,j,f.1,f.2.1,f.2.2.1,f.2.2.2.1,f.2.2.2.2.1,f.2.2.2.2.2.1,f.2.2.2.2.2.2)) (λk _=>by simp only[f129.Aa.eq_2,aJ,af]) (λk j s hs hm=>by have hj:=aC hs;obtain⟨b0,b1⟩:=h15 s hm;simp only[f129.Aa.eq_2,aG hj,aq,aD hs,ae,aD WW,show(!decide (s<0))=true by simp;omega,aj,aqm b0 b1,ai (show j<9223372036854775807by omega)];cases(O (cA f) i).testBit s.toNat<;>rfl) (k:=N) (by omega);rw[this];unfold qz;by_cases hall:∀s,s∈bg mD x->(O (cA f) i).testBit s.toNat=true;.rw[bb hall,be (λ⟨s,h1,h2⟩=>by rw[hall s h1]at h2;cases h2),be (by decide)]
    .have hex:∃s,s∈bg mD x/\(!((O (cA f) i).testBit s.toNat))=true:=by rw[Classical.not_forall]at hall;obtain⟨s,hs⟩:=hall;rw[Classical.not_imp]at hs;exact⟨s,hs.1,by rw[eK];exact t7.2 hs.2⟩
     rw[bb hex,be hall,bb (show(38:Int)≠0 by decide)]
   have l2:=rL (l:=f.2.2.2.2.1) (p:=qz (cA f)) (a:=(.inr ():(Int×Int)⊕Unit)) (out:=λi e=>.inl (i,e)) (Lf:=λk i=>f129.je N k (cN (cA f),i,f.1,f.2.1,f.2.2.1,f.2.2.2.1,f.2.2.2.2.1,f.2.2.2.2.2.1,f.2.2.2.2.2.2)) (λk=>by simp only[f129.je.eq_2,aJ,af]) (λk i x hx=>by
     have hi:=aC hx;simp only[f129.je.eq_2,aG hi,aq,aD hx,ae,vA N (QC x (aU hx)),l3 i x hx];by_cases hz:qz (cA f) i x=0;.simp only[be (show¬qz (cA f) i x≠0fromλh=>h hz),ai (show i<9223372036854775807by omega)]
     .have e38:qz (cA f) i x=38:=by
       unfold qz at hz⊢;split at hz;.exact absurd rfl hz
       .rename_i h;rw[be h]
      simp only[bb (show qz (cA f) i x≠0from hz)];rw[e38]) (k:=N) (by omega);rw[l2];cases eZ (qz (cA f)) 0 f.2.2.2.2.1with|some r=>rfl|none=>rfl
structure WE(ts:List aA)(xs:List (List UInt8))(fs:List Func)(f:Func):Prop where
 fn:Fn ts xs fs f
 sc:uy f.2.2.2.2.1 (eL ts fs f)
theorem DA(hv:gS ts xs fs)(hok:eX ts.length f){g:Int}(h:(fE ts xs fs f g).2.2.2=0):WE ts xs fs f/\fE ts xs fs f g=(xw (tT ts fs f),xw (cN (cA f)),0,0):=by
 unfold fE at h⊢;split at h;case isFalse=>grind
 rename_i hval;rw[bb hval];split at h;.grind
 rename_i Kw;rw[be Kw];cases he:eZ (rM ts xs fs f) 0 f.2.2.2.2.1with|some r=>rw[he]at h;exact absurd h (yM he)|none=>
  rw[he]at h;split at h;case isFalse=>grind
  rename_i hsc;rw[bb hsc];have hz:=pL he;refine⟨⟨⟨hv,hok,hval,λx hx=>?_⟩,hsc⟩,?_⟩;.obtain⟨i,hi,rfl⟩:=f8.1 hx;have:=hz i _ (al hi);unfold rM at this<;>grind
  .cases hl:eZ (qz (cA f)) 0 f.2.2.2.2.1with|some r=>rw[hl]at h;exact absurd h (yM hl)|none=>rfl
theorem WG{N:Nat}(hN:1300<N)(hm:iQ ts xs fs):Ve N ts=some ts:=by obtain⟨⟨m1,m2,m3,m4,m5⟩,_⟩:=hm;have htl:=m1.1;have k1:=gO (l:=ts) (enc:=λt=>[t]) (g:=id) (B:=1000) (m:=1) (Lf:=λk i s=>f216.bz N k (ts,s,i)) (λk s=>by simp only[f216.bz.eq_2,aJ,af];rfl) (λk i x s hx Rf hB=>by obtain⟨j,hj,rfl⟩:=qx ty0 Rf;have hf:=(m1.2 j hj).1;simp only[dQ]at hf;simp only[f216.bz.eq_2,aG (aC hx),aq,aD hx,ae,ak (show 0+(ts.getD j ty0).2.2.2.length<=10000000by omega) (show 24<=1000by omega),ak (show s.length+1<=10000000by omega) (show 48<=1000by omega),aj,gc,ai (show i<9223372036854775807by have:=aC hx;omega)]) (λx _=>by simp) (k:=N) (s:=[]) (by omega) (by simp;omega);rw[Qj,gc]at k1;rw[Ve.eq_1,k1,ae,id]
theorem WH(h:tO f):room (0+f.2.2.2.1.length) 24=true/\room (0+f.2.2.2.2.1.length) 32=true/\room (0+f.2.2.2.2.2.1.length) 16=true/\room (0+f.2.2.2.2.2.2.length) 16=true:=by obtain⟨g1,g2,g3,g4,_⟩:=h;exact⟨ak (by omega) (by omega),ak (by omega) (by omega),ak (by omega) (by omega),ak (by omega) (by omega)⟩
theorem Zh{N:Nat}(hN:14000000<N)(h:WE ts xs fs f){g:Nat}(hf:fs[g]?=some f):Vi N (ts,xs,fs,(g:Int))=some (f.1,f.2.1,f.2.2.1,f.2.2.2.1,f.2.2.2.2.1,xw (tT ts fs f),xw (cN (cA f))):=by
 have hv:=h.fn.img;obtain⟨hpos,hle⟩:=h.fn.len;have hgl:=aC hf;have h32:=hv.fns.2;have awN:xs.length<=32:=hv.HB.2.1;have key:=jP (n:=fs.length) (Lf:=λk i=>f131.kj N k (i,ts,xs,fs,ts,xs,fs.take i.toNat,ts,xs,fs,[],0,0)) (g:=λ_=>some (ts,xs,fs,ts,xs,fs,[],0,0)) (λk=>by simp only[f131.kj.eq_2,aJ,af,bd,fi]) (λk i hi ih=>by have hx:=al hi;obtain⟨q1,q2,q3,q4⟩:=WH (hv.fits hx);simp only[bd]at ih⊢;simp only[f131.kj.eq_2,aG hi,aq,aD hx,ae,q1,q2,q3,q4,aj,gc,ak (show(fs.take i).length+1<=10000000by rw[lr];omega) (show 128<=1000by omega),ai (show i<9223372036854775807by omega)];rw[<-ih,take_succ hx]) N 0 (by omega) (by omega);rw[show(((0:Nat):Int)).toNat=0from rfl,wl,show((0:Nat):Int)=0from rfl]at key;obtain⟨r,c,s1,s2,s3⟩:=Kt (show 1300<N by omega) h.fn (aD hf);have hc:=s2.2 h.sc;have hr:=s3 hc;subst hc hr;have k2:=fO (l:=(List.range f.2.2.2.2.1.length).map (FM f.2.2.2.2.1 (eL ts fs f))) (g:=λs:List Int=>(s,([]:List UInt8),(0:Int),(0:Int),f)) (Inv:=λi s=>s=(tT ts fs f).take i) (Lf:=λk i s=>f131.aP N k ((List.range f.2.2.2.2.1.length).map (FM f.2.2.2.2.1 (eL ts fs f)),s,i,ts,xs,fs,[],0,0,f.1,f.2.1,f.2.2.1,f.2.2.2.1,f.2.2.2.2.1,f.2.2.2.2.2.1,f.2.2.2.2.2.2)) (λk s _=>by simp only[f131.aP.eq_2,aJ,af]) (λk i x s hx hs=>by
   have hi:=aC hx;have yY:i<f.2.2.2.2.1.length:=by simpa using hi
   rw[eJ,py yY]at hx;have hx:=fb hx;obtain⟨o1,o2⟩:=h.fn.MM i;rw[hx]at o1 o2;obtain⟨b1,b2⟩:=o1.oN hv;have cj:s.length<=200:=by rw[hs,lr,pK];omega
   have hz:(tT ts fs f)[i]?=some (oN ts x):=by unfold tT;rw[eJ,py yY,<-hx];rfl
   have hgx:idx ((List.range f.2.2.2.2.1.length).map (FM f.2.2.2.2.1 (eL ts fs f))) (i:Int)=some x:=aD (by rw[eJ,py yY,<-hx];rfl);refine⟨s++[oN ts x],by rw[hs,take_succ hz],?_⟩;simp only[f131.aP.eq_2,aG hi,aq,hgx,ae,MJ (show 1300<N by omega) hv o1 (show x.length<=1000by omega),ak (show s.length+1<=10000000by omega) (show 8<=1000by omega),aj,aR (n:=oN ts x) (by omega),ai (show i<9223372036854775807by omega)]) (k:=N) (s:=[]) rfl (by simp;omega);obtain⟨s,hs,k2⟩:=k2;have hs:s=tT ts fs f:=by
  rw[hs];have:((List.range f.2.2.2.2.1.length).map (FM f.2.2.2.2.1 (eL ts fs f))).length=(tT ts fs f).length:=by simp[pK]
  rw[this,fi]
 subst hs;have m1:=WD hN h.fn;obtain⟨_,m2,_⟩:=HH hN h.fn;have d1:=aba (N:=N) (v:=tT ts fs f) (by omega) (by rw[pK];omega);have d2:=aba (N:=N) (v:=cN (cA f)) (by omega) (by rw[bL];omega);rw[Vi.eq_1,WG (show 1300<N by omega) hv.fit];simp only[ae,ak (show 0+xs.length<=10000000by omega) (show 16<=1000by omega),aj,gc,key,aD hf,s1,k2,d1,m1,d2]
end
end Go.Proofs.YtkdilffhbejjaaaGreat
namespace Go.Proofs.YtkdilffhbejjaaaGreat
open Go Go.bM Go.Sym
open Classical
structure Rer(fs fs':List Func):Prop where
 len:fs'.length=fs.length
 get:∀(i:Nat)(f:Func),fs[i]?=some f->∃S L,fs'[i]?=some (f.1,f.2.1,f.2.2.1,f.2.2.2.1,f.2.2.2.2.1,S,L)/\(dF S (f.2.2.2.2.1.length:Int)/\dF L (f.2.2.2.2.1.length:Int))/\Hp S/\Hp L
section
variable{ts:List aA}{xs:List (List UInt8)}{fs fs':List Func}{f f':Func}
theorem alr{fs:List Func}{i:Nat}{f:Func}(h:fs[i]?=some f):gj fs i=f:=by unfold gj<;>grind
theorem Rer.at(h:Rer fs fs'){i:Nat}(hi:i<fs.length):∃S L,gj fs' i=((gj fs i).1,(gj fs i).2.1,(gj fs i).2.2.1,(gj fs i).2.2.2.1,(gj fs i).2.2.2.2.1,S,L)/\(dF S ((gj fs i).2.2.2.2.1.length:Int)/\dF L ((gj fs i).2.2.2.2.1.length:Int))/\Hp S/\Hp L:=by have e:=al hi;obtain⟨S,L,h1,h2⟩:=h.get i _ e;rw[alr e,alr h1];exact⟨S,L,rfl,h2⟩
theorem Rer.name(h:Rer fs fs')(i:Nat):(gj fs' i).1=(gj fs i).1:=by
 by_cases hi:i<fs.length;.obtain⟨S,L,e,_⟩:=h.at hi<;>grind
 .unfold gj;rw[ci,ci,dT (by rw[h.len];omega),dT (by omega)]
theorem Rer.fD(h:Rer fs fs'):fD fs'=Go.Proofs.YtkdilffhbejjaaaGreat.fD fs:=by
 apply la;intro i;unfold Go.Proofs.YtkdilffhbejjaaaGreat.fD;rw[eJ,eJ];by_cases hi:i<fs.length;.obtain⟨S,L,h1,_⟩:=h.get i _ (al hi);rw[h1,al hi];rfl
 .rw[dT (by rw[h.len];omega),dT (by omega)]
theorem gS.runs(hv:gS ts xs fs){i:Nat}(hi:fs[i]?=some f):(dF f.2.2.2.2.2.1 (f.2.2.2.2.1.length:Int)/\dF f.2.2.2.2.2.2 (f.2.2.2.2.1.length:Int))/\Hp f.2.2.2.2.2.1/\Hp f.2.2.2.2.2.2:=by obtain⟨_,_,_,_,_,_,_,_,h1,h2⟩:=hv.get hi;obtain⟨_,_,_,_,_,h3,h4⟩:=hv.fits hi<;>grind
theorem amb(hS:fD fs'=fD fs)(hf:sg f'=sg f)(g:Int):fE ts xs fs' f' g=fE ts xs fs f g:=by
 obtain⟨n,p,r,s,l,a,b⟩:=f;obtain⟨n',p',r',s',l',a',b'⟩:=f';unfold sg at hf;simp at hf;obtain⟨rfl,rfl,rfl,rfl⟩:=hf;have e1:eL ts fs' (n',p',r',s',l',a',b')=eL ts fs (n,p',r',s',l',a,b):=by unfold eL;rw[hS]
 have e2:tT ts fs' (n',p',r',s',l',a',b')=tT ts fs (n,p',r',s',l',a,b):=by unfold tT;rw[e1]
 have e3:rM ts xs fs' (n',p',r',s',l',a',b')=rM ts xs fs (n,p',r',s',l',a,b):=by unfold rM<;>grind
 unfold fE;rw[e1,e2,e3];rfl
theorem qA(h:WE ts xs fs f):(dF (xw (tT ts fs f)) (f.2.2.2.2.1.length:Int)/\dF (xw (cN (cA f))) (f.2.2.2.2.1.length:Int))/\Hp (xw (tT ts fs f))/\Hp (xw (cN (cA f))):=by
 obtain⟨hpos,hle⟩:=h.fn.len;obtain⟨_,m2,m3⟩:=HH (N:=14000001) (by omega) h.fn;have h1:=WB (v:=tT ts fs f) (by rw[pK];omega);have h2:=WB (v:=cN (cA f)) (by rw[bL];omega);rw[pK]at h1;rw[bL,m2]at h2;refine⟨⟨h1,h2⟩,λx hx=>?_,λx hx=>?_⟩;.have:=h.fn.aeS (Ob hx);omega
 .obtain⟨k,hk,e⟩:=im.1 (Ob hx);obtain⟨j,hj,rfl⟩:=f8.1 hk;have:=m3 j;unfold O at this<;>grind
noncomputable def als(ts:List aA)(xs:List (List UInt8))(fs:List Func)(i:Nat):Func:=if(fE ts xs fs (gj fs i) (i:Int)).2.2.2=0then((gj fs i).1,(gj fs i).2.1,(gj fs i).2.2.1,(gj fs i).2.2.2.1,(gj fs i).2.2.2.2.1,(fE ts xs fs (gj fs i) (i:Int)).1,(fE ts xs fs (gj fs i) (i:Int)).2.1)else gj fs i
noncomputable def alu(ts:List aA)(xs:List (List UInt8))(fs:List Func)(a:Nat):List Func:=(List.range fs.length).map λi=>if i<a then als ts xs fs i else gj fs i
noncomputable def auw(ts:List aA)(xs:List (List UInt8))(fs:List Func):List Func:=alu ts xs fs fs.length
noncomputable def lE(ts:List aA)(xs:List (List UInt8))(fs:List Func)(i:Nat)(f:Func):Int:=if(fE ts xs fs f (i:Int)).2.2.2=0then(if(fE ts xs fs f (i:Int)).1=f.2.2.2.2.2.1/\(fE ts xs fs f (i:Int)).2.1=f.2.2.2.2.2.2then 0 else 32)else(fE ts xs fs f (i:Int)).2.2.2
theorem aeU{N:Nat}(hN:14000000<N)(hv:gS ts xs fs){i:Nat}(hf:fs[i]?=some f):∃HR,F98 N (ts,xs,fs,(i:Int))=some (HR,lE ts xs fs i f):=by
 rw[F98.eq_1,aeT hN hv (aD hf)];simp[ae];unfold lE;by_cases he:(fE ts xs fs f (i:Int)).2.2.2=0
 .obtain⟨h1,h2⟩:=DA hv (hv.get hf) he;obtain⟨g1,g2,g3,g4⟩:=(⟨(qA h1).1.1,(qA h1).1.2,(qA h1).2.1,(qA h1).2.2⟩:_/\_/\_/\_);have hfit:tO (f.1,f.2.1,f.2.2.1,f.2.2.2.1,f.2.2.2.2.1,xw (tT ts fs f),xw (cN (cA f))):=by obtain⟨q1,q2,q3,q4,q5,_⟩:=hv.fits hf;have r1:=oJ g1;have r2:=oJ g2;exact⟨q1,q2,by show(xw (tT ts fs f)).length<=1000;omega,by show(xw (cN (cA f))).length<=1000;omega,q5,g3,g4⟩
  have hs:=Qk (g:=f) hfit (show 1300<N by omega);rw[show((fE ts xs fs f (i:Int)).2.2.2==0)=true by simpa using he,Zh hN h1 hf];simp[ae,aD hf,hs];rw[h2];by_cases hq:xw (tT ts fs f)=f.2.2.2.2.2.1/\xw (cN (cA f))=f.2.2.2.2.2.2;.grind
  .rw[be hq,aM (λh=>hq (by rw[<-h];exact⟨rfl,rfl⟩))]<;>grind
 grind
noncomputable def MP(ts:List aA)(xs:List (List UInt8))(fs:List Func):Int:=if jD ts xs fs=0then(eZ (lE ts xs fs) 0 fs).elim 0 λr=>r.2else jD ts xs fs
theorem FN(h:jD ts xs fs=0):dZ ts xs fs:=by unfold jD at h<;>grind
theorem aeV{N:Nat}(hN:14000000<N)(hm:iQ ts xs fs):F43 N (ts,xs,fs)=some (MP ts xs fs):=by
 have h32:=hm.1.2.2.2.1;rw[F43.eq_1,F70.eq_1,Mp (show 1300<N by omega) hm];simp only[ae];unfold MP;by_cases hc:jD ts xs fs=0
 .have hv:gS ts xs fs:=⟨hm,FN hc⟩;rw[bb hc,show(jD ts xs fs !=0)=false by simp[hc],af];rcases de (l:=fs) (g:=λ_:Unit=>(.inr ():(Int×Int×Int)⊕Unit)) (Out:=λr=>∃i a e,r=.inl (i,a,e)/\(eZ (lE ts xs fs) 0 fs).elim 0 (λr=>r.2)=e) (Inv:=λi _=>eZ (lE ts xs fs) 0 fs=eZ (lE ts xs fs) i (fs.drop i)) (Lf:=λk i _=>f70.cI N k (i,ts,xs,fs)) (λk _ _=>by simp only[f70.cI.eq_2,aJ,af]) (λk i x _ hx hI=>by
   have hi:=aC hx;obtain⟨a,ha⟩:=aeU hN hv hx;have hd:fs.drop i=x::fs.drop (i+1):=by rw[ib hi];rw[al hi]at hx;rw[fb hx]
   simp only[f70.cI.eq_2,aG hi,aq,ha,ae,ai (show i<9223372036854775807by omega)];rw[hd,eZ]at hI;by_cases hz:lE ts xs fs i x=0;.rw[be (λh=>h hz)]at hI;exact .inr ⟨(),hI,by rw[show(lE ts xs fs i x !=0)=false by simp[hz],af]⟩
   .rw[bb hz]at hI;exact .inl ⟨_,⟨(i:Int),a,lE ts xs fs i x,rfl,by rw[hI];rfl⟩,by rw[show(lE ts xs fs i x !=0)=true by simp[bne,hz],aq]⟩) (k:=N) (s:=()) rfl (by omega)with⟨r,⟨i,a,e,rfl,h2⟩,h3⟩|⟨_,h1,h3⟩;.rw[h3,h2];rfl
  .rw[h3,h1,rf];rfl
 .rw[be hc,show(jD ts xs fs !=0)=true by simp[bne,hc],aq];rfl
end
end Go.Proofs.YtkdilffhbejjaaaGreat
namespace Go.Proofs.YtkdilffhbejjaaaGreat
open Go Go.bM Go.Sym
open Classical
section
variable{N:Nat}{ts:List aA}{xs:List (List UInt8)}{fs:List Func}
theorem Zi(hm:iQ ts xs fs)(h:dZ ts xs fs){a:Nat}(ha:r6 fs a):24<=qy ts fs (a/256-1) (a%256):=by
 have hf:a/256-1<fs.length:=by have:=ha.1;have:=ha.2.1;omega
 have hF:=h.func hf;have hb:=(tP h.1 h.2.2.2.1 hF.2.1 hF.2.2.2.2.2.1).2;have hs:=yE hm (f:=a/256-1) (i:=a%256) hf;unfold qy;omega
theorem aeW(hN:1300<N)(hm:iQ ts xs fs)(QY:dZ ts xs fs){f:Nat}(i:Nat)(hf:f<fs.length):∃s:Int,F23 N (ts,xs,fs,(f:Int),(i:Int))=some s/\(0<=s/\s<=100000)/\(s=qy ts fs f i\/(s>4096/\qy ts fs f i>4096)):=by
 have hF:=QY.func hf;have hfit:tO (gj fs f):=hm.1.2.2.2.2 _ (ny fn0 hf);obtain⟨_,hb⟩:=tP QY.1 QY.2.2.2.1 hF.2.1 hF.2.2.2.2.2.1;have hs:=yE hm (i:=i) hf;rw[F23.eq_1,Ql hN hm QY hf,ae,xj hf,ae,Wg (by have:=hfit.2.2.1;omega) hN,ae];rw[show xk (i:Int) 0 (gj fs f).2.2.2.2.2.1=Dh fs f i from rfl];by_cases hx:Dh fs f i>4096;.rw[aS hx];exact⟨_,rfl,by omega,.inr ⟨by decide,by unfold qy;omega⟩⟩
 .rw[aM hx];refine⟨_,rfl,?_,.inl ?_⟩;.rw[aI (n:=Dh _ _ _) (by omega),aI (by omega)];omega
  .rw[aI (n:=Dh _ _ _) (by omega),aI (by omega)];rfl
theorem Zj{b:Int}{l:List Int}{a:Int}(hb:HP l):u64 (rX b l a).1/\u64 (rX b l a).2.1/\u64 (rX b l a).2.2.1:=by
 have h0:u64 0:=⟨by omega,by omega⟩;unfold rX;split
 .split
  .split;.exact⟨j5 hb _,j5 hb _,j5 hb _⟩
   grind
  grind
 grind
theorem qB{a b:Int}(h:a=b):(a==b)=true:=by simp[h]
theorem tU{a b:Int}(h:a≠b):(a==b)=false:=by simp[h]
theorem pW{a b:Int}(h:a≠b):(a !=b)=true:=by simp[h]
theorem r8{a b:Int}(h:a=b):(a !=b)=false:=by simp[h]
theorem QD(hN:1300<N)(hm:iQ ts xs fs)(hc:jD ts xs fs=0){b:Int}{l:List Int}(YX:u64 b)(hs:gG b l)(hb:HP l):∀(k a:Nat)(c q:Int)(out:List Ju),a<18446744073709551616->0<=c->c<=l.length->c<k->0<=q/\q<=1->(out.length:Int)+c<=100000->(∃x W,f19.jd N k ((a:Int),c,q,out,b,l,ts,xs,fs)=some (out++x::W,0)/\f13.bz N k ((a:Int),out,b+c,q,b,l,ts,xs,fs)=some (out++x::W,0)/\r6 fs a/\x.2.1=((a/256-1:Nat):Int)/\x.2.2.1=((a%256:Nat):Int)-q)\/∃e e',e≠0/\e'≠0/\f19.jd N k ((a:Int),c,q,out,b,l,ts,xs,fs)=some ([],e)/\f13.bz N k ((a:Int),out,b+c,q,b,l,ts,xs,fs)=some ([],e'):=by have QY:=(yB hc).1;obtain⟨hs1,hs2,hs3,hs4,hs5⟩:=hs;intro k;induction k with|zero=>omega|succ k ih=>
  intro a c q out ha h0 nM hk hq ho;rw[f19.jd.eq_2,f13.bz.eq_2,NZ hN hm ha,V4 hm.1.2.2.2.1 ha,uI,bb hc];by_cases hA:r6 fs a
  .have hf:a/256-1<fs.length:=by have:=hA.1;have:=hA.2.1;omega
   obtain⟨s,s1,s0,s2⟩:=aeW (N:=N) hN hm QY (f:=a/256-1) (a%256) hf;have hlo:=Zi hm QY hA;have hz:N4 ts xs fs a=if qy ts fs (a/256-1) (a%256)>4096then(0,16)else(qy ts fs (a/256-1) (a%256),0):=by rw[N4,uI,bb hc,bb hA,bb rfl]
   simp only[bb hA,ae,gR,af,da,Qm hN hm ha,hz,s1];generalize qy ts fs (a/256-1) (a%256)=n at hlo s2⊢;rw[aR (n:=s) (by omega),show b+c-b=c by omega,aR (n:=c) (by omega)];by_cases h1:n>4096
   .have h2:s>4096:=by omega
    refine .inr ⟨16,16,by decide,by decide,?_,?_⟩;.rw[bb h1];rfl
    .rw[aS h2];rfl
   .have e:s=n:=by omega
    subst e;rw[be h1,aM h1];simp only[gR,af,ae];rw[aR (n:=s) (by omega)];by_cases h2:s>c
    .refine .inr ⟨16,16,by decide,by decide,?_,?_⟩;.rw[aS h2];rfl
     .rw[aS h2];rfl
    .rw[aM h2];have e1:aL (c-s)=c-s:=aR (by omega);have e2:aL (b+c-s)=b+(c-s):=by rw[aR (by omega)];omega
     have e3:aL (b+(c-s))=b+(c-s):=aR (by omega);have hau:u64 (b+(c-s)):=⟨by omega,by omega⟩;obtain⟨w0,m0,r0⟩:=Zj (b:=b) (a:=b+(c-s)) hb;simp only[af,e1,e2,e3,YW hN YX hb hau,Wm hN YX hb hau,ae];generalize rX b l (b+(c-s))=h at w0 m0 r0⊢;obtain⟨w,m,r,e⟩:=h;simp only at w0 m0 r0⊢;by_cases c0:e=0
     .subst c0;rw[gR,af,af,ak (show out.length+1<=10000000by omega) (show 40<=1000by omega),aI (n:=((a%256:Nat):Int)-q) (by omega)];simp only[aj];by_cases cw:w=0
      .subst cw;by_cases cz:c-s=0
       .left;refine⟨(b+(c-s),((a/256-1:Nat):Int),((a%256:Nat):Int)-q,m,r),[],?_,?_,hA,rfl,rfl⟩;.rw[cz,qB rfl,gR];cases(m==0)<;>rfl
        .rw[cz,xi,qB rfl,r8 rfl,gR];cases(m==0)<;>rfl
       .right;refine⟨12,12,by decide,by decide,?_,?_⟩;.rw[qB rfl,tU cz];rfl
        .rw[qB rfl,pW (show b+(c-s)≠b by omega)];rfl
      .by_cases cz:c-s=0
       .right;refine⟨12,12,by decide,by decide,?_,?_⟩;.rw[cz,tU cw,qB rfl];rfl
        .rw[cz,xi,tU cw,pW cw,qB rfl];rfl
       .rw[tU cw,pW cw,tU cz,tU (show b+(c-s)≠b by omega),nW w0.1];obtain⟨w',rfl⟩:=du w0.1;have M5:w'<18446744073709551616:=by have:=w0.2;omega
        by_cases cm:m=0
        .subst cm;by_cases c6:(w':Int)%256=0
         .right;refine⟨12,12,by decide,by decide,?_,?_⟩;.rw[qB rfl,qB c6];rfl
          .rw[qB rfl,qB c6];rfl
         .rw[qB rfl,tU c6];simp only[aq,af,ae,i9,da];rcases ih w' (c-s) 1 (out++[(b+(c-s),((a/256-1:Nat):Int),((a%256:Nat):Int)-q,0,r)]) M5 (by omega) (by omega) (by omega) (by omega) (by simp;omega)with⟨x,W,g1,g2,_⟩|⟨e,e',g0,g0',g1,g2⟩
          .left;refine⟨(b+(c-s),((a/256-1:Nat):Int),((a%256:Nat):Int)-q,0,r),x::W,?_,?_,hA,rfl,rfl⟩;.erw[g1,bi];rfl
           .erw[g2,bi];rfl
          .exact .inr ⟨e,e',g0,g0',g1,g2⟩
        .rw[tU cm];simp only[aq,af,ae,i9,da];rcases ih w' (c-s) 0 (out++[(b+(c-s),((a/256-1:Nat):Int),((a%256:Nat):Int)-q,m,r)]) M5 (by omega) (by omega) (by omega) (by omega) (by simp;omega)with⟨x,W,g1,g2,_⟩|⟨e,e',g0,g0',g1,g2⟩
         .left;refine⟨(b+(c-s),((a/256-1:Nat):Int),((a%256:Nat):Int)-q,m,r),x::W,?_,?_,hA,rfl,rfl⟩;.erw[g1,bi];rfl
          .erw[g2,bi];rfl
         .exact .inr ⟨e,e',g0,g0',g1,g2⟩
     .right;refine⟨12,12,by decide,by decide,?_,?_⟩;.rw[pW c0];rfl
      .rw[pW c0];rfl
  .right;refine⟨6,6,by decide,by decide,?_,?_⟩;.rw[be hA];rfl
   .rw[be hA];rfl
noncomputable def yO(fs:List Func)(a:Nat)(x:Ju):Prop:=r6 fs a/\x.2.1=((a/256-1:Nat):Int)/\x.2.2.1=((a%256:Nat):Int)
theorem alv(hN:5000<N)(hm:iQ ts xs fs)(hc:jD ts xs fs=0){b:Int}{l:List Int}(YX:u64 b)(hs:gG b l)(hb:HP l){a:Nat}(ha:a<18446744073709551616):(∃x W,QV N (b,l,ts,xs,fs,(a:Int))=some (x::W,0)/\QX N (b,l,ts,xs,fs,(a:Int))=some (x::W,0)/\yO fs a x)\/∃e e',e≠0/\e'≠0/\QV N (b,l,ts,xs,fs,(a:Int))=some ([],e)/\QX N (b,l,ts,xs,fs,(a:Int))=some ([],e'):=by
 have hs5:=hs.2.2.2.2;have hs3:=hs.2.2.1;have hs2:=hs.2.1;rw[QV.eq_1,QX.eq_1,Ai YX,bb hs,Df (by omega) hm,hc];rw[aR (n:=(l.length:Int)) (by omega),aR (n:=b+(l.length:Int)) (by omega)];rcases QD (N:=N) (by omega) hm hc YX hs hb N a l.length 0 [] ha (by omega) (by omega) (by omega) (by omega) (by simp;omega)with⟨x,W,g1,g2,h1,h2,h3⟩|⟨e,e',g0,g0',g1,g2⟩;.rw[g1,g2];exact .inl ⟨x,W,rfl,rfl,h1,h2,by rw[h3,Int.sub_zero]⟩
 grind
end
end Go.Proofs.YtkdilffhbejjaaaGreat
