/- A part of the proof: Law12chg8, Law12chg9. -/
import Derived.Test.YtdogilonhnbapaaGreatDoorLaw12chg7
set_option linter.unusedVariables false
set_option linter.unusedSimpArgs false
namespace Go.Proofs.YtdogilonhnbapaaGreatDoor
open Go Go.bI Go.Sym
open Classical
section
variable{ts:List aB}{xs:List (List UInt8)}{fs:List Func}{f:Func}
theorem fF.fits(hv:fF ts xs fs){i:Nat}(h:fs[i]?=some f):um f:=hv.fit.1.2.2.2.2 f (aS h)
theorem instrR{N:Nat}(hN:1300<N)(hv:fF ts xs fs){g:Int}(hf:idx fs g=some f)(hok:eB ts.length f){i:Nat}{x:Instr}(hx:f.2.2.2.2.1[i]?=some x)(r:Bool):F73 N (ts,xs,fs,g,(i:Int),r)=some (if jV xs.length (eo fs) f.2.2.2.1 x then(if r=true then(if Hx ts (eo fs) f.2.2.2.1 f.2.2.1 x=true then 0 else 30)else 6)else 16):=by
 have hc:=hok.2.2.2.2.2.2.2.1 x (aS hx);rw[F73.eq_1,hf];simp only[Option.bind_some,aD hx,ajI hN hf hc];by_cases hn:jV xs.length (eo fs) f.2.2.2.1 x;.rw[bJ hn,if_pos hn,Bool.not_true];cases r with|false=>rfl|true=>rw[afw hv hok hc hn hf]<;>grind
 grind
theorem Vq{N:Nat}(hN:14000000<N)(hv:fF ts xs fs){g:Int}(hf:idx fs g=some f):F44 N (ts,xs,fs,g)=some ((eS ts xs fs f g).2.2.1,(eS ts xs fs f g).2.2.2):=by
 obtain⟨g0,nI⟩:=sD hf;have hok:=hv.get nI;have hfit:=hv.fits nI;obtain⟨hpos,hle⟩:=hok.2.2.2.2.2.2.1;have QV:=hok.2.2.2.2.2.2.2.1;unfold eS;rw[F44.eq_1,hf];simp[Option.bind_some,MO (N:=N) (l:=f.2.2.2.2.1) (by omega) (by omega) hfit.2.2.2.2.1];by_cases hval:gZ f.2.2.2.2.1=true;case neg=>grind
 rw[if_pos hval,hval];have hvc:=wP hval;have hp0:=hok.2.2.2.1.1;have hr0:=hok.2.2.2.2.1.1;by_cases hmain:g=0/\(0<f.2.1\/0<=f.2.2.1);.grind
 rw[if_neg hmain];have hmn:(bif g==(0:Int)then(bif f.2.1!=0then some true else some (f.2.2.1!=-1))else some false:Option Bool)=some false:=by
  by_cases h0:g=0;.rw[show(g==(0:Int))=true by simpa using h0,au,dK];congr 1;grind
  grind
 rw[hmn];simp[Option.bind_some,ak,Vh hvc (show 500<N by omega),tS hpos (show f.2.2.2.2.1.length<=10000000by omega)];have l1:=qS (l:=f.2.2.2.2.1) (p:=p8 ts xs fs f) (a:=(.inr (g,ts,xs,fs,f.1,f.2.1,f.2.2.1,f.2.2.2.1,f.2.2.2.2.1,f.2.2.2.2.2.1,f.2.2.2.2.2.2):(Int×Int)⊕_)) (out:=λi e=>.inl (i,e)) (Lf:=λk i=>f44.gy N k (g,dD f.2.2.2.2.1,((f.2.2.2.2.1.length-1:Nat):Int),i,ts,xs,fs,f.1,f.2.1,f.2.2.1,f.2.2.2.1,f.2.2.2.2.1,f.2.2.2.2.2.1,f.2.2.2.2.2.2)) (λk=>by simp only[f44.gy.eq_2,aL,ak]) (λk i x hx=>by
   have hi:=aA hx;simp only[f44.gy.eq_2,aI hi,au,aD (iZ hi),Option.bind_some,instrR (show 1300<N by omega) hv hf hok hx,aj (show i<9223372036854775807by omega),G0];have key:(bif decide (Reach f.2.2.2.2.1 i)then(if jV xs.length (eo fs) f.2.2.2.1 x then(if True then(if Hx ts (eo fs) f.2.2.2.1 f.2.2.1 x=true then 0 else 30)else 6)else 16:Int)else(if jV xs.length (eo fs) f.2.2.2.1 x then(if((i:Int)==((f.2.2.2.2.1.length-1:Nat):Int))=true then(if Hx ts (eo fs) f.2.2.2.1 f.2.2.1 x=true then 0 else 30)else 6)else 16:Int))=p8 ts xs fs f i x:=by
    by_cases h1:Reach f.2.2.2.2.1 i;.rw[bJ h1,au];unfold p8;rw[if_pos (show ve f.2.2.2.2.1 i from .inl h1),if_pos trivial]
    .rw[bE h1,ak];unfold p8;by_cases h2:i=f.2.2.2.2.1.length-1;.rw[if_pos (show ve f.2.2.2.2.1 i from .inr h2),if_pos (show((i:Int)==((f.2.2.2.2.1.length-1:Nat):Int))=true by rw[beq_iff_eq];omega)]
     .rw[if_neg (show¬ve f.2.2.2.2.1 i fromλh=>h.elim h1 h2),if_neg (show¬((i:Int)==((f.2.2.2.2.1.length-1:Nat):Int))=true by rw[beq_iff_eq];omega)]
   rw[key];by_cases hz:p8 ts xs fs f i x=0;.rw[if_neg (λh=>h hz),show(p8 ts xs fs f i x !=0)=false by simp[hz],ak]
   .rw[if_pos hz,show(p8 ts xs fs f i x !=0)=true by simp[bne,hz],au]) (k:=N) (by omega);simp[l1,Option.bind_some];cases he:fG (p8 ts xs fs f) 0 f.2.2.2.2.1with
 |some r=>rfl
 |none=>have hz:=oQ he;have hfn:Fn ts xs fs f:=⟨hv,hok,hval,λx hx=>by
   obtain⟨i,hi,rfl⟩:=List.mem_iff_getElem.1 hx;have:=hz i _ (List.getElem?_eq_getElem hi);unfold p8 at this;split at this;.assumption
   .cases this⟩;obtain⟨r,c,s1,s2,s3⟩:=Kj (show 1300<N by omega) hfn hf;have m1:=Vp hN hfn;obtain⟨_,m2,m3⟩:=CY hN hfn;simp[Option.elim_none,s1,Option.bind_some];cases c with|false=>grind|true=>
   rw[if_pos (s2.1 rfl)];simp[Bool.not_true,ak,m1,Option.bind_some];have l3:∀(i:Nat)x,f.2.2.2.2.1[i]?=some x->f44.zD N N (cN (cu f),(i:Int),aP jF x,0,f.1,f.2.1,f.2.2.1,f.2.2.2.1,f.2.2.2.2.1,f.2.2.2.2.2.1,f.2.2.2.2.2.2)=some (if o6 (cu f) i x≠0then .inl ((i:Int),38)else .inr (cN (cu f),(i:Int),f.1,f.2.1,f.2.2.1,f.2.2.2.1,f.2.2.2.2.1,f.2.2.2.2.2.1,f.2.2.2.2.2.2)):=λi x hx=>by
    have hi:=aA hx;have h15:=(n4 (QV x (aS hx))).1;have VJ:(cN (cu f))[i]?=some ((O (cu f) i:Nat):Int):=gr (by omega);have hrl:=jM jF x;have:=fC (l:=aP jF x) (a:=(.inr (cN (cu f),(i:Int),f.1,f.2.1,f.2.2.1,f.2.2.2.1,f.2.2.2.2.1,f.2.2.2.2.2.1,f.2.2.2.2.2.2):(Int×Int)⊕_)) (b:=.inl ((i:Int),38)) (p:=λs=>!((O (cu f) i).testBit s.toNat)) (Lf:=λk j=>f44.zD N k (cN (cu f),(i:Int),aP jF x,j,f.1,f.2.1,f.2.2.1,f.2.2.2.1,f.2.2.2.2.1,f.2.2.2.2.2.1,f.2.2.2.2.2.2)) (λk _=>by simp only[f44.zD.eq_2,aL,ak]) (λk j s hs hm=>by have hj:=aA hs;obtain⟨b0,b1⟩:=h15 s hm;simp only[f44.zD.eq_2,aI hj,au,aD hs,Option.bind_some,aD VJ,show(!decide (s<0))=true by simp;omega,af,an3 b0 b1,aj (show j<9223372036854775807by omega)];cases(O (cu f) i).testBit s.toNat<;>rfl) (k:=N) (by omega);rw[this];unfold o6;by_cases hall:∀s,s∈aP jF x->(O (cu f) i).testBit s.toNat=true;.rw[if_pos hall,if_neg (λ⟨s,h1,h2⟩=>by rw[hall s h1]at h2;cases h2),if_neg (by decide)]
    .have hex:∃s,s∈aP jF x/\(!((O (cu f) i).testBit s.toNat))=true:=by rw[Classical.not_forall]at hall;obtain⟨s,hs⟩:=hall;rw[Classical.not_imp]at hs;exact⟨s,hs.1,by rw[Bool.not_eq_true'];exact Bool.eq_false_iff.2 hs.2⟩
     rw[if_pos hex,if_neg hall,if_pos (show(38:Int)≠0 by decide)]
   have l2:=qS (l:=f.2.2.2.2.1) (p:=o6 (cu f)) (a:=(.inr ():(Int×Int)⊕Unit)) (out:=λi e=>.inl (i,e)) (Lf:=λk i=>f44.iB N k (cN (cu f),i,f.1,f.2.1,f.2.2.1,f.2.2.2.1,f.2.2.2.2.1,f.2.2.2.2.2.1,f.2.2.2.2.2.2)) (λk=>by simp only[f44.iB.eq_2,aL,ak]) (λk i x hx=>by
     have hi:=aA hx;simp only[f44.iB.eq_2,aI hi,au,aD hx,Option.bind_some,u6 N (QV x (aS hx)),l3 i x hx];by_cases hz:o6 (cu f) i x=0;.simp only[if_neg (show¬o6 (cu f) i x≠0fromλh=>h hz),aj (show i<9223372036854775807by omega)]
     .have e38:o6 (cu f) i x=38:=by
       unfold o6 at hz⊢;split at hz;.exact absurd rfl hz
       .rename_i h;rw[if_neg h]
      simp only[if_pos (show o6 (cu f) i x≠0from hz)];rw[e38]) (k:=N) (by omega);rw[l2];cases fG (o6 (cu f)) 0 f.2.2.2.2.1with|some r=>rfl|none=>rfl
structure Vr(ts:List aB)(xs:List (List UInt8))(fs:List Func)(f:Func):Prop where
 fn:Fn ts xs fs f
 sc:rG f.2.2.2.2.1 (dM ts fs f)
theorem qT(hv:fF ts xs fs)(hok:eB ts.length f){g:Int}(h:(eS ts xs fs f g).2.2.2=0):Vr ts xs fs f/\eS ts xs fs f g=(CV (u9 ts fs f),CV (cN (cu f)),0,0):=by
 unfold eS at h⊢;split at h;case isFalse=>grind
 rename_i hval;rw[if_pos hval];split at h;.grind
 rename_i hmain;rw[if_neg hmain];cases he:fG (p8 ts xs fs f) 0 f.2.2.2.2.1with|some r=>rw[he]at h;exact absurd h (yl he)|none=>
  rw[he]at h;split at h;case isFalse=>grind
  rename_i hsc;rw[if_pos hsc];have hz:=oQ he;refine⟨⟨⟨hv,hok,hval,λx hx=>?_⟩,hsc⟩,?_⟩;.obtain⟨i,hi,rfl⟩:=List.mem_iff_getElem.1 hx;have:=hz i _ (List.getElem?_eq_getElem hi);unfold p8 at this<;>grind
  .cases hl:fG (o6 (cu f)) 0 f.2.2.2.2.1with|some r=>rw[hl]at h;exact absurd h (yl hl)|none=>rfl
theorem Km{N:Nat}(hN:1300<N)(hm:rz ts xs fs):F68 N ts=some ts:=by obtain⟨⟨m1,m2,m3,m4,m5⟩,_⟩:=hm;have htl:=m1.1;have k1:=gA (l:=ts) (enc:=λt=>[t]) (g:=id) (B:=1000) (m:=1) (Lf:=λk i s=>f68.bg N k (ts,s,i)) (λk s=>by simp only[f68.bg.eq_2,aL,ak];rfl) (λk i x s hx Rz hB=>by obtain⟨j,hj,rfl⟩:=p7 ty0 Rz;have hf:=(m1.2 j hj).1;simp only[dP]at hf;simp only[f68.bg.eq_2,aI (aA hx),au,aD hx,Option.bind_some,ah (show 0+(ts.getD j ty0).2.2.2.length<=10000000by omega) (show 24<=1000by omega),ah (show s.length+1<=10000000by omega) (show 48<=1000by omega),af,List.nil_append,aj (show i<9223372036854775807by have:=aA hx;omega)]) (λx _=>by simp) (k:=N) (s:=[]) (by omega) (by simp;omega);rw[QE,List.nil_append]at k1;rw[F68.eq_1,k1,Option.bind_some,id]
theorem wX(h:um f):room (0+f.2.2.2.1.length) 24=true/\room (0+f.2.2.2.2.1.length) 32=true/\room (0+f.2.2.2.2.2.1.length) 16=true/\room (0+f.2.2.2.2.2.2.length) 16=true:=by obtain⟨g1,g2,g3,g4,_⟩:=h;exact⟨ah (by omega) (by omega),ah (by omega) (by omega),ah (by omega) (by omega),ah (by omega) (by omega)⟩
theorem abI:room 1 128=true:=ah (by omega) (by omega)
theorem Ox{N:Nat}(hN:14000000<N)(h:Vr ts xs fs f){g:Nat}(hf:fs[g]?=some f):F45 N (ts,xs,fs,(g:Int))=some (f.1,f.2.1,f.2.2.1,f.2.2.2.1,f.2.2.2.2.1,CV (u9 ts fs f),CV (cN (cu f))):=by
 have hv:=h.fn.img;obtain⟨hpos,hle⟩:=h.fn.len;have hgl:=aA hf;obtain⟨f0,h0⟩:∃f0,fs[0]?=some f0:=⟨_,List.getElem?_eq_getElem (by omega)⟩;have VP:=hv.fns.2;have an6:xs.length<=32:=hv.DC.2.1;obtain⟨r1,r2,r3,r4⟩:=wX (hv.fits h0);have key:=kI (n:=fs.length) (Lf:=λk i=>f45.eL N k (i,ts,xs,fs,ts,xs,fs.take i.toNat,ts,xs,fs,[],0,0)) (g:=λ_=>some (ts,xs,fs,ts,xs,fs,[],0,0)) (λk=>by simp only[f45.eL.eq_2,aL,ak,Int.toNat_natCast,List.take_length]) (λk i hi ih=>by have hx:=List.getElem?_eq_getElem hi;obtain⟨q1,q2,q3,q4⟩:=wX (hv.fits hx);simp only[Int.toNat_natCast]at ih⊢;simp only[f45.eL.eq_2,aI hi,au,aD hx,Option.bind_some,q1,q2,q3,q4,af,List.nil_append,ah (show(fs.take i).length+1<=10000000by rw[List.length_take];omega) (show 128<=1000by omega),aj (show i<9223372036854775807by omega)];rw[<-ih,take_succ hx]) N 1 (by omega) (by omega);have htk:fs.take 1=[f0]:=by rw[take_succ h0];rfl
 rw[show(((1:Nat):Int)).toNat=1from rfl,htk,show((1:Nat):Int)=1from rfl]at key;obtain⟨r,c,s1,s2,s3⟩:=Kj (show 1300<N by omega) h.fn (aD hf);have hc:=s2.2 h.sc;have hr:=s3 hc;subst hc hr;have k2:=dY (l:=(List.range f.2.2.2.2.1.length).map (Fk f.2.2.2.2.1 (dM ts fs f))) (g:=λs:List Int=>(s,([]:List UInt8),(0:Int),(0:Int),f)) (Inv:=λi s=>s=(u9 ts fs f).take i) (Lf:=λk i s=>f45.aU N k ((List.range f.2.2.2.2.1.length).map (Fk f.2.2.2.2.1 (dM ts fs f)),s,i,ts,xs,fs,[],0,0,f.1,f.2.1,f.2.2.1,f.2.2.2.1,f.2.2.2.2.1,f.2.2.2.2.2.1,f.2.2.2.2.2.2)) (λk s _=>by simp only[f45.aU.eq_2,aL,ak]) (λk i x s hx hs=>by
   have hi:=aA hx;have yw:i<f.2.2.2.2.1.length:=by simpa using hi
   rw[List.getElem?_map,List.getElem?_range yw]at hx;have hx:=Option.some.inj hx;obtain⟨o1,o2⟩:=h.fn.MW i;rw[hx]at o1 o2;obtain⟨b1,b2⟩:=o1.n7 hv;have cg:s.length<=200:=by rw[hs,List.length_take,oP];omega
   have hz:(u9 ts fs f)[i]?=some (n7 ts x):=by unfold u9;rw[List.getElem?_map,List.getElem?_range yw,<-hx];rfl
   have hgx:idx ((List.range f.2.2.2.2.1.length).map (Fk f.2.2.2.2.1 (dM ts fs f))) (i:Int)=some x:=aD (by rw[List.getElem?_map,List.getElem?_range yw,<-hx];rfl);refine⟨s++[n7 ts x],by rw[hs,take_succ hz],?_⟩;simp only[f45.aU.eq_2,aI hi,au,hgx,Option.bind_some,MT (show 1300<N by omega) hv o1 (show x.length<=1000by omega),ah (show s.length+1<=10000000by omega) (show 8<=1000by omega),af,iC (n:=n7 ts x) (by omega),aj (show i<9223372036854775807by omega)]) (k:=N) (s:=[]) rfl (by simp;omega);obtain⟨s,hs,k2⟩:=k2;have hs:s=u9 ts fs f:=by
  rw[hs];have:((List.range f.2.2.2.2.1.length).map (Fk f.2.2.2.2.1 (dM ts fs f))).length=(u9 ts fs f).length:=by simp[oP]
  rw[this,List.take_length]
 subst hs;have m1:=Vp hN h.fn;obtain⟨_,m2,_⟩:=CY hN h.fn;have d1:=Vn (N:=N) (v:=u9 ts fs f) (by omega) (by rw[oP];omega);have d2:=Vn (N:=N) (v:=cN (cu f)) (by omega) (by rw[bF];omega);have e0:idx fs 0=some f0:=aD (i:=0) h0;rw[F45.eq_1,Km (show 1300<N by omega) hv.fit];simp only[Option.bind_some,ah (show 0+xs.length<=10000000by omega) (show 16<=1000by omega),af,bJ (show(0:Int)<(fs.length:Int)by omega),au,e0,r1,r2,r3,r4,abI,List.nil_append,key,bW hgl,Int.toNat_natCast,hf,s1,k2,d1,m1,d2]
end
end Go.Proofs.YtdogilonhnbapaaGreatDoor
namespace Go.Proofs.YtdogilonhnbapaaGreatDoor
open Go Go.bI Go.Sym
open Classical
structure Zr(fs fs':List Func):Prop where
 len:fs'.length=fs.length
 get:∀(i:Nat)(f:Func),fs[i]?=some f->∃S L,fs'[i]?=some (f.1,f.2.1,f.2.2.1,f.2.2.2.1,f.2.2.2.2.1,S,L)/\(cQ S (f.2.2.2.2.1.length:Int)/\cQ L (f.2.2.2.2.1.length:Int))/\zF S/\zF L
section
variable{ts:List aB}{xs:List (List UInt8)}{fs fs':List Func}{f f':Func}
theorem DD{fs:List Func}{i:Nat}{f:Func}(h:fs[i]?=some f):fQ fs i=f:=by unfold fQ<;>grind
theorem Zr.at(h:Zr fs fs'){i:Nat}(hi:i<fs.length):∃S L,fQ fs' i=((fQ fs i).1,(fQ fs i).2.1,(fQ fs i).2.2.1,(fQ fs i).2.2.2.1,(fQ fs i).2.2.2.2.1,S,L)/\(cQ S ((fQ fs i).2.2.2.2.1.length:Int)/\cQ L ((fQ fs i).2.2.2.2.1.length:Int))/\zF S/\zF L:=by have e:=List.getElem?_eq_getElem hi;obtain⟨S,L,h1,h2⟩:=h.get i _ e;rw[DD e,DD h1];exact⟨S,L,rfl,h2⟩
theorem Zr.name(h:Zr fs fs')(i:Nat):(fQ fs' i).1=(fQ fs i).1:=by
 by_cases hi:i<fs.length;.obtain⟨S,L,e,_⟩:=h.at hi<;>grind
 .unfold fQ;rw[List.getD_eq_getElem?_getD,List.getD_eq_getElem?_getD,List.getElem?_eq_none (by rw[h.len];omega),List.getElem?_eq_none (by omega)]
theorem Zr.QW(h:Zr fs fs')(hv:fF ts xs fs):fF ts xs fs':=by
 obtain⟨⟨⟨m1,m2,m3,m4,m5⟩,m6⟩,⟨f1,f2,f3,f4,f5,f6⟩⟩:=hv;have hmem:∀g,g∈fs'->∃i S L,i<fs.length/\g=((fQ fs i).1,(fQ fs i).2.1,(fQ fs i).2.2.1,(fQ fs i).2.2.2.1,(fQ fs i).2.2.2.2.1,S,L)/\(cQ S ((fQ fs i).2.2.2.2.1.length:Int)/\cQ L ((fQ fs i).2.2.2.2.1.length:Int))/\zF S/\zF L/\fQ fs i∈fs:=λg hg=>by
  obtain⟨i,hi,rfl⟩:=List.mem_iff_getElem.1 hg;have hi':i<fs.length:=by rw[<-h.len];exact hi
  obtain⟨S,L,e,h1,h2,h3⟩:=h.at hi';refine⟨i,S,L,hi',?_,h1,h2,h3,?_⟩;.rw[<-e,DD (List.getElem?_eq_getElem hi)]
  .rw[DD (List.getElem?_eq_getElem hi')];exact List.getElem_mem _
 refine⟨⟨⟨m1,m2,m3,by rw[h.len];exact m4,λg hg=>?_⟩,λg hg=>?_⟩,f1,f2,by rw[h.len];exact f3,f4,f5,λi hi=>?_⟩;.obtain⟨i,S,L,hi,rfl,⟨h1,h2⟩,h3,h4,hm⟩:=hmem g hg;obtain⟨g1,g2,g3,g4,g5,g6,g7⟩:=m5 _ hm;have r1:=mA h1;have r2:=mA h2;exact⟨g1,g2,by show S.length<=1000;omega,by show L.length<=1000;omega,g5,h3,h4⟩
 .grind
 .have hi':i<fs.length:=by rw[<-h.len];exact hi
  obtain⟨S,L,e,⟨h1,h2⟩,_,_⟩:=h.at hi';have h7:=f6 i hi';unfold CD at h7⊢;rw[Bool.and_eq_true,decide_eq_true_eq]at h7⊢;obtain⟨⟨g1,g2,g3,g4,g5,g6,g7,g8,_,_⟩,hd⟩:=h7;refine⟨by rw[e];exact⟨g1,g2,g3,g4,g5,g6,g7,g8,h1,h2⟩,?_⟩;rw[Bool.not_eq_true',decide_eq_false_iff_not]at hd⊢;unfold MC at hd⊢;simp only[h.name];exact hd
theorem Zr.eo(h:Zr fs fs'):eo fs'=Go.Proofs.YtdogilonhnbapaaGreatDoor.eo fs:=by
 apply List.ext_getElem?;intro i;unfold Go.Proofs.YtdogilonhnbapaaGreatDoor.eo;rw[List.getElem?_map,List.getElem?_map];by_cases hi:i<fs.length;.obtain⟨S,L,h1,_⟩:=h.get i _ (List.getElem?_eq_getElem hi);rw[h1,List.getElem?_eq_getElem hi];rfl
 .rw[List.getElem?_eq_none (by rw[h.len];omega),List.getElem?_eq_none (by omega)]
theorem fF.runs(hv:fF ts xs fs){i:Nat}(hi:fs[i]?=some f):(cQ f.2.2.2.2.2.1 (f.2.2.2.2.1.length:Int)/\cQ f.2.2.2.2.2.2 (f.2.2.2.2.1.length:Int))/\zF f.2.2.2.2.2.1/\zF f.2.2.2.2.2.2:=by obtain⟨_,_,_,_,_,_,_,_,h1,h2⟩:=hv.get hi;obtain⟨_,_,_,_,_,h3,h4⟩:=hv.fits hi<;>grind
theorem Zs(hS:eo fs'=eo fs)(hf:sg f'=sg f)(g:Int):eS ts xs fs' f' g=eS ts xs fs f g:=by
 obtain⟨n,p,r,s,l,a,b⟩:=f;obtain⟨n',p',r',s',l',a',b'⟩:=f';unfold sg at hf;simp at hf;obtain⟨rfl,rfl,rfl,rfl⟩:=hf;have e1:dM ts fs' (n',p',r',s',l',a',b')=dM ts fs (n,p',r',s',l',a,b):=by unfold dM;rw[hS]
 have e2:u9 ts fs' (n',p',r',s',l',a',b')=u9 ts fs (n,p',r',s',l',a,b):=by unfold u9;rw[e1]
 have e3:p8 ts xs fs' (n',p',r',s',l',a',b')=p8 ts xs fs (n,p',r',s',l',a,b):=by unfold p8<;>grind
 unfold eS;rw[e1,e2,e3];rfl
theorem p9(h:Vr ts xs fs f):(cQ (CV (u9 ts fs f)) (f.2.2.2.2.1.length:Int)/\cQ (CV (cN (cu f))) (f.2.2.2.2.1.length:Int))/\zF (CV (u9 ts fs f))/\zF (CV (cN (cu f))):=by
 obtain⟨hpos,hle⟩:=h.fn.len;obtain⟨_,m2,m3⟩:=CY (N:=14000001) (by omega) h.fn;have h1:=Vm (v:=u9 ts fs f) (by rw[oP];omega);have h2:=Vm (v:=cN (cu f)) (by rw[bF];omega);rw[oP]at h1;rw[bF,m2]at h2;refine⟨⟨h1,h2⟩,λx hx=>?_,λx hx=>?_⟩;.have:=h.fn.afD (Ov hx);omega
 .obtain⟨k,hk,e⟩:=List.mem_map.1 (Ov hx);obtain⟨j,hj,rfl⟩:=List.mem_iff_getElem.1 hk;have:=m3 j;unfold O at this<;>grind
noncomputable def CZ(ts:List aB)(xs:List (List UInt8))(fs:List Func)(i:Nat):Func:=if(eS ts xs fs (fQ fs i) (i:Int)).2.2.2=0then((fQ fs i).1,(fQ fs i).2.1,(fQ fs i).2.2.1,(fQ fs i).2.2.2.1,(fQ fs i).2.2.2.2.1,(eS ts xs fs (fQ fs i) (i:Int)).1,(eS ts xs fs (fQ fs i) (i:Int)).2.1)else fQ fs i
noncomputable def oR(ts:List aB)(xs:List (List UInt8))(fs:List Func)(a:Nat):List Func:=(List.range fs.length).map λi=>if i<a then CZ ts xs fs i else fQ fs i
noncomputable def wY(ts:List aB)(xs:List (List UInt8))(fs:List Func):List Func:=oR ts xs fs fs.length
theorem jm(a:Nat):(oR ts xs fs a).length=fs.length:=by simp[oR]
theorem nA{a i:Nat}(hi:i<fs.length):(oR ts xs fs a)[i]?=some (if i<a then CZ ts xs fs i else fQ fs i):=by unfold oR<;>grind
theorem QX(hv:fF ts xs fs){i:Nat}(hi:i<fs.length):∃S L,CZ ts xs fs i=((fQ fs i).1,(fQ fs i).2.1,(fQ fs i).2.2.1,(fQ fs i).2.2.2.1,(fQ fs i).2.2.2.2.1,S,L)/\(cQ S ((fQ fs i).2.2.2.2.1.length:Int)/\cQ L ((fQ fs i).2.2.2.2.1.length:Int))/\zF S/\zF L:=by
 have hf:fs[i]?=some (fQ fs i):=by rw[DD (List.getElem?_eq_getElem hi)]<;>grind
 unfold CZ;split;.rename_i he;obtain⟨h1,h2⟩:=qT hv (hv.get hf) he;obtain⟨g1,g2⟩:=p9 h1<;>grind
 .obtain⟨h1,h2⟩:=hv.runs hf<;>grind
theorem ym(hv:fF ts xs fs)(a:Nat):Zr fs (oR ts xs fs a):=by
 refine⟨jm a,λi f hf=>?_⟩;have hi:=aA hf;rw[nA hi];have e:=DD hf;split;.obtain⟨S,L,h1,h2⟩:=QX hv hi<;>grind
 .rw[e];obtain⟨h1,h2⟩:=hv.runs hf<;>grind
theorem MZ:oR ts xs fs 0=fs:=by
 apply List.ext_getElem?;intro i;by_cases hi:i<fs.length;.rw[nA hi,if_neg (by omega),DD (List.getElem?_eq_getElem hi)]<;>grind
 .rw[List.getElem?_eq_none (by rw[jm];omega),List.getElem?_eq_none (by omega)]
theorem Fl{a:Nat}(ha:a<fs.length):(oR ts xs fs a).set a (CZ ts xs fs a)=oR ts xs fs (a+1):=by
 apply List.ext_getElem?;intro i;by_cases hi:i<fs.length;.rw[List.getElem?_set,jm,nA hi,nA hi]<;>grind
 .rw[List.getElem?_eq_none (by rw[List.length_set,jm];omega),List.getElem?_eq_none (by rw[jm];omega)]
noncomputable def o7(ts:List aB)(xs:List (List UInt8))(fs:List Func)(i:Nat)(f:Func):Int:=if(eS ts xs fs f (i:Int)).2.2.2=0then(if(eS ts xs fs f (i:Int)).1=f.2.2.2.2.2.1/\(eS ts xs fs f (i:Int)).2.1=f.2.2.2.2.2.2then 0 else 32)else(eS ts xs fs f (i:Int)).2.2.2
theorem afE{N:Nat}(hN:14000000<N)(hv:fF ts xs fs){i:Nat}(hf:fs[i]?=some f):∃at',Qo N (ts,xs,fs,(i:Int))=some (at',o7 ts xs fs i f):=by
 rw[Qo.eq_1,Vq hN hv (aD hf)];simp[Option.bind_some];unfold o7;by_cases he:(eS ts xs fs f (i:Int)).2.2.2=0
 .obtain⟨h1,h2⟩:=qT hv (hv.get hf) he;obtain⟨g1,g2,g3,g4⟩:=(⟨(p9 h1).1.1,(p9 h1).1.2,(p9 h1).2.1,(p9 h1).2.2⟩:_/\_/\_/\_);have hfit:um (f.1,f.2.1,f.2.2.1,f.2.2.2.1,f.2.2.2.2.1,CV (u9 ts fs f),CV (cN (cu f))):=by obtain⟨q1,q2,q3,q4,q5,_⟩:=hv.fits hf;have r1:=mA g1;have r2:=mA g2;exact⟨q1,q2,by show(CV (u9 ts fs f)).length<=1000;omega,by show(CV (cN (cu f))).length<=1000;omega,q5,g3,g4⟩
  have hs:=Fg (g:=f) hfit (show 1300<N by omega);rw[show((eS ts xs fs f (i:Int)).2.2.2==0)=true by simpa using he,Ox hN h1 hf];simp[Option.bind_some,aD hf,hs];rw[h2];by_cases hq:CV (u9 ts fs f)=f.2.2.2.2.2.1/\CV (cN (cu f))=f.2.2.2.2.2.2;.grind
  .rw[if_neg hq,bE (λh=>hq (by rw[<-h];exact⟨rfl,rfl⟩))]<;>grind
 grind
noncomputable def afF(ts:List aB)(xs:List (List UInt8))(fs:List Func):Int:=if nW ts xs fs=0then(fG (o7 ts xs fs) 0 fs).elim 0 λr=>r.2else nW ts xs fs
theorem QY(h:nW ts xs fs=0):fD ts xs fs:=by unfold nW at h<;>grind
theorem afG{N:Nat}(hN:14000000<N)(hm:rz ts xs fs):F46 N (ts,xs,fs)=some (afF ts xs fs):=by
 have VP:=hm.1.2.2.2.1;rw[F46.eq_1,F78.eq_1,CG (show 1300<N by omega) hm];simp only[Option.bind_some];unfold afF;by_cases hc:nW ts xs fs=0
 .have hv:fF ts xs fs:=⟨hm,QY hc⟩;rw[if_pos hc,show(nW ts xs fs !=0)=false by simp[hc],ak];rcases fZ (l:=fs) (g:=λ_:Unit=>(.inr ():(Int×Int×Int)⊕Unit)) (Out:=λr=>∃i a e,r=.inl (i,a,e)/\(fG (o7 ts xs fs) 0 fs).elim 0 (λr=>r.2)=e) (Inv:=λi _=>fG (o7 ts xs fs) 0 fs=fG (o7 ts xs fs) i (fs.drop i)) (Lf:=λk i _=>f78.ct N k (i,ts,xs,fs)) (λk _ _=>by simp only[f78.ct.eq_2,aL,ak]) (λk i x _ hx hI=>by
   have hi:=aA hx;obtain⟨a,ha⟩:=afE hN hv hx;have hd:fs.drop i=x::fs.drop (i+1):=by rw[List.drop_eq_getElem_cons hi];rw[List.getElem?_eq_getElem hi]at hx;rw[Option.some.inj hx]
   simp only[f78.ct.eq_2,aI hi,au,ha,Option.bind_some,aj (show i<9223372036854775807by omega)];rw[hd,fG]at hI;by_cases hz:o7 ts xs fs i x=0;.rw[if_neg (λh=>h hz)]at hI;exact .inr ⟨(),hI,by rw[show(o7 ts xs fs i x !=0)=false by simp[hz],ak]⟩
   .rw[if_pos hz]at hI;exact .inl ⟨_,⟨(i:Int),a,o7 ts xs fs i x,rfl,by rw[hI];rfl⟩,by rw[show(o7 ts xs fs i x !=0)=true by simp[bne,hz],au]⟩) (k:=N) (s:=()) rfl (by omega)with⟨r,⟨i,a,e,rfl,h2⟩,h3⟩|⟨_,h1,h3⟩;.rw[h3,h2];rfl
  .rw[h3,h1,List.drop_length];rfl
 .rw[if_neg hc,show(nW ts xs fs !=0)=true by simp[bne,hc],au];rfl
theorem QZ{N:Nat}(hN:14000000<N)(hv:fF ts xs fs)(hc:nW ts xs fs=0):∃b,F24 N (ts,xs,fs)=some (ts,xs,wY ts xs fs,b):=by
 have VP:=hv.fns;obtain⟨f0,h0⟩:∃f0,fs[0]?=some f0:=⟨_,List.getElem?_eq_getElem (by omega)⟩;have an6:xs.length<=32:=hv.DC.2.1;obtain⟨r1,r2,r3,r4⟩:=wX (hv.fits h0);have key:=kI (n:=fs.length) (Lf:=λk i=>f24.eM N k (i,ts,xs,fs,ts,xs,fs.take i.toNat,ts,xs,fs)) (g:=λ_=>some (ts,xs,fs,ts,xs,fs)) (λk=>by simp only[f24.eM.eq_2,aL,ak,Int.toNat_natCast,List.take_length]) (λk i hi ih=>by have hx:=List.getElem?_eq_getElem hi;obtain⟨q1,q2,q3,q4⟩:=wX (hv.fits hx);simp only[Int.toNat_natCast]at ih⊢;simp only[f24.eM.eq_2,aI hi,au,aD hx,Option.bind_some,q1,q2,q3,q4,af,List.nil_append,ah (show(fs.take i).length+1<=10000000by rw[List.length_take];omega) (show 128<=1000by omega),aj (show i<9223372036854775807by omega)];rw[<-ih,take_succ hx]) N 1 (by omega) (by omega);have htk:fs.take 1=[f0]:=by rw[take_succ h0];rfl
 rw[show(((1:Nat):Int)).toNat=1from rfl,htk,show((1:Nat):Int)=1from rfl]at key;have k2:=kI (n:=fs.length) (Lf:=λk a=>f24.ct N k (a,ts,xs,oR ts xs fs a.toNat)) (g:=λ_=>some (ts,xs,wY ts xs fs)) (λk=>by rw[Int.toNat_natCast,f24.ct.eq_2,jm,aL,ak];rfl) (λk a ha ih=>by
  have hR:=ym hv a;have kT:=hR.QW hv;have hf:fs[a]?=some (fQ fs a):=by rw[DD (List.getElem?_eq_getElem ha)];exact List.getElem?_eq_getElem ha
  have hg:(oR ts xs fs a)[a]?=some (fQ fs a):=by rw[nA ha,if_neg (by omega)]
  have hl:eS ts xs (oR ts xs fs a) (fQ fs a) (a:Int)=eS ts xs fs (fQ fs a) (a:Int):=Zs hR.eo rfl _;have hal:a<(oR ts xs fs a).length:=by rw[jm];exact ha
  simp only[Int.toNat_natCast]at ih⊢;simp only[f24.ct.eq_2,aI hal,au,Vq hN kT (aD hg),Option.bind_some,hl,aj (show a<9223372036854775807by omega)];have hw:CZ ts xs fs a=if(eS ts xs fs (fQ fs a) (a:Int)).2.2.2=0then((fQ fs a).1,(fQ fs a).2.1,(fQ fs a).2.2.1,(fQ fs a).2.2.2.1,(fQ fs a).2.2.2.2.1,(eS ts xs fs (fQ fs a) (a:Int)).1,(eS ts xs fs (fQ fs a) (a:Int)).2.1)else fQ fs a:=rfl;by_cases he:(eS ts xs fs (fQ fs a) (a:Int)).2.2.2=0;.rw[if_pos he]at hw;obtain⟨h1,h2⟩:=qT kT (kT.get hg) (by rw[hl];exact he);rw[hl]at h2;rw[h2]at hw;rw[show((eS ts xs fs (fQ fs a) (a:Int)).2.2.2==0)=true by simpa using he,au,Ox hN h1 hg];simp only[Option.bind_some,bW hal,af,Int.toNat_natCast,hg];simp only at hw;rw[<-hw,Fl ha];exact ih
  .rw[if_neg he]at hw;rw[show((eS ts xs fs (fQ fs a) (a:Int)).2.2.2==0)=false by simpa using he,ak,<-ih,<-Fl ha,hw,Co hg]) N 0 (by omega) (by omega);rw[show(((0:Nat):Int)).toNat=0from rfl,MZ,show((0:Nat):Int)=0from rfl]at k2;have afu:=afG hN ((ym hv fs.length).QW hv).fit;have e0:idx fs 0=some f0:=aD (i:=0) h0;refine⟨afF ts xs (wY ts xs fs)==0,?_⟩;rw[F24.eq_1,Km (show 1300<N by omega) hv.fit];simp only[Option.bind_some,ah (show 0+xs.length<=10000000by omega) (show 16<=1000by omega),af,bJ (show(0:Int)<(fs.length:Int)by omega),au,e0,r1,r2,r3,r4,abI,List.nil_append,key,CG (show 1300<N by omega) hv.fit,hc,show((0:Int)!=0)=false from rfl,ak,k2];rw[show oR ts xs fs fs.length=wY ts xs fs from rfl]at afu<;>grind
end
theorem M0{N i:Nat}{ts:List aB}{xs:List (List UInt8)}{fs:List Func}{f:Func}{S L:List fA}{q:Int}(hc:F36 N (ts,xs,fs)=some 0)(hf:fs[i]?=some f)(h1:f.2.2.2.1.length<=1000)(h2:f.2.2.2.2.1.length<=1000)(hl:F38 N (ts,xs,fs,(i:Int))=some (S,L,q,0)):F19 N (ts,xs,fs,(i:Int))=some (f.1,f.2.1,f.2.2.1,f.2.2.2.1,f.2.2.2.2.1,S,L,0):=by
 have hi:=aA hf;have hw:F37 N (fs,(i:Int))=some true:=by rw[F37.eq_1]<;>grind
 rw[F19.eq_1,hc];simp[Option.bind_some,show((0:Int)!=0)=false from rfl,ak,hw,Bool.not_true,hl,aD hf,ah (show f.2.2.2.1.length<=10000000by omega) (show 24<=1000by omega),ah (show f.2.2.2.2.1.length<=10000000by omega) (show 32<=1000by omega),af]
theorem Q1{N:Nat}{ts:List aB}{xs:List (List UInt8)}{fs D:List Func}(hN:500<N)(hlen:D.length=fs.length)(VP:fs.length<=100)(hT:∀(i:Nat)(x:Func),D[i]?=some x->F19 N (ts,xs,fs,(i:Int))=some (x.1,x.2.1,x.2.2.1,x.2.2.2.1,x.2.2.2.2.1,x.2.2.2.2.2.1,x.2.2.2.2.2.2,0)):F10 N (ts,xs,fs)=some (ts,xs,D,0):=by
 obtain⟨s,⟨h1,h2⟩,he⟩:=dY (l:=D) (g:=λs:List Func=>(.inr (ts,xs,fs,s):Int⊕_)) (Inv:=λi s=>s.length=D.length/\∀j,j<i->s[j]?=D[j]?) (Lf:=λk i s=>f10.bg N k ((D.length:Int),i,ts,xs,fs,s)) (λk s _=>by simp only[f10.bg.eq_2,aL,ak]) (λk i x s hx⟨h1,h2⟩=>by
   have hi:=aA hx;have RH:i<s.length:=by omega
   refine⟨s.set i x,⟨by simp[h1],λj hj=>?_⟩,?_⟩
   .rw[List.getElem?_set];split;.rename_i e;subst e;simp only[hx]
    .exact h2 j (by omega)
   .simp only[f10.bg.eq_2,aI hi,au,hT i x hx,Option.bind_some,show((0:Int)!=0)=false from rfl,ak,bW RH,af,Int.toNat_natCast,List.getElem?_eq_getElem RH,aj (show i<9223372036854775807by omega)]) (k:=N) (s:=List.replicate fs.length (([]:List UInt8),(0:Int),(0:Int),[],[],[],[])) ⟨by simp[hlen],λj hj=>by omega⟩ (by omega);have e:s=D:=List.ext_getElem? λj=>by
  by_cases hj:j<D.length;.exact h2 j hj
  .rw[List.getElem?_eq_none (by omega),List.getElem?_eq_none (by omega)]
 subst e;rw[F10.eq_1];rw[hlen]at he;simp[Int.toNat_natCast,show decide ((0:Int)<=(fs.length:Int))=true by simp,af,Nat.le_refl,decide_true,Bool.true_and,ah (show fs.length<=10000000by omega) (show 128<=1000by omega),he,Option.bind_some]
theorem Zt{N:Nat}{ts:List aB}{xs:List (List UInt8)}{fs:List Func}(hN:14000000<N)(hv:fF ts xs fs)(hc:nW ts xs fs=0)(hg:∀i,i<fs.length->(eS ts xs fs (fQ fs i) (i:Int)).2.2.2=0):F10 N (ts,xs,fs)=some (ts,xs,wY ts xs fs,0):=by
 have VP:=hv.fns;refine Q1 (by omega) (jm _) (by omega) λi x hx=>?_;have hi:i<fs.length:=by have:=aA hx;unfold wY at this;rwa[jm]at this
 have hf:fs[i]?=some (fQ fs i):=by rw[DD (List.getElem?_eq_getElem hi)]<;>grind
 have he:=hg i hi;unfold wY at hx;rw[nA hi,if_pos hi]at hx;have hx:=Option.some.inj hx;unfold CZ at hx;rw[if_pos he]at hx;obtain⟨h1,h2⟩:=qT hv (hv.get hf) he;have hl:=ajP hN hv (aD hf);rw[h2]at hl hx;have hfit:=hv.fits hf;rw[M0 (by rw[UZ (by omega) hv.fit,hc]) hf (by have:=hfit.1;omega) (by have:=hfit.2.1;omega) hl,<-hx]
theorem Zu{N:Nat}{ts:List aB}{xs:List (List UInt8)}{fs:List Func}(hN:14000000<N)(hv:fF ts xs fs)(hc:nW ts xs fs=0)(hg:∀i,i<fs.length->(eS ts xs fs (fQ fs i) (i:Int)).2.2.2=0):∃D b,F10 N (ts,xs,fs)=some (ts,xs,D,0)/\F24 N (ts,xs,fs)=some (ts,xs,D,b)/\F6 N (ts,xs,D,ts,xs,D)=some true:=by obtain⟨b,hb⟩:=QZ hN hv hc;refine⟨wY ts xs fs,b,Zt hN hv hc hg,hb,?_⟩;have hi:rz ts xs (wY ts xs fs):=((ym hv fs.length).QW hv).fit;rw[Oj (by omega) hi]<;>grind
end Go.Proofs.YtdogilonhnbapaaGreatDoor
