/- Parts of the proof. -/
import Derived.Test.YtclkonemhghbkaaGreatLaw22ac
set_option linter.unusedVariables false
set_option linter.unusedSimpArgs false
set_option linter.defProp false
noncomputable section
namespace Go.Proofs.YtclkonemhghbkaaGreat
open Go Go.bK Go.Sym
open Classical
def cD{α:Type}{l:List α}{i:Nat}(d:α)(h:i<l.length):idx l (i:Int)=some (l.getD i d):=by grind[idx]
def n6{α:Type}{l:List α}{i:Nat}(d:α)(h:i<l.length):l.getD i d∈l:=by grind
def rF{α:Type}{l:List α}{x:α}(d:α)(h:x∈l):∃i,i<l.length/\l.getD i d=x:=by obtain⟨i,hi,rfl⟩:=io.1 h;exact⟨i,hi,by rw[da,aw hi];rfl⟩
def zV{i:Nat}(h0:0<i)(h:i<=9223372036854775807):av ((i:Int)-1)=((i-1:Nat):Int):=by rw[aO (by omega)];omega
def Je{α:Type}{l:List α}(h:¬l.length=0):((l.length:Int)==(0:Int))=false:=by grind
def rn(l:List fm)(i:Nat):fm:=l.getD i (0,0)
def ee(l:List fm)(n:Int):Prop:=0<l.length/\(rn l 0).1=0/\(∀i,i+1<l.length->(rn l i).1<(rn l (i+1)).1/\(rn l i).2≠(rn l (i+1)).2)/\∀i,i<l.length->(rn l i).1<n
def ee.mono{l:List fm}{n:Int}(h:ee l n){i:Nat}:∀{j:Nat},i<=j->j<l.length->(rn l i).1<=(rn l j).1
 |0,h1,_=>by grind|j+1,h1,h2=>by
  by_cases e:i=j+1;.grind
  .have:=h.mono (i:=i) (j:=j) (by omega) (by omega);have:=(h.2.2.1 j h2).1;omega
def Yn{N:Nat}{l:List fm}{n:Int}(hN:l.length<N)(hl:l.length<=1000000):WW N (l,n)=some (decide (ee l n)):=by
 rw[WW.eq_1];by_cases h0:l.length=0;.rw[show((l.length:Int)==(0:Int))=true by rw[h0];rfl,au,ae,au,bo λh=>by have:=h.1;omega]
 .have e0:idx l (0:Int)=some (rn l 0):=cD (i:=0) (0,0) (by omega);have e1:idx l (av ((l.length:Int)-1))=some (rn l (l.length-1)):=by rw[zV (by omega) (by omega)];exact cD _ (by omega)
  rw[Je h0,af,e0,ae,e1,ae];by_cases h1:(rn l 0).1=0
  .rw[show((rn l 0).1!=(0:Int))=false by simp[h1],af,ae];by_cases h2:(rn l (l.length-1)).1>=n;.rw[bm h2,au,bo λh=>by have:=h.2.2.2 (l.length-1) (by omega);omega]
   .rw[bo h2,af,ae,bm (show 1<=l.length by omega),aj];have hd:(l.drop 1).length=l.length-1:=by simp
    have key:=gP (n:=(l.drop 1).length) (a:=(.inr ():Bool⊕Unit)) (b:=.inl false) (q:=λi=>decide ((rn l (i+1)).1<=(rn l i).1)||((rn l (i+1)).2==(rn l i).2)) (Lf:=λk i=>LE N k (l.drop 1,((l.drop 1).length:Int),i,(rn l i.toNat).1,(rn l i.toNat).2)) (λk _=>by simp only[LE.eq_2,aN,af]) (λk i hi _=>by
      have e:idx (l.drop 1) (i:Int)=some (rn l (i+1)):=by refine aG ?_;rw[mn,rn,da,Nat.add_comm 1 i,aw (by omega)];rfl
      simp only[LE.eq_2,aM hi,au,e,ae,ai (show i<9223372036854775807by omega),bd,ll,f8,lc];by_cases ha:(rn l (i+1)).1<=(rn l i).1;.simp[ha]
      .cases hb:((rn l (i+1)).2==(rn l i).2)<;>simp[ha]) (k:=N) (by omega);simp only[Int.toNat_zero]at key;rw[key,ae];by_cases hex:∃i,i<(l.drop 1).length/\(decide ((rn l (i+1)).1<=(rn l i).1)||((rn l (i+1)).2==(rn l i).2))=true
    .rw[ba hex,bo];rintro⟨_,_,h3,_⟩;obtain⟨i,hi,hq⟩:=hex;obtain⟨g1,g2⟩:=h3 i (by omega);rw[gc,db,lx]at hq;rcases hq with hq|hq;.omega
     .exact g2 hq.symm
    .rw[be hex,bm];have h3:∀i,i+1<l.length->(rn l i).1<(rn l (i+1)).1/\(rn l i).2≠(rn l (i+1)).2:=λi hi=>by have:¬(decide ((rn l (i+1)).1<=(rn l i).1)||((rn l (i+1)).2==(rn l i).2))=true:=λh=>hex ⟨i,by omega,h⟩;rw[gc,db,lx,sm]at this;exact⟨by omega,λh=>this.2 h.symm⟩
     have m:∀j,j<l.length->∀i,i<=j->(rn l i).1<=(rn l j).1:=by intro j;induction j with|zero=>intro _ i hi;rw[Nat.le_zero.1 hi];exact wx _|succ j ih=>
       intro hj i hi;by_cases e:i=j+1;.rw[e];exact wx _
       .have:=ih (by omega) i (by omega);have:=(h3 j hj).1;omega
     exact⟨by omega,h1,h3,λi hi=>by have:=m (l.length-1) (by omega) i (by omega);omega⟩
  .rw[show((rn l 0).1!=(0:Int))=true by simp[h1],au,ae,au,bo λh=>h1 h.2.1]
def vB{N:Nat}{l:List fm}{n:Nat}(hN:l.length<N)(hl:l.length<=1000000):LP N (l,(n:Int))=some (if n<1\/n>200then 2 else if ee l n then 0 else 8):=by rw[LP.eq_1,Sp.eq_1,Yn hN hl]<;>grind
def Hr{N:Nat}{l:List fm}{n:Int}(hN:l.length<N)(hl:l.length<=1000000):R8 N (l,n)=some (decide (ee l n)):=by
 rw[R8.eq_1];by_cases h0:l.length=0;.rw[show decide ((l.length:Int)<1)=true by rw[h0];rfl,au,ae,au,bo λh=>by have:=h.1;omega]
 .have e0:idx l (0:Int)=some (rn l 0):=cD (i:=0) (0,0) (by omega);rw[bo (show¬(l.length:Int)<1by omega),af,e0,ae,ae];by_cases h1:(rn l 0).1=0
  .rw[show((rn l 0).1!=(0:Int))=false by simp[h1],af];have key:=gP (n:=l.length) (a:=(.inr ():Bool⊕Unit)) (b:=.inl false) (q:=λi=>decide ((rn l i).1>=n\/0<i/\((rn l (i-1)).1>=(rn l i).1\/(rn l (i-1)).2=(rn l i).2))) (Lf:=λk i=>Fd N k (l,n,i)) (λk _=>by simp only[Fd.eq_2,aN,af]) (λk i hi _=>by
     have e:idx l (i:Int)=some (rn l i):=cD _ hi;simp only[Fd.eq_2,aM hi,au,e,ae,ai (show i<9223372036854775807by omega)];by_cases ha:(rn l i).1>=n;.simp[ha]
     .by_cases hz:0<i
      .have e':idx l (av ((i:Int)-1))=some (rn l (i-1)):=by rw[zV hz (by omega)];exact cD _ (by omega)
       simp only[ha,e',ss,af,bm (show(i:Int)>0 by omega),au,ae,hz,true_and,false_or];by_cases hb:(rn l (i-1)).1>=(rn l i).1;.simp[hb]
       .by_cases hd:(rn l (i-1)).2=(rn l i).2;.simp[hb,hd]
        .rw[show((rn l (i-1)).2==(rn l i).2)=false by simpa using hd];simp[hb,hd]
      .simp only[ha,ss,af,bo (show¬(i:Int)>0 by omega),ae,hz,false_and,or_self];simp) (k:=N) hN;rw[key,ae];by_cases hex:∃i,i<l.length/\decide ((rn l i).1>=n\/0<i/\((rn l (i-1)).1>=(rn l i).1\/(rn l (i-1)).2=(rn l i).2))=true
   .rw[ba hex,bo];rintro⟨_,_,h3,h4⟩;obtain⟨i,hi,hq⟩:=hex;rcases du hq with hq|⟨hz,hq⟩;.have:=h4 i hi;omega
    .obtain⟨g1,g2⟩:=h3 (i-1) (by omega);rw[show i-1+1=i by omega]at g1 g2;rcases hq with hq|hq;.omega
     .exact g2 hq
   .rw[be hex,bm];have hno:∀i,i<l.length->¬((rn l i).1>=n\/0<i/\((rn l (i-1)).1>=(rn l i).1\/(rn l (i-1)).2=(rn l i).2)):=λi hi h=>hex ⟨i,hi,bm h⟩;refine⟨by omega,h1,λi hi=>?_,λi hi=>?_⟩;.have:=hno (i+1) hi;simp only[Nat.add_sub_cancel,sm,not_and]at this;have:=this.2 (by omega);exact⟨by omega,this.2⟩
    .have:=hno i hi;simp only[sm]at this;omega
  .rw[show((rn l 0).1!=(0:Int))=true by simp[h1],au,bo λh=>h1 h.2.1]
def pQ{l:List fm}{n:Nat}(h:ee l n):l.length<=n:=by
 have key:∀i:Nat,i<l.length->(i:Int)<=(rn l i).1:=by intro i;induction i with|zero=>have:=h.2.1;omega|succ i ih=>intro hi;have:=(h.2.2.1 i hi).1;omega
 have h0:=h.1;have:=key (l.length-1) (by omega);have:=h.2.2.2 (l.length-1) (by omega);omega
def vH:Int->List fm->List Int|_,[]=>[]|was,x::r=>V (x.1-was).toNat++(V x.2.toNat++vH x.1 r)
def td(l:List fm):List Int:=V l.length++vH 0 l
def Inc:Int->List fm->Prop|_,[]=>True|was,x::r=>was<=x.1/\x.1<=1000/\(0<=x.2/\x.2<=18446744073709551615)/\Inc x.1 r
def Cv(l:List fm):Prop:=∀x∈l,0<=x.2/\x.2<=18446744073709551615
def L8:∀(was:Int)(l:List fm),(vH was l).length<=l.length*20|_,[]=>by simp[vH]|was,x::r=>by have:=cZ (x.1-was).toNat;have:=cZ x.2.toNat;have:=L8 x.1 r;simp[vH,bb,fd];omega
def oR(l:List fm):(td l).length<=10+l.length*20:=by have:=cZ l.length;have:=L8 0 l;rw[td,bb];omega
def ee.inc{l:List fm}{n:Int}(h:ee l n)(hn:n<=1000)(hr:Cv l):Inc 0 l:=by
 have key:∀(m i:Nat)(was:Int),m=l.length-i->was>=0->(i<l.length->was<=(rn l i).1)->Inc was (l.drop i):=by intro m;induction m with|zero=>intro i was hm _ _;rw[List.drop_eq_nil_of_le (by omega)];trivial|succ m ih=>
  intro i was hm hw hle;have hi:i<l.length:=by omega
  have e:l[i]=rn l i:=by rw[rn,da,aw hi];rfl
  rw[ib hi,e];refine⟨hle hi,by have:=h.2.2.2 i hi;omega,hr _ (n6 _ hi),ih (i+1) _ (by omega) (by have:=hle hi;omega) λhi'=>?_⟩;have:=(h.2.2.1 i hi').1;omega
 have:=key l.length 0 0 (by omega) (by omega) λ_=>by rw[h.2.1];exact wx _
 grind
def Yo{a b:Int}(h:0<=b/\b<=a/\a<=1000):av (a-b)=a-b:=aO (by omega)
def Hs{N:Nat}(hN:20<N){l:List fm}(hl:l.length<=100000):∀(r pre:List fm)(was:Int)(out:List Int)(k:Nat),l=pre++r->Inc was r->0<=was->r.length<k->out.length<=100000+pre.length*20->NE N k (was,l,(l.length:Int),(pre.length:Int),out)=some (out++vH was r)
 |[],pre,was,out,k+1,he,_,_,_,_=>by rw[dq]at he;subst he;rw[NE.eq_2,aN,af,vH,dq]|x::r,pre,was,out,k+1,he,hi,hw,hk,ho=>by
  obtain⟨i1,i2,i3,i4⟩:=hi;have hlen:pre.length+(r.length+1)=l.length:=by rw[he];simp
  have:=cZ (x.1-was).toNat;have:=cZ x.2.toNat;have ih:=Hs hN hl r (pre++[x]) x.1 (out++V (x.1-was).toNat++V x.2.toNat) k (by rw[he];simp) i4 (by omega) (by simp at hk;omega) (by simp only[bb,dp];omega);obtain⟨v,hv⟩:=dE i3.1;rw[NE.eq_2,aM (by omega),au,he,sB,ae,<-he,Yo ⟨hw,i1,i2⟩,n5 hN (by omega),ae,aq (by omega) (by omega),aj,hv,yI hN (by omega),ae,aq (by simp only[bb];have:=cZ v;omega) (by omega),aj,ai (by omega)];rw[show((pre++[x]).length:Int)=((pre.length+1:Nat):Int)by simp]at ih;rw[hv]at ih;simp only[bd]at ih;rw[ih,vH,hv];simp[bi]|_,_,_,_,0,_,_,_,h,_=>by omega
def Ej{N:Nat}(hN:20<N){l:List fm}(hl:l.length<=100000):∀(r pre:List fm)(was:Int)(out:List Int)(k:Nat),l=pre++r->Inc was r->0<=was->r.length<k->out.length<=100000+pre.length*20->Hc N k (l,was,(pre.length:Int),out)=some (out++vH was r)
 |[],pre,was,out,k+1,he,_,_,_,_=>by rw[dq]at he;subst he;rw[Hc.eq_2,aN,af,vH,dq]|x::r,pre,was,out,k+1,he,hi,hw,hk,ho=>by
  obtain⟨i1,i2,i3,i4⟩:=hi;have hlen:pre.length+(r.length+1)=l.length:=by rw[he];simp
  have:=cZ (x.1-was).toNat;have:=cZ x.2.toNat;have ih:=Ej hN hl r (pre++[x]) x.1 (out++V (x.1-was).toNat++V x.2.toNat) k (by rw[he];simp) i4 (by omega) (by simp at hk;omega) (by simp only[bb,dp];omega);obtain⟨v,hv⟩:=dE i3.1;have hx:idx l (pre.length:Int)=some x:=by rw[he];exact sB _ _ _
  simp only[Hc.eq_2,aM (show pre.length<l.length by omega),au,hx,ae,Yo ⟨hw,i1,i2⟩,BB hN (show 0<=x.1-was/\x.1-was<=9223372036854775807by omega),aq (show out.length+(V (x.1-was).toNat).length<=10000000by omega) (show 1<=1000by omega),aj,hv,kX hN (show v<18446744073709551616by omega),aq (show(out++V (x.1-was).toNat).length+(V v).length<=10000000by simp only[bb];have:=cZ v;omega) (show 1<=1000by omega),ai (show pre.length<9223372036854775807by omega)];rw[show((pre++[x]).length:Int)=((pre.length+1:Nat):Int)by simp]at ih;rw[hv]at ih;simp only[bd]at ih;rw[ih,vH,hv];simp[bi]|_,_,_,_,0,_,_,_,h,_=>by omega
def abA{N:Nat}(hN:1000<N){l:List fm}{n:Nat}(hl:l.length<=1000)(h:ee l n)(h1:1<=n)(h2:n<=200)(hr:Cv l):W9 N (l,(n:Int))=some (td l,0):=by have hi:=h.inc (by omega) hr;have hv:=cZ l.length;rw[W9.eq_1,vB (by omega) (by omega),be (by omega),ba h,ae,iC,nZ (by omega),yI (by omega) (by omega),ae];have:=Hs (N:=N) (by omega) (l:=l) (by omega) l [] 0 (V l.length) N rfl hi (by omega) (by omega) (by simp;omega);simp at this;rw[this];rfl
def Ek{N:Nat}(hN:1000<N){l:List fm}{n:Nat}(hl:l.length<=1000)(h:ee l n)(h2:n<=200)(hr:Cv l):Sa N l=some (td l):=by have hi:=h.inc (by omega) hr;have hv:=cZ l.length;rw[Sa.eq_1,nZ (by omega),kX (by omega) (by omega),ae];have:=Ej (N:=N) (by omega) (l:=l) (by omega) l [] 0 (V l.length) N rfl hi (by omega) (by omega) (by simp;omega);simp at this;rw[this];rfl
def L9(n:Nat):Bool:=(decide (97<=n)&&decide (n<=122))||(decide (65<=n)&&decide (n<=90))
def uV(n:Nat):Bool:=L9 n||(decide (48<=n)&&decide (n<=57))
def mB(s:List UInt8):Bool:=decide (1<=s.length)&&(decide (s.length<=16)&&(L9 ((s.getD 0 0).toNat)&&s.all λc=>uV c.toNat))
def Yp:∀n:Nat,n<256->(bif(decide (((n:Nat):Int)>=(97:Int)))then(bif(decide (((n:Nat):Int)<=(122:Int)))then some true else(bif(decide (((n:Nat):Int)>=(65:Int)))then some (decide (((n:Nat):Int)<=(90:Int)))else some false))else(bif(decide (((n:Nat):Int)>=(65:Int)))then some (decide (((n:Nat):Int)<=(90:Int)))else some false))=some (L9 n):=by decide+kernel
def Ht(N:Nat)(c:UInt8):R4 N (c.toNat:Int)=some (L9 c.toNat):=by rw[R4.eq_1,Yp _ c.toNat_lt];rfl
def Yq:∀n:Nat,n<256->((bif(decide ((DS .u8 ((n:Nat):Int) (32:Int))<(97:Int)))then(bif(decide (((n:Nat):Int)<(48:Int)))then some true else some (decide (((n:Nat):Int)>(57:Int))))else(bif(decide ((DS .u8 ((n:Nat):Int) (32:Int))>(122:Int)))then(bif(decide (((n:Nat):Int)<(48:Int)))then some true else some (decide (((n:Nat):Int)>(57:Int))))else(bif((vF .u8 ((n:Nat):Int) (64:Int))==(0:Int))then(bif(decide (((n:Nat):Int)<(48:Int)))then some true else some (decide (((n:Nat):Int)>(57:Int))))else some false))):Option Bool)=some (!uV n):=by decide+kernel
def SA:∀n:Nat,n<256->((!decide (((n:Nat):Int)<=57))&&uV n)=(L9 n&&uV n):=by decide+kernel
def sF{α:Type}{n:Nat}{q:Nat->Bool}{a b:α}:(if∃i,i<n/\(!q i)=true then b else a)=if∀i,i<n->q i=true then a else b:=by
 by_cases h:∀i,i<n->q i=true;.grind
 .rw[be h,ba]<;>grind
def oJ{α β:Type}{l:List α}{p:α->Bool}{a b:β}:(if∃x,x∈l/\(!p x)=true then b else a)=if∀x,x∈l->p x=true then a else b:=by
 by_cases h:∀x,x∈l->p x=true;.grind
 .rw[be h,ba]<;>grind
def Yr{α:Type}{l:List α}{p:α->Bool}:(if∃x,x∈l/\(!p x)=true then(Sum.inl false:Bool⊕Unit)else .inr ())=if l.all p=true then .inr ()else .inl false:=by by_cases h:l.all p=true<;>simp_all
def El{N:Nat}{s:List UInt8}(hN:100<N):Oo N s=some (mB s):=by
 rw[Oo.eq_1];unfold mB;by_cases h0:s.length=0;.rw[show((s.length:Int)==(0:Int))=true by rw[h0];rfl,au,ae,au,bo (by omega),po]
 .rw[Je h0,af,bm (show 1<=s.length by omega),f8];by_cases h1:s.length<=16
  .have e0:idx s (0:Int)=some (s.getD 0 0):=cD (i:=0) 0 (by omega);rw[bo (show¬(s.length:Int)>16by omega),af,e0,ae,ae,bm h1,f8];have hlt:=(s.getD 0 0).toNat_lt;have hall:s.all (λc=>uV c.toNat)=true->uV (s.getD 0 0).toNat=true:=λh=>eQ.1 h _ (n6 0 (by omega));have hf:=SA _ hlt;have key:=gu (l:=bN s) (a:=(.inr ():Bool⊕Unit)) (b:=.inl false) (p:=λx=>!uV x.toNat) (Lf:=λk i=>K6 N k (bN s,((bN s).length:Int),i)) (λk _=>by simp only[K6.eq_2,aN,af]) (λk i x hx hm=>by obtain⟨c,hc,rfl⟩:=i6.1 hm;have hi:=aE hx;rw[de]at hi;simp only[K6.eq_2,aM (aE hx),au,aG hx,ae,Yq _ c.toNat_lt,ai (show i<9223372036854775807by omega),bd];by_cases hb:uV c.toNat=true<;>simp[hb]) (k:=N) (by rw[de];omega);rw[key,Yr (p:=λx:Int=>uV x.toNat)];have e2:(bN s).all (λx=>uV x.toNat)=s.all λc=>uV c.toNat:=by unfold bN;rw[List.all_map];rfl
   rw[e2];cases ha:s.all λc=>uV c.toNat;.rw[be (by simp),gg,ae];cases decide (((s.getD 0 0).toNat:Int)<=57)<;>rfl
   .rw[hall ha,lc,lc]at hf;rw[ba rfl,lc,ae,<-hf];cases decide (((s.getD 0 0).toNat:Int)<=57)<;>rfl
  .rw[bm (show(s.length:Int)>16by omega),au,ae,au,bo h1];rfl
def Ys:∀n:Nat,n<256->(bif(!L9 n)then(bif(decide (((n:Nat):Int)<(48:Int)))then some true else some (decide (((n:Nat):Int)>(57:Int))))else some false)=some (!uV n):=by decide+kernel
def Em{N:Nat}{s:List UInt8}(hN:100<N):R5 N s=some (mB s):=by
 rw[R5.eq_1];unfold mB;by_cases h0:1<=s.length
 .rw[bo (show¬(s.length:Int)<1by omega),af,bm h0,f8];by_cases h1:s.length<=16
  .have e0:idx s (0:Int)=some (s.getD 0 0):=cD (i:=0) 0 (by omega);rw[bo (show¬(s.length:Int)>16by omega),af,e0,ae,Ht,ae,ae,bm h1,f8];have key:=gu (l:=s) (a:=(.inr ():Bool⊕Unit)) (b:=.inl false) (p:=λc=>!uV c.toNat) (Lf:=λk i=>D6 N k (s,i)) (λk _=>by simp only[D6.eq_2,aN,af]) (λk i x hx hm=>by have hi:=aE hx;simp only[D6.eq_2,aM (aE hx),au,aG hx,ae,Ht,Ys _ x.toNat_lt,ai (show i<9223372036854775807by omega)];by_cases hb:uV x.toNat=true<;>simp[hb]) (k:=N) (by omega);rw[key,Yr (p:=λc:UInt8=>uV c.toNat)];cases ha:s.all λc=>uV c.toNat;.rw[be (by simp),gg];cases L9 (s.getD 0 0).toNat<;>rfl
   .rw[ba rfl,lc];cases L9 (s.getD 0 0).toNat<;>rfl
  .rw[bm (show(s.length:Int)>16by omega),au,ae,au,bo h1];rfl
 .rw[bm (show(s.length:Int)<1by omega),au,ae,au,bo h0,po]
def mZ{s:List UInt8}(h:mB s=true):s.length<=16:=by unfold mB at h<;>grind
def fl(l:List Field)(i:Nat):Field:=l.getD i ([],0)
def Ma(l:List Field)(i:Nat):Prop:=∃j,j<i/\(fl l j).1=(fl l i).1
def okF(l:List Field)(i:Nat):Bool:=mB (fl l i).1&&!decide (Ma l i)
def cE(l:List Field):Prop:=∀i,i<l.length->okF l i=true
def En{N:Nat}{l:List Field}{i:Nat}(hi:i<=l.length)(hN:l.length<N)(hl:l.length<=1000000)(s:List UInt8)(v:Int):(∃j:Int,0<=j/\jc N N (l.take i,((l.take i).length:Int),0,s,v)=some (.inl j)/\∃j,j<i/\(fl l j).1=s)\/(jc N N (l.take i,((l.take i).length:Int),0,s,v)=some (.inr ())/\¬∃j,j<i/\(fl l j).1=s):=by
 have hlen:(l.take i).length=i:=by grind
 have key:∀k j,j<=i->i-j<k->(∀m,m<j->(fl l m).1≠s)->(∃q:Int,0<=q/\jc N k (l.take i,((l.take i).length:Int),(j:Int),s,v)=some (.inl q)/\∃j,j<i/\(fl l j).1=s)\/(jc N k (l.take i,((l.take i).length:Int),(j:Int),s,v)=some (.inr ())/\¬∃j,j<i/\(fl l j).1=s):=by intro k;induction k with|zero=>omega|succ k ih=>
   intro j hj hk hm;by_cases he:j=i;.subst he;refine .inr ⟨?_,λ⟨m,h1,h2⟩=>hm m h1 h2⟩;rw[jc.eq_2,hlen,aN,af]
   .have e:idx (l.take i) (j:Int)=some (fl l j):=by refine aG ?_;rw[fa,ba (by omega),fl,da,aw (by omega)];rfl
    rw[jc.eq_2,hlen,aM (by omega),au,e,ae];by_cases hq:(fl l j).1=s;.rw[show((fl l j).1==s)=true by simpa using hq,au];exact .inl ⟨j,by omega,rfl,j,by omega,hq⟩
    .rw[show((fl l j).1==s)=false by simpa using hq,af,ai (by omega)];have:=ih (j+1) (by omega) (by omega) λm h=>by
      by_cases e:m=j;.subst e;exact hq
      .exact hm m (by omega)
     rw[hlen]at this;exact this
 exact key N 0 (by omega) (by omega) λm h=>by omega
def Mb{N:Nat}{l:List Field}(hN:l.length+100<N)(hl:l.length<=1000000):WU N l=some (decide (cE l)):=by
 rw[WU.eq_1];have key:=gP (n:=l.length) (a:=(.inr ():Bool⊕Unit)) (b:=.inl false) (q:=λi=>!okF l i) (Lf:=λk i=>kW N k (l,l,(l.length:Int),i)) (λk _=>by simp only[kW.eq_2,aN,af]) (λk i hi _=>by
   have e:idx l (i:Int)=some (fl l i):=cD _ hi;simp only[kW.eq_2,aM hi,au,e,ae,El (show 100<N by omega)];cases hn:mB (fl l i).1;.simp[okF,hn]
   .rw[dl,af,bm (show(0:Int)<=(i:Int)by omega),aj,bd,bm (show i<=l.length by omega),aj,ai (by omega)];rcases En (l:=l) (i:=i) (by omega) (show l.length<N by omega) hl (fl l i).1 (fl l i).2with⟨j,h1,h2,h3⟩|⟨h2,h3⟩;.rw[h2,ae];simp only[bm (show j>=0from h1),au];rw[ba (by unfold okF;rw[bm (show Ma l i from h3)];simp)]
    .rw[h2,ae];simp only;rw[be (by unfold okF;rw[hn,bo (show¬Ma l i from h3)];simp)]) (k:=N) (by omega);rw[key,sF,ae];by_cases h:cE l;.rw[ba (show∀i,i<l.length->okF l i=true from h),bm h]
 .rw[be (show¬∀i,i<l.length->okF l i=true from h),bo h]
def uW{N:Nat}{l:List Field}(hN:l.length+100<N)(hl:l.length<=1000000)(m:Int):R6 N (l,m)=some (decide ((l.length:Int)<=m/\cE l)):=by
 rw[R6.eq_1];by_cases hm:(l.length:Int)<=m
 .rw[bo (show¬(l.length:Int)>m by omega),af];have key:=gP (n:=l.length) (a:=(.inr ():Bool⊕Unit)) (b:=.inl false) (q:=λi=>!okF l i) (Lf:=λk i=>s7 N k (l,i)) (λk _=>by simp only[s7.eq_2,aN,af]) (λk i hi _=>by
    have e:idx l (i:Int)=some (fl l i):=cD _ hi;simp only[s7.eq_2,aM hi,au,e,ae,Em (show 100<N by omega)];cases hn:mB (fl l i).1;.simp[okF,hn]
    .have inner:=gP (n:=i) (a:=(.inr (l,(i:Int)):Bool⊕(List Field×Int))) (b:=.inl false) (q:=λj=>(fl l j).1==(fl l i).1) (Lf:=λk j=>D7 N k (l,(i:Int),j)) (λk _=>by simp only[D7.eq_2,aN,af]) (λk j hj _=>by have ej:idx l (j:Int)=some (fl l j):=cD _ (by omega);simp only[D7.eq_2,aM hj,au,e,ej,ae,ai (show j<9223372036854775807by omega)];by_cases hb:((fl l j).1==(fl l i).1)=true<;>simp[hb]) (k:=N) (by omega);rw[dl,af,inner,ae];by_cases hd:Ma l i;.rw[ba,ba (by unfold okF;rw[bm hd];simp)];obtain⟨j,h1,h2⟩:=hd;exact⟨j,h1,by simpa using h2⟩
     .rw[be,be (by unfold okF;rw[hn,bo hd];simp)];.simp only;rw[ai (by omega)]
      .rintro⟨j,h1,h2⟩;exact hd ⟨j,h1,by simpa using h2⟩) (k:=N) (by omega);rw[key,sF,ae];by_cases h:cE l;.rw[ba (show∀i,i<l.length->okF l i=true from h),bm ⟨hm,h⟩]
  .rw[be (show¬∀i,i<l.length->okF l i=true from h),bo λh'=>h h'.2]
 grind
def Ck{N:Nat}{l:List Int}(hN:l.length<N)(hl:l.length<=1000):LL N l=some (l.all λx=>x==0):=by
 rw[LL.eq_1];have key:∀(r pre:List Int)k,l=pre++r->r.length<k->(r.all (λx=>x==0)=true/\wN N k (l,(l.length:Int),(pre.length:Int))=some (.inr ()))\/(r.all (λx=>x==0)=false/\∃j:Int,0<=j/\wN N k (l,(l.length:Int),(pre.length:Int))=some (.inl j)):=by intro r;induction r with|nil=>intro pre k he hk;obtain⟨k,rfl⟩:∃k',k=k'+1:=⟨k-1,by simp at hk;omega⟩;simp at he;subst he;exact .inl ⟨rfl,by rw[wN.eq_2,aN,af]⟩|cons x r ih=>
  intro pre k he hk;obtain⟨k,rfl⟩:∃k',k=k'+1:=⟨k-1,by simp at hk;omega⟩;have hlen:pre.length+(r.length+1)=l.length:=by rw[he];simp
  have hx:idx l (pre.length:Int)=some x:=by rw[he];exact sB _ _ _
  rw[wN.eq_2,aM (by omega),au,hx,ae,abn.eq_1,ae];by_cases h0:x=0;.rw[show(x !=0)=false by simp[h0],af,ai (by omega),dv,show(x==0)=true by simp[h0],f8];have:=ih (pre++[x]) k (by rw[he];simp) (by simp at hk;omega);rwa[show((pre++[x]).length:Int)=((pre.length+1:Nat):Int)by simp]at this
  .rw[show(x !=0)=true by simp[h0],au,dv,show(x==0)=false by simp[h0],po];exact .inr ⟨rfl,pre.length,by omega,rfl⟩
 rcases key l [] N rfl hN with⟨h1,h2⟩|⟨h1,j,h2,h3⟩<;>grind
def Hu(N:Nat)(a b:Int):LK N (a,b)=some (decide (0<=a/\a<b)):=by rw[LK.eq_1,gC,ae]<;>simp_all
def ty0:aB:=(0,0,0,[])
def ez(l:List aB)(i:Nat):aB:=l.getD i ty0
def dg(n i:Nat)(t:aB):Prop:=if t.1=1\/t.1=2\/t.1=3then t.2.1=0/\t.2.2.1=0/\t.2.2.2.length=0 else if t.1=4\/t.1=7then(0<=t.2.1/\t.2.1<n)/\t.2.2.1=0/\t.2.2.2.length=0 else if t.1=6then(0<=t.2.1/\t.2.1<i)/\(1<=t.2.2.1/\t.2.2.1<=16)/\t.2.2.2.length=0 else if t.1=5then t.2.1=0/\t.2.2.1=0/\(0<t.2.2.2.length/\t.2.2.2.length<=8)/\cE t.2.2.2/\∀f,f∈t.2.2.2->0<=f.2/\f.2<i else False
def Hv{l:List Field}{i:Nat}(hi:i<l.length):hasB ((l.take i).map (·.1)) (fl l i).1=decide (Ma l i):=by
 unfold hasB;by_cases h:Ma l i;.rw[bm h,kx];obtain⟨j,h1,h2⟩:=h;refine⟨(fl l j).1,i6.2 ⟨fl l j,?_,rfl⟩,bm h2.symm⟩;rw[fl,da,aw (by omega)];exact pp.2 ⟨j,by omega,rfl⟩
 .rw[bo h];cases ha:((l.take i).map (·.1)).any λq=>decide ((fl l i).1=q)with|false=>rfl|true=>exfalso;obtain⟨q,h1,h2⟩:=kx.1 ha;obtain⟨f,h3,rfl⟩:=i6.1 h1;obtain⟨j,h4,rfl⟩:=pp.1 h3;refine h ⟨j,by omega,?_⟩;rw[du h2];rw[fl,da,aw (by omega)];rfl
def ahz{l:List Field}{i:Nat}(hi:i<l.length):l[i]?=some (fl l i):=by rw[fl,da,aw hi];rfl
def SB{l:List Field}{i:Nat}(hi:i<l.length)(h:¬Ma l i):tD ((l.take i).map (·.1)) (fl l i).1=(l.take (i+1)).map (·.1):=by unfold tD;rw[Hv hi,bo h,take_succ (ahz hi),f9];rfl
def Mc{N:Nat}{l:List Field}{p:Nat}(hN:l.length+100<N)(hl:l.length<=1000000)(a b c:Int):wO N N ((p:Int),l,(l.length:Int),(0:Int),a,b,c,l,([]:List (List UInt8)))=some (if cE l/\(∀f,f∈l->0<=f.2/\f.2<p)then .inr (a,b,c,l)else .inl false):=by
 have key:=gP (n:=l.length) (a:=(.inr (a,b,c,l):Bool⊕(Int×Int×Int×List Field))) (b:=.inl false) (q:=λi=>!(okF l i&&decide (0<=(fl l i).2/\(fl l i).2<p))) (Lf:=λk i=>wO N k ((p:Int),l,(l.length:Int),i,a,b,c,l,(l.take i.toNat).map (·.1))) (λk _=>by simp only[wO.eq_2,aN,af]) (λk i hi _=>by
   have e:idx l (i:Int)=some (fl l i):=cD _ hi;simp only[wO.eq_2,aM hi,au,e,ae,El (show 100<N by omega),bd,Hv hi,Hu,ai (show i<9223372036854775807by omega)];cases hn:mB (fl l i).1;.simp[okF,hn]
   .by_cases hd:Ma l i;.simp[okF,hd]
    .rw[SB hi hd];unfold okF;rw[hn,bo hd];cases decide (0<=(fl l i).2/\(fl l i).2<(p:Int))<;>rfl) (k:=N) (by omega);rw[show(0:Int).toNat=0from rfl,List.take_zero,lA]at key;rw[key,sF];have hiff:(∀i,i<l.length->(okF l i&&decide (0<=(fl l i).2/\(fl l i).2<(p:Int)))=true)↔cE l/\∀f,f∈l->0<=f.2/\f.2<(p:Int):=by simp only[al,db];refine⟨λh=>⟨λi hi=>(h i hi).1,λf hf=>?_⟩,λh i hi=>⟨h.1 i hi,h.2 _ (n6 _ hi)⟩⟩;obtain⟨i,hi,rfl⟩:=rF ([],0) hf;exact(h i hi).2
 grind
def OI{N:Nat}{l:List Field}{p:Nat}(hN:l.length<N)(hl:l.length<=1000000)(a b c:Int):s8 N N ((p:Int),(0:Int),a,b,c,l)=some (if∀f,f∈l->0<=f.2/\f.2<p then .inr (a,b,c,l)else .inl false):=by
 have key:=gu (l:=l) (a:=(.inr (a,b,c,l):Bool⊕(Int×Int×Int×List Field))) (b:=.inl false) (p:=λf=>!decide (0<=f.2/\f.2<(p:Int))) (Lf:=λk i=>s8 N k ((p:Int),i,a,b,c,l)) (λk _=>by simp only[s8.eq_2,aN,af]) (λk i x hx hm=>by
   simp only[s8.eq_2,aM (aE hx),au,aG hx,ae,ai (show i<9223372036854775807by have:=aE hx;omega)];by_cases h1:x.2<0;.rw[bm h1,bo (show¬(0<=x.2/\x.2<(p:Int))by omega)];rfl
   .by_cases h2:x.2>=(p:Int);.rw[bo h1,bm h2,bo (show¬(0<=x.2/\x.2<(p:Int))by omega)];rfl
    .rw[bo h1,bo h2,bm (show 0<=x.2/\x.2<(p:Int)by omega)];rfl) (k:=N) hN;rw[key,oJ]<;>grind
def Cl(a b:Int):(a==b)=decide (a=b):=by grind
def ahA{v:Int}(h:i64 v):decide (0<=av (v-1)/\av (v-1)<16)=decide (1<=v/\v<=16):=by
 unfold i64 at h;by_cases h1:v=-9223372036854775808;.subst h1;rfl
 .rw[aO (by omega)]<;>grind
def Yt{N:Nat}{l:List aB}{i:Nat}(hN:1100<N)(hi:i<l.length)(hf:(ez l i).2.2.2.length<=1000)(hb:i64 (ez l i).2.2.1):WI N (l,(i:Int))=some (decide (dg l.length i (ez l i))):=by
 have e:idx l (i:Int)=some (ez l i):=cD _ hi;rw[WI.eq_1,e,ae];unfold dg;generalize ez l i=t at hf hb;obtain⟨k,el,le,fs⟩:=t;simp only at hf hb⊢;rw[Mc (by omega) (by omega)];simp only[Cl,dS,ae,Hu,Ck (show[el,le,(fs.length:Int)].length<N by simp;omega) (by simp),Ck (show[le,(fs.length:Int)].length<N by simp;omega) (by simp),Ck (show[(fs.length:Int)].length<N by simp;omega) (by simp),ahA hb,dv,wi,lc];by_cases h1:k=1\/k=2\/k=3;.rw[show(decide (k=1)||(decide (k=2)||decide (k=3)))=true by simpa using h1,au,ba h1];congr 1;by_cases a1:el=0<;>by_cases a2:le=0<;>by_cases a3:fs.length=0<;>simp[a1,a2,a3];all_goals(intro h;simp[h]at a3)
 .rw[show(decide (k=1)||(decide (k=2)||decide (k=3)))=false by simpa using h1,af,be h1];by_cases h2:k=4\/k=7;.rw[show(decide (k=4)||decide (k=7))=true by simpa using h2,au,ba h2,gC];congr 1;by_cases a1:0<=el/\el<(l.length:Int)<;>by_cases a2:le=0<;>by_cases a3:fs.length=0<;>simp[a1,a2,a3];all_goals(intro h;simp[h]at a3)
  .rw[show(decide (k=4)||decide (k=7))=false by simpa using h2,af,be h2];by_cases h3:k=6;.rw[bm h3,au,ba h3];by_cases a1:0<=el/\el<(i:Int)<;>by_cases a2:1<=le/\le<=16<;>by_cases a3:fs.length=0<;>simp[a1,a2,a3];all_goals(intro h;simp[h]at a3)
   .rw[bo h3,af,be h3];by_cases h4:k=5
    .rw[bm h4,au,ba h4];by_cases hq:cE fs/\∀f,f∈fs->0<=f.2/\f.2<(i:Int)
     .rw[ba hq];simp only;rw[Ck (show[el,le].length<N by simp;omega) (by simp),ae];simp only[dv,wi,lc];have g3:decide ((fs.length:Int)>0)=decide (0<fs.length):=by rw[ka];omega
      have g4:decide ((fs.length:Int)<=8)=decide (fs.length<=8):=by rw[ka];omega
      rw[g3,g4];by_cases a1:el=0
      .by_cases a2:le=0
       .by_cases a3:0<fs.length
        .by_cases a4:fs.length<=8;.rw[aU (p:=el=0/\le=0/\(0<fs.length/\fs.length<=8)/\cE fs/\∀f,f∈fs->0<=f.2/\f.2<(i:Int)) ⟨a1,a2,⟨a3,a4⟩,hq⟩];simp[a1,a2,a3,a4]
         .rw[aQ (p:=el=0/\le=0/\(0<fs.length/\fs.length<=8)/\cE fs/\∀f,f∈fs->0<=f.2/\f.2<(i:Int)) λh=>a4 h.2.2.1.2];simp[a1,a2,a3,a4]
        .rw[aQ (p:=el=0/\le=0/\(0<fs.length/\fs.length<=8)/\cE fs/\∀f,f∈fs->0<=f.2/\f.2<(i:Int)) λh=>a3 h.2.2.1.1,bo a3];simp[a1,a2]
       .rw[aQ (p:=el=0/\le=0/\(0<fs.length/\fs.length<=8)/\cE fs/\∀f,f∈fs->0<=f.2/\f.2<(i:Int)) λh=>a2 h.2.1,show(le==0)=false by simpa using a2,gg];rfl
      .rw[aQ (p:=el=0/\le=0/\(0<fs.length/\fs.length<=8)/\cE fs/\∀f,f∈fs->0<=f.2/\f.2<(i:Int)) λh=>a1 h.1,show(el==0)=false by simpa using a1,po];rfl
     .rw[be hq,aQ (p:=el=0/\le=0/\(0<fs.length/\fs.length<=8)/\cE fs/\∀f,f∈fs->0<=f.2/\f.2<(i:Int)) λh=>hq ⟨h.2.2.2.1,h.2.2.2.2⟩]
    .rw[bo h4,af,be h4,aQ (p:=False) id]
def SC{N:Nat}{l:List aB}{i:Nat}(hN:1200<N)(hi:i<l.length)(hf:(ez l i).2.2.2.length<=1000):Vm N (l,(i:Int))=some (decide (dg l.length i (ez l i))):=by
 have e:idx l (i:Int)=some (ez l i):=cD _ hi;rw[Vm.eq_1,e,ae];unfold dg;generalize ez l i=t at hf;obtain⟨k,el,le,fs⟩:=t;simp only at hf⊢;rw[OI (by omega) (by omega)];simp only[Cl,dS,gC,ae,uW (show fs.length+100<N by omega) (show fs.length<=1000000by omega)];have g0:decide ((fs.length:Int)=0)=decide (fs.length=0):=by rw[ka];omega
 by_cases h1:k=1\/k=2\/k=3;.rw[show(decide (k=1)||(decide (k=2)||decide (k=3)))=true by simpa using h1,au,ba h1,g0];congr 1;by_cases a1:el=0<;>by_cases a2:le=0<;>by_cases a3:fs.length=0<;>simp[a1,a2,a3];all_goals(intro h;simp[h]at a3)
 .rw[show(decide (k=1)||(decide (k=2)||decide (k=3)))=false by simpa using h1,af,be h1];by_cases h2:k=4\/k=7;.rw[show(decide (k=4)||decide (k=7))=true by simpa using h2,au,ba h2,g0];congr 1;by_cases b1:0<=el<;>by_cases b2:el<(l.length:Int)<;>by_cases a2:le=0<;>by_cases a3:fs.length=0<;>simp[b1,b2,a2,a3];all_goals(intro h;simp[h]at a3)
  .rw[show(decide (k=4)||decide (k=7))=false by simpa using h2,af,be h2];by_cases h3:k=6;.rw[bm h3,au,ba h3,g0];congr 1;by_cases b1:0<=el<;>by_cases b2:el<(i:Int)<;>by_cases a1:1<=le<;>by_cases a2:le<=16<;>by_cases a3:fs.length=0<;>simp[b1,b2,a1,a2,a3];all_goals(intro h;simp[h]at a3)
   .rw[bo h3,af,be h3];by_cases h4:k=5
    .rw[bm h4,au,ba h4];have g3:decide ((fs.length:Int)>0)=decide (0<fs.length):=by rw[ka];omega
     by_cases hq:∀f,f∈fs->0<=f.2/\f.2<(i:Int)
     .rw[ba hq];simp only[g3,uW (show fs.length+100<N by omega) (show fs.length<=1000000by omega),ae,gC];by_cases a5:cE fs;.by_cases a1:el=0<;>by_cases a2:le=0<;>by_cases a3:0<fs.length<;>by_cases a4:fs.length<=8;all_goals first|(rw[aU (p:=el=0/\le=0/\(0<fs.length/\fs.length<=8)/\cE fs/\∀f,f∈fs->0<=f.2/\f.2<(i:Int)) ⟨a1,a2,⟨a3,a4⟩,a5,hq⟩,aU a1,aU a2,aU a3,aU (p:=(fs.length:Int)<=8/\cE fs) ⟨by omega,a5⟩];rfl)|(rw[aQ (p:=el=0/\le=0/\(0<fs.length/\fs.length<=8)/\cE fs/\∀f,f∈fs->0<=f.2/\f.2<(i:Int)) λh=>a1 h.1,aQ a1,po];done)|(rw[aQ (p:=el=0/\le=0/\(0<fs.length/\fs.length<=8)/\cE fs/\∀f,f∈fs->0<=f.2/\f.2<(i:Int)) λh=>a2 h.2.1,aQ a2,po,gg];done)|(rw[aQ (p:=el=0/\le=0/\(0<fs.length/\fs.length<=8)/\cE fs/\∀f,f∈fs->0<=f.2/\f.2<(i:Int)) λh=>a3 h.2.2.1.1,aQ a3,po,gg,gg];done)|(rw[aQ (p:=el=0/\le=0/\(0<fs.length/\fs.length<=8)/\cE fs/\∀f,f∈fs->0<=f.2/\f.2<(i:Int)) λh=>a4 h.2.2.1.2,aQ (p:=(fs.length:Int)<=8/\cE fs) λh=>a4 (by omega),gg,gg,gg];done)
      .rw[aQ (p:=el=0/\le=0/\(0<fs.length/\fs.length<=8)/\cE fs/\∀f,f∈fs->0<=f.2/\f.2<(i:Int)) λh=>a5 h.2.2.2.1,aQ (p:=(fs.length:Int)<=8/\cE fs) λh=>a5 h.2,gg,gg,gg]
     .rw[be hq,aQ (p:=el=0/\le=0/\(0<fs.length/\fs.length<=8)/\cE fs/\∀f,f∈fs->0<=f.2/\f.2<(i:Int)) λh=>hq h.2.2.2.2]
    .rw[bo h4,af,be h4,aQ (p:=False) id]
def dg.fields{n i:Nat}{t:aB}(h:dg n i t):(t.1=5\/t.2.2.2=[])/\t.2.2.2.length<=8/\∀f,f∈t.2.2.2->0<=f.2/\f.2<i:=by
 have nil:t.2.2.2.length=0->(t.1=5\/t.2.2.2=[])/\t.2.2.2.length<=8/\∀f,f∈t.2.2.2->0<=f.2/\f.2<i:=λh=>by have e:=eI h;rw[e];exact⟨.inr rfl,by simp,λf hf=>by cases hf⟩
 unfold dg at h<;>grind
def dg.ptr{n i:Nat}{t:aB}(h:dg n i t)(hk:t.1=4\/t.1=7):0<=t.2.1/\t.2.1<n:=by unfold dg at h<;>grind
def dg.arr{n i:Nat}{t:aB}(h:dg n i t)(hk:t.1=6):(0<=t.2.1/\t.2.1<i)/\1<=t.2.2.1/\t.2.2.1<=16:=by unfold dg at h<;>grind
def pY(out:List Int):List Field->Int|[]=>0|f::r=>out.getD f.2.toNat 0+pY out r
def BC(below out:List Int)(t:aB):Int:=min (1+(if t.1=4then below.getD t.2.1.toNat 0 else if t.1=7then 16*below.getD t.2.1.toNat 0 else if t.1=6then t.2.2.1*out.getD t.2.1.toNat 0 else 0)+pY out t.2.2.2) 5001
def jQ(below:List Int)(l:List aB):Nat->List Int|0=>[]|i+1=>jQ below l i++[BC below (jQ below l i) (ez l i)]
def W(l:List Int):Prop:=∀x,x∈l->0<=x/\x<=5001
def uX(below:List Int)(l:List aB):∀i,(jQ below l i).length=i|0=>rfl|i+1=>by simp[jQ,uX below l i]
def W.getD{l:List Int}(h:W l)(i:Nat):0<=l.getD i 0/\l.getD i 0<=5001:=by rw[da];cases e:l[i]?with|none=>simp|some x=>exact h x (aW e)
def Cm{out:List Int}(h:W out):∀fs:List Field,0<=pY out fs/\pY out fs<=fs.length*5001|[]=>by simp[pY]|f::r=>by have:=Cm h r;have:=h.getD f.2.toNat;simp only[pY,fd];omega
def Yu{below out:List Int}{n i:Nat}{t:aB}(hb:W below)(ho:W out)(ht:dg n i t):0<=BC below out t/\BC below out t<=5001:=by
 unfold BC;have:=Cm ho t.2.2.2;have h1:=hb.getD t.2.1.toNat;have h2:=ho.getD t.2.1.toNat;have:0<=(if t.1=4then below.getD t.2.1.toNat 0 else if t.1=7then 16*below.getD t.2.1.toNat 0 else if t.1=6then t.2.2.1*out.getD t.2.1.toNat 0 else 0):=by
  split;.omega
  .split;.omega
   .split;.rename_i h6;exact ui (by have:=ht.arr h6;omega) h2.1
    .omega
 omega
def zW{below:List Int}{l:List aB}(hb:W below):∀i,i<=l.length->(∀j,j<l.length->dg l.length j (ez l j))->W (jQ below l i)
 |0,_,_=>λx hx=>by cases hx|i+1,hi,ht=>λx hx=>by
  simp[jQ,bj,bv]at hx;rcases hx with hx|rfl;.exact zW hb i (by omega) ht x hx
  .exact Yu hb (zW hb i (by omega) ht) (ht i (by omega))
def Eo{α:Type}{a b:List α}{i:Nat}(d:α)(h:i<a.length):(a++b).getD i d=a.getD i d:=by grind
def Md{a b:List Int}:∀{fs:List Field},(∀f,f∈fs->0<=f.2/\f.2<a.length)->pY (a++b) fs=pY a fs|[],_=>rfl|f::r,h=>by have:=h f ca;rw[pY,pY,Eo _ (by omega),Md λg hg=>h g (ci _ hg)]
def mj{l:List Int}{i:Nat}(h:i<l.length):l[i]?=some (l.getD i 0):=by grind
def qh{x:Int}{n:Nat}(h:0<=x/\x<n):gB x n=true:=by grind[gB]
def Yv{N:Nat}{fs:List Field}{now below:List Int}(ave:W now)(a:List aB)(b c:Int)(d:List aB)(e g:Int)(hl:fs.length<=1000):∀(r pre:List Field)(n:Int)(k:Nat),fs=pre++r->(∀f,f∈r->0<=f.2/\f.2<now.length)->0<=n->n<=100000+pre.length*5001->r.length<k->wP N k (a,b,n,c,d,e,g,fs,(fs.length:Int),(pre.length:Int),below,now)=some (a,b,n+pY now r,c,d,e,g,below,now):=by intro r;induction r with|nil=>intro pre n k he _ _ _ hk;obtain⟨k,rfl⟩:∃k',k=k'+1:=⟨k-1,by simp at hk;omega⟩;simp at he;subst he;rw[wP.eq_2,aN,af,pY,zt]|cons x r ih=>
 intro pre n k he hf h0 hn hk;obtain⟨k,rfl⟩:∃k',k=k'+1:=⟨k-1,by simp at hk;omega⟩;have hlen:pre.length+(r.length+1)=fs.length:=by rw[he];simp
 have hx:idx fs (pre.length:Int)=some x:=by rw[he];exact sB _ _ _
 have hx2:=hf x ca;have hg:=ave.getD x.2.toNat;have ih:=ih (pre++[x]) (n+now.getD x.2.toNat 0) k (by rw[he];simp) (λf h=>hf f (ci _ h)) (by omega) (by rw[bb,dp];omega) (by simp at hk;omega);rw[wP.eq_2,aM (by omega),au,hx,ae,qh hx2,aj,mj (by omega),ae,aO (by omega),ai (by omega)];rw[show((pre++[x]).length:Int)=((pre.length+1:Nat):Int)by simp]at ih;rw[ih,pY,Int.add_assoc]
def Qr(n:Nat):W (List.replicate n 0):=λx hx=>by grind
def W.app{a b:List Int}(ha:W a)(hb:W b):W (a++b):=λx hx=>(bj.1 hx).elim (ha x) (hb x)
def Qs{a:List Int}{n i:Nat}{v:Int}(ha:a.length=i)(hi:i<n):(a++List.replicate (n-i) 0).set i v=(a++[v])++List.replicate (n-(i+1)) 0:=by rw[pB _ _ (by omega),show n-i=(n-(i+1))+1by omega,pt,show i-a.length=0 by omega,bi];rfl
def zX(l:List aB):Prop:=∀i,i<l.length->dg l.length i (ez l i)
def ahB{N:Nat}{l:List aB}{below:List Int}(hN:1000<N)(hl:l.length<=100)(ht:zX l)(hb:W below)(B3:below.length=l.length)(r:Int):
 ja N N (l,r,l,(l.length:Int),(0:Int),below,List.replicate l.length 0)=some (l,r,jQ below l l.length):=by have key:=kK (n:=l.length) (Lf:=λk i=>ja N k (l,r,l,(l.length:Int),i,below,jQ below l i.toNat++List.replicate (l.length-i.toNat) 0)) (g:=λ_=>some (l,r,jQ below l l.length)) (λk=>by simp only[ja.eq_2,aN,af,bd,pw,rc,dq]) (λk i hi ih=>by
   have e:idx l (i:Int)=some (ez l i):=cD _ hi;have ht':=ht i hi;have hf:=ht'.fields;have hW:=zW (i:=i) (l:=l) hb (by omega) ht;have Ib:=uX below l i;have hnl:(jQ below l i++List.replicate (l.length-i) (0:Int)).length=l.length:=by simp[Ib];omega
   have hWn:W (jQ below l i++List.replicate (l.length-i) 0):=hW.app (Qr _);have avf:pY (jQ below l i++List.replicate (l.length-i) 0) (ez l i).2.2.2=pY (jQ below l i) (ez l i).2.2.2:=Md λf h=>by have:=hf.2.2 f h;rw[Ib];exact this
   have OJ:∀v:Int,(jQ below l i++List.replicate (l.length-i) 0).set i v=(jQ below l i++[v])++List.replicate (l.length-(i+1)) 0:=λv=>Qs Ib hi;have fin:∀n:Int,0<=n->n<=100000->1+(if(ez l i).1=4then below.getD (ez l i).2.1.toNat 0 else if(ez l i).1=7then 16*below.getD (ez l i).2.1.toNat 0 else if(ez l i).1=6then(ez l i).2.2.1*(jQ below l i).getD (ez l i).2.1.toNat 0 else 0)=n->(Option.bind (wP N N (l,(i:Int),n,r,l,(l.length:Int),(i:Int),(ez l i).2.2.2,((ez l i).2.2.2.length:Int),(0:Int),below,jQ below l i++List.replicate (l.length-i) 0)) λSD=>(aL (gB SD.2.1 SD.2.2.2.2.2.2.2.2.length) ((Option.bind (SD.2.2.2.2.2.2.2.2[(Int.toNat SD.2.1)]?) λx32=>ja N k (SD.1,SD.2.2.2.1,SD.2.2.2.2.1,SD.2.2.2.2.2.1,(av (SD.2.2.2.2.2.2.1+(1:Int))),SD.2.2.2.2.2.2.2.1,(SD.2.2.2.2.2.2.2.2.set (Int.toNat SD.2.1) (min SD.2.2.1 (5001:Int))))))))=some (l,r,jQ below l l.length):=by intro n h0 hn he;have:=Yv (N:=N) (below:=below) hWn l (i:Int) r l (l.length:Int) (i:Int) (fs:=(ez l i).2.2.2) (by omega) (ez l i).2.2.2 [] n N rfl (λf h=>by rw[hnl];have:=hf.2.2 f h;omega) h0 (by simp;omega) (by omega);rw[show(([]:List Field).length:Int)=0from rfl]at this;rw[this,ae];simp only[bd];rw[hnl,cC hi,aj,mj (by rw[hnl];exact hi),ae,ai (by omega),OJ,avf];simp only[bd]at ih;rw[jQ,BC,he]at ih;exact ih
   have hbd:=hb.getD (ez l i).2.1.toNat;have hod:=hW.getD (ez l i).2.1.toNat;simp only[ja.eq_2,aM hi,au,e,ae,bd];by_cases h4:(ez l i).1=4;.have hp:=ht'.ptr (.inl h4);rw[ba h4]at fin;rw[show((ez l i).1==(4:Int))=true by simp[h4],au,qh (by omega),aj,mj (by omega),ae,aO (by omega)];exact fin _ (by omega) (by omega) rfl
   .rw[show((ez l i).1==(4:Int))=false by simp[h4],af];rw[be h4]at fin;by_cases h7:(ez l i).1=7;.have hp:=ht'.ptr (.inr h7);rw[ba h7]at fin;rw[show((ez l i).1==(7:Int))=true by simp[h7],au,qh (by omega),aj,mj (by omega),ae,aO (n:=16*_) (by omega),aO (by omega)];exact fin _ (by omega) (by omega) rfl
    .rw[show((ez l i).1==(7:Int))=false by simp[h7],af];rw[be h7]at fin;by_cases h6:(ez l i).1=6;.have hp:=ht'.arr h6;rw[ba h6]at fin;have hm:0<=(ez l i).2.2.1*(jQ below l i).getD (ez l i).2.1.toNat 0/\(ez l i).2.2.1*(jQ below l i).getD (ez l i).2.1.toNat 0<=16*5001:=⟨ui (by omega) hod.1,ul (by omega) hod.2 hod.1 (by omega)⟩;rw[show((ez l i).1==(6:Int))=true by simp[h6],au,qh (by rw[hnl];omega),aj,mj (by rw[hnl];omega),ae,Eo _ (by rw[Ib];omega),aO (n:=(ez l i).2.2.1*_) (by omega),aO (by omega)];exact fin _ (by omega) (by omega) rfl
     .rw[show((ez l i).1==(6:Int))=false by simp[h6],af];rw[be h6]at fin;exact fin 1 (by omega) (by omega) rfl) N 0 (by omega) (by omega);simpa[jQ]using key
def wR(l:List aB):Nat->List Int|0=>jQ (List.replicate l.length 0) l l.length|d+1=>jQ (wR l d) l l.length
def Ep{l:List aB}(ht:zX l):∀d,W (wR l d)/\(wR l d).length=l.length|0=>⟨zW (Qr _) _ (by omega) ht,uX _ _ _⟩|d+1=>⟨zW (Ep ht d).1 _ (by omega) ht,uX _ _ _⟩
def SE{N:Nat}{l:List aB}(hN:1000<N)(hl:l.length<=100)(ht:zX l):WM N l=some (wR l 3):=by
 have hr:(decide (Int.toNat (l.length:Int)<=Int.toNat (l.length:Int))&&room (Int.toNat (l.length:Int)) 8)=true:=by rw[bm (bc _),aq (by omega) (by omega)];rfl
 have h0:decide (0<=(l.length:Int))=true:=bm (by omega);have step:∀(j:Nat)(b:List Int)k,j<4->W b->b.length=l.length->kV N (k+1) (l,(j:Int),b)=kV N k (l,((j+1:Nat):Int),jQ b l l.length):=λj b k hj hb B3=>by rw[kV.eq_2,bm (by omega),au,h0,aj,aj,hr,aj,bd,ahB hN hl ht hb B3,ae];simp only;rw[ai (by omega)]
 obtain⟨k,rfl⟩:∃k,N=k+5:=⟨N-5,by omega⟩;rw[WM.eq_1,h0,aj,hr,aj,bd];have s0:=step 0 (List.replicate l.length 0) (k+4) (by omega) (Qr _) (by simp);have s1:=step 1 _ (k+3) (by omega) (Ep ht 0).1 (Ep ht 0).2;have s2:=step 2 _ (k+2) (by omega) (Ep ht 1).1 (Ep ht 1).2;have s3:=step 3 _ (k+1) (by omega) (Ep ht 2).1 (Ep ht 2).2;have e:kV (k+5) (k+5) (l,(0:Int),List.replicate l.length 0)=some (wR l 3):=by refine s0.trans (s1.trans (s2.trans (s3.trans ?_)));rfl
 rw[e];rfl
def partsOf(t:aB):List Int:=(if t.1=6then[t.2.1]else[])++t.2.2.2.map (·.2)
def uY{α β:Type}(g:α->β):∀fs:List α,fs.flatMap (λf=>[g f])=fs.map g|[]=>rfl|x::r=>by rw[eb,uY g r];rfl
def Yw{N:Nat}{t:aB}(hN:1100<N)(hf:t.2.2.2.length<=1000):Vo N (t.1,t.2.1,t.2.2.1,t.2.2.2)=some (partsOf t):=by
 obtain⟨k,el,le,fs⟩:=t;simp only at hf⊢;rw[Vo.eq_1];have key:=λs(hs:s.length<=1)=>iA (l:=fs) (enc:=λf:Field=>[f.2]) (g:=id) (B:=10000) (m:=1) (Lf:=λk' i(s:List Int)=>uD N k' (s,i,k,el,le,fs)) (λk' s=>by simp only[uD.eq_2,aN,af];rfl) (λk' i x s hx hm hs=>by simp only[uD.eq_2,aM (aE hx),au,aG hx,ae,aq (show s.length+1<=10000000by omega) (show 8<=1000by omega),aj,ai (show i<9223372036854775807by have:=aE hx;omega)]) (λx _=>by simp) (k:=N) (s:=s) (by omega) (by omega);rw[uY]at key;unfold partsOf;by_cases h:k=6;.rw[show(k==(6:Int))=true by simp[h],au,aq (by omega) (by omega),aj,key [el] (by simp)];simp[h]
 .rw[show(k==(6:Int))=false by simp[h],af,key [] (by simp)];simp[h]
def Jf(t:aB):Int:=if t.1=6then t.2.2.1else 1
def Fz(out:List Int)(t:aB):Int->List Int->Int|n,[]=>n|n,q::r=>Fz out t (min (n+Jf t*out.getD q.toNat 0) 5001) r
def apn{n i:Nat}{t:aB}(h:dg n i t):1<=Jf t/\Jf t<=16:=by
 unfold Jf;split;.exact(h.arr ‹_›).2
 .omega
def ahC{a b:Int}(ha:1<=a/\a<=16)(hb:0<=b/\b<=5001):0<=a*b/\a*b<=80016:=⟨ui (by omega) hb.1,zr (ul ha.2 hb.2 hb.1 (by omega)) (by omega)⟩
def OK{N:Nat}{R:List aB×Int->Option (List Int)}{l:List aB}{i:Nat}(hi:i<l.length)(ht:dg l.length i (ez l i)){out:List Int}(ho:W out)(d:Int)(below:List Int)(ps:List Int)(hl:ps.length<=1000):∀(r pre:List Int)(n:Int)(k:Nat),ps=pre++r->(∀q,q∈r->0<=q/\q<out.length)->0<=n->n<=5001->r.length<k->iX N R k (l,d,below,out,(i:Int),n,ps,(pre.length:Int))=some (l,d,below,out,(i:Int),Fz out (ez l i) n r):=by intro r;have e:idx l (i:Int)=some (ez l i):=cD _ hi;induction r with|nil=>intro pre n k he _ _ _ hk;obtain⟨k,rfl⟩:∃k',k=k'+1:=⟨k-1,by simp at hk;omega⟩;simp at he;subst he;rw[iX.eq_2,aN,af,Fz]|cons x r ih=>
 intro pre n k he hf h0 hn hk;obtain⟨k,rfl⟩:∃k',k=k'+1:=⟨k-1,by simp at hk;omega⟩;have hlen:pre.length+(r.length+1)=ps.length:=by rw[he];simp
 have hx:idx ps (pre.length:Int)=some x:=by rw[he];exact sB _ _ _
 have hx2:=hf x ca;have hg:=ahC (apn ht) (ho.getD x.toNat);have ih:=ih (pre++[x]) (min (n+Jf (ez l i)*out.getD x.toNat 0) 5001) k (by rw[he];simp) (λf h=>hf f (ci _ h)) (by omega) (by omega) (by simp at hk;omega);have hb:(Option.bind ((bif((ez l i).1==(6:Int))then(Option.bind (idx l (i:Int)) λx17=>some x17.2.2.1)else some (1:Int))) λb18=>(Option.bind (idx ps (pre.length:Int)) λx19=>(Option.bind (idx out x19) λx20=>iX N R k (l,d,below,out,(i:Int),(min (av (n+(av (b18*x20)))) (5001:Int)),ps,(av ((pre.length:Int)+(1:Int)))))))=iX N R k (l,d,below,out,(i:Int),min (n+Jf (ez l i)*out.getD x.toNat 0) 5001,ps,((pre.length+1:Nat):Int)):=by
  have ex:idx out x=some (out.getD x.toNat 0):=pN hx2.1 (mj (by omega));unfold Jf at hg⊢;by_cases h6:(ez l i).1=6;.rw[ba h6]at hg⊢;rw[show((ez l i).1==(6:Int))=true by simp[h6],au,e,ae,ae,hx,ae,ex,ae,aO (n:=(ez l i).2.2.1*_) (by omega),aO (by omega),ai (by omega)]
  .rw[be h6]at hg⊢;rw[show((ez l i).1==(6:Int))=false by simp[h6],af,ae,hx,ae,ex,ae,aO (n:=1*_) (by omega),aO (by omega),ai (by omega)]
 rw[iX.eq_2,aM (by omega),au,e,ae,<-e,hb];rw[show((pre++[x]).length:Int)=((pre.length+1:Nat):Int)by simp]at ih;rw[ih,Fz]
def BD{out:List Int}{t:aB}(ho:W out)(h6:t.1≠6):∀(fs:List Field)(n:Int),0<=n->n<=5001->Fz out t n (fs.map (·.2))=min (n+pY out fs) 5001|[],n,h0,hn=>by rw[lA,Fz,pY];omega|f::r,n,h0,hn=>by have hg:=ho.getD f.2.toNat;have hs:=Cm ho r;rw[f1,Fz,Jf,be h6,BD ho h6 r _ (by omega) (by omega),pY];omega
def ahD{out:List Int}{n i:Nat}{t:aB}(ho:W out)(ht:dg n i t):Fz out t 1 (partsOf t)=min (1+(if t.1=6then t.2.2.1*out.getD t.2.1.toNat 0 else 0)+pY out t.2.2.2) 5001:=by
 unfold partsOf;by_cases h6:t.1=6;.have hf:t.2.2.2=[]:=ht.fields.1.resolve_left (by omega);rw[ba h6,hf,lA,dq,Fz,Fz,Jf,ba h6,pY];omega
 .rw[be h6,ii,BD ho h6 _ _ (by omega) (by omega)];omega
def Yx(n i:Nat):(List.replicate n (0:Int)).getD i 0=0:=by grind
def Me{N:Nat}{R:List aB×Int->Option (List Int)}{l:List aB}(hN:1100<N)(hl:l.length<=100)(ht:zX l)(hf:∀i,i<l.length->(ez l i).2.2.2.length<=1000){d:Nat}{below b':List Int}(hb':W b')(hd:d=0/\b'=List.replicate l.length 0\/0<d/\d<=10/\below=b'/\b'.length=l.length):
 iP N R N (l,(d:Int),below,[],(0:Int))=some (jQ b' l l.length):=by have key:=kK (n:=l.length) (Lf:=λk i=>iP N R k (l,(d:Int),below,jQ b' l i.toNat,i)) (g:=λ_=>some (jQ b' l l.length)) (λk=>by simp only[iP.eq_2,aN,af,bd]) (λk i hi ih=>by
   have e:idx l (i:Int)=some (ez l i):=cD _ hi;have ht':=ht i hi;have hff:=ht'.fields;have hW:=zW (i:=i) (l:=l) hb' (by omega) ht;have Ib:=uX b' l i;have hps:∀q,q∈partsOf (ez l i)->0<=q/\q<(jQ b' l i).length:=by
    intro q hq;rw[Ib];unfold partsOf at hq;rw[bj]at hq;rcases hq with hq|hq
    .split at hq;.rw[bv]at hq;subst hq;exact(ht'.arr ‹_›).1
     .cases hq
    .obtain⟨f,h1,rfl⟩:=i6.1 hq;exact hff.2.2 f h1
   have hpl:(partsOf (ez l i)).length<=1000:=by
    unfold partsOf;rw[bb,lh];split;.simp;omega
    .simp;omega
   have hin:=OK (N:=N) (R:=R) hi ht' hW (d:Int) below (partsOf (ez l i)) hpl (partsOf (ez l i)) [] 1 N rfl hps (by omega) (by omega) (by omega);rw[show(([]:List Int).length:Int)=0from rfl,ahD hW ht']at hin;simp only[bd]at ih⊢;rw[jQ]at ih;have hbd:=hb'.getD (ez l i).2.1.toNat;have hod:=hW.getD (ez l i).2.1.toNat;have hsb:=Cm hW (ez l i).2.2.2;have hroom:room ((jQ b' l i).length+1) 8=true:=aq (by omega) (by omega);have fin:∀b31:Int,b31=BC b' (jQ b' l i) (ez l i)->iP N R k (l,(d:Int),below,jQ b' l i++[b31],((i+1:Nat):Int))=some (jQ b' l l.length):=by rintro _ rfl;exact ih
   simp only[iP.eq_2,aM hi,au,e,ae,Yw (t:=ez l i) hN (hf i hi),hin,hroom,aj,ai (show i<9223372036854775807by omega)];rcases hd with⟨rfl,hd⟩|⟨hd,aA8,rfl,B3⟩;.rw[show decide (((0:Nat):Int)>0)=false from rfl,af,af,ae,af,ae,ae,af,ae];refine fin _ ?_;unfold BC;rw[hd,Yx];split<;>(try split)<;>(try split)<;>first|omega|rfl
   .rw[bm (show(d:Int)>0 by omega),au,au,ae];unfold BC at fin;by_cases h4:(ez l i).1=4;.have hp:=ht'.ptr (.inl h4);have hfs:(ez l i).2.2.2=[]:=hff.1.resolve_left (by omega);rw[show((ez l i).1==(4:Int))=true by simp[h4],au,pN hp.1 (mj (by omega)),ae,ae,ae,show((ez l i).1==(7:Int))=false by simp[h4],af,ae,be (by omega)];refine fin _ ?_;rw[ba h4,hfs,pY,aO (by omega)];omega
    .rw[show((ez l i).1==(4:Int))=false by simp[h4],af,ae,ae];rw[be h4]at fin;by_cases h7:(ez l i).1=7;.have hp:=ht'.ptr (.inr h7);have hfs:(ez l i).2.2.2=[]:=hff.1.resolve_left (by omega);rw[show((ez l i).1==(7:Int))=true by simp[h7],au,pN hp.1 (mj (by omega)),ae,ae,be (by omega)];refine fin _ ?_;rw[ba h7,hfs,pY,aO (n:=16*_) (by omega),aO (by omega)];omega
     .rw[show((ez l i).1==(7:Int))=false by simp[h7],af,ae];rw[be h7]at fin;exact fin _ rfl) N 0 (by omega) (by omega);simpa[jQ]using key
def BE{l:List aB}(hl:l.length<=100)(ht:zX l)(hf:∀i,i<l.length->(ez l i).2.2.2.length<=1000):∀(d N:Nat),d<=10->1200+d<N->DT N (l,(d:Int))=some (wR l d)|0,N,_,hN=>by obtain⟨N,rfl⟩:∃k,N=k+1:=⟨N-1,by omega⟩;rw[DT.eq_2,show decide (((0:Nat):Int)>0)=false from rfl,af,Me (by omega) hl ht hf (Qr l.length) (.inl ⟨rfl,rfl⟩)];rfl|d+1,N,hd,hN=>by obtain⟨N,rfl⟩:∃k,N=k+1:=⟨N-1,by omega⟩;rw[DT.eq_2,bm (by omega),au,aO (by omega),show((d+1:Nat):Int)-1=(d:Int)by omega,BE hl ht hf d N (by omega) (by omega),ae,Me (by omega) hl ht hf (Ep ht d).1 (.inr ⟨by omega,by omega,rfl,(Ep ht d).2⟩)];rfl
def kL(l:List aB):Prop:=l.length<=32/\zX l/\∀x,x∈wR l 3->x<=5000
def Mf(l:List aB):Prop:=l.length<=100/\∀i,i<l.length->(ez l i).2.2.2.length<=1000/\i64 (ez l i).2.2.1
def zY{N:Nat}{l:List aB}(hN:1300<N)(hl:Mf l):Oq N l=some (if kL l then 0 else 8):=by
 rw[Oq.eq_1];by_cases h32:l.length<=32
 .rw[bo (show¬(l.length:Int)>32by omega),af];have key:=gP (n:=l.length) (a:=(.inr l:Int⊕List aB)) (b:=.inl 8) (q:=λi=>!decide (dg l.length i (ez l i))) (Lf:=λk i=>K7 N k (l,(l.length:Int),i)) (λk _=>by simp only[K7.eq_2,aN,af]) (λk i hi _=>by
    simp only[K7.eq_2,aM hi,au,Yt (show 1100<N by omega) hi (hl.2 i hi).1 (hl.2 i hi).2,ae,ai (show i<9223372036854775807by omega)];by_cases ht:dg l.length i (ez l i);.rw[aU ht];rfl
    .rw[aQ ht];rfl) (k:=N) (by omega);rw[key,sF,ae];by_cases hall:zX l
  .rw[ba (show∀i,i<l.length->decide (dg l.length i (ez l i))=true fromλi hi=>aU (hall i hi))];simp;rw[SE (by omega) hl.1 hall,ae];have hW:=Ep hall 3;have OL:=gu (l:=wR l 3) (a:=(.inr ():Int⊕Unit)) (b:=.inl 8) (p:=λx=>!decide (x<=5000)) (Lf:=λk i=>K8 N k (wR l 3,((wR l 3).length:Int),i)) (λk _=>by simp only[K8.eq_2,aN,af]) (λk i x hx hm=>by
     simp only[K8.eq_2,aM (aE hx),au,aG hx,ae,ai (show i<9223372036854775807by have:=aE hx;omega)];by_cases h5:x<=5000;.rw[aQ (show¬x>5000by omega),aU h5];rfl
     .rw[aU (show x>5000by omega),aQ h5];rfl) (k:=N) (by omega);rw[OL,oJ,ae];by_cases h5:∀x,x∈wR l 3->x<=5000;.rw[ba λx hx=>aU (h5 x hx),ba ⟨h32,hall,h5⟩]
   .rw[be λh=>h5 λx hx=>du (h x hx),be λh=>h5 h.2.2]
  .rw[be λh=>hall λi hi=>du (h i hi),be λh=>hall h.2.1]
 .rw[bm (show(l.length:Int)>32by omega),au,be λh=>h32 h.1]
def OM{N:Nat}{l:List aB}(hN:1300<N)(hl:Mf l):Vt N l=some (if kL l then 0 else 8):=by
 rw[Vt.eq_1];by_cases h32:l.length<=32
 .rw[bo (show¬(l.length:Int)>32by omega),af];have key:=gP (n:=l.length) (a:=(.inr l:Int⊕List aB)) (b:=.inl 8) (q:=λi=>!decide (dg l.length i (ez l i))) (Lf:=λk i=>D8 N k (l,i)) (λk _=>by simp only[D8.eq_2,aN,af]) (λk i hi _=>by
    simp only[D8.eq_2,aM hi,au,SC (show 1200<N by omega) hi (hl.2 i hi).1,ae,ai (show i<9223372036854775807by omega)];by_cases ht:dg l.length i (ez l i);.rw[aU ht];rfl
    .rw[aQ ht];rfl) (k:=N) (by omega);rw[key,sF,ae];by_cases hall:zX l
  .rw[ba (show∀i,i<l.length->decide (dg l.length i (ez l i))=true fromλi hi=>aU (hall i hi))];simp;have hw:=BE hl.1 hall (λi hi=>(hl.2 i hi).1) 3 N (by omega) (by omega);simp at hw;rw[hw,ae];have hW:=Ep hall 3;have OL:=gu (l:=wR l 3) (a:=(.inr ():Int⊕Unit)) (b:=.inl 8) (p:=λx=>!decide (x<=5000)) (Lf:=λk i=>EQ N k (l,wR l 3,i)) (λk _=>by simp only[EQ.eq_2,hW.2,aN,af]) (λk i x hx hm=>by
     have:=aE hx;rw[hW.2]at this;simp only[EQ.eq_2,aM this,au,aG hx,ae,ai (show i<9223372036854775807by omega)];by_cases h5:x<=5000;.rw[aQ (show¬x>5000by omega),aU h5];rfl
     .rw[aU (show x>5000by omega),aQ h5];rfl) (k:=N) (by omega);rw[OL,oJ,ae];by_cases h5:∀x,x∈wR l 3->x<=5000;.rw[ba λx hx=>aU (h5 x hx),ba ⟨h32,hall,h5⟩]
   .rw[be λh=>h5 λx hx=>du (h x hx),be λh=>h5 h.2.2]
  .rw[be λh=>hall λi hi=>du (h i hi),be λh=>hall h.2.1]
 .rw[bm (show(l.length:Int)>32by omega),au,be λh=>h32 h.1]
def up(a s:Int):Int:=(s+a-1)/a*a
def Jg(s:Int):up 1 s=s:=by unfold up;omega
def yL(s:Int):up 8 s=(s+7)/8*8:=by unfold up;omega
def AL(a:Int):Prop:=a=1\/a=8
def pR{a s:Int}(ha:AL a)(hs:0<=s):s<=up a s/\up a s<=s+7:=by
 rcases ha with rfl|rfl;.rw[Jg];omega
 .rw[yL];omega
def Jh{a s C:Int}(ha:AL a)(hC:C%8=0)(hs:s<=C):up a s<=C:=by
 rcases ha with rfl|rfl;.rw[Jg];omega
 .rw[yL];omega
def abB(n:Nat)(hn:n<18446744073709551616):(BitVec.ofNat 64 n&&&~~~(7#64)).toNat=n/8*8:=by
 have e:n/8*8=(n>>>3)<<<3:=by omega
 rw[e];refine Nat.eq_of_testBit_eq λk=>?_;rw[BitVec.toNat_and,Nat.testBit_and,pd,pC hn,BitVec.testBit_toNat,BitVec.getLsbD_not,Nat.testBit_shiftLeft,Nat.testBit_shiftRight];rcases im k 64with h|h
 .rw[bm h,f8];by_cases h3:k<3
  .have:k=0\/k=1\/k=2:=by omega
   rcases this with rfl|rfl|rfl<;>simp
  .rw[bm (show k>=3by omega),f8,show 3+(k-3)=k by omega];have:(7#64).getLsbD k=false:=by rw[BitVec.getLsbD_ofNat,sT (x:=7) (i:=k) (iv (show 7<2^3by omega) (pj (by omega) (by omega))),gg]
   grind
 .have h1:n.testBit k=false:=sT (iv hn (by rw[show 18446744073709551616=2^64by decide];exact pj (by omega) h))<;>grind
def sG{a s:Int}(ha:AL a)(hs:0<=s/\s<=4000000):qg .i64 (av ((av (s+a))-(1:Int))) (av (a-(1:Int)))=up a s:=by
 rcases ha with rfl|rfl
 .rw[aO (n:=s+1) (by omega),show s+1-1=s by omega,aO (by omega),show av ((1:Int)-1)=0from by decide,Jg];obtain⟨n,rfl⟩:=dE hs.1;unfold qg;have e:(BitVec.ofInt IntKind.i64.bits ((n:Nat):Int)&&&~~~(BitVec.ofInt IntKind.i64.bits 0)).toNat=n:=by show(BitVec.ofInt 64 ((n:Nat):Int)&&&~~~(BitVec.ofInt 64 0)).toNat=n;rw[show~~~(BitVec.ofInt 64 0)=BitVec.allOnes 64by decide,BitVec.and_allOnes,ol,pd];omega
  rw[e];exact aO (by omega)
 .rw[aO (n:=s+8) (by omega),show s+8-1=s+7by omega,aO (by omega),show av ((8:Int)-1)=7from by decide,yL];obtain⟨n,rfl⟩:=dE hs.1;unfold qg;have e:(BitVec.ofInt IntKind.i64.bits ((n:Int)+7)&&&~~~(BitVec.ofInt IntKind.i64.bits 7)).toNat=(n+7)/8*8:=by show(BitVec.ofInt 64 ((n:Int)+7)&&&~~~(BitVec.ofInt 64 7)).toNat=_;rw[show(n:Int)+7=((n+7:Nat):Int)by omega,ol];exact abB _ (by omega)
  rw[e,show IntKind.i64.wrap (((n+7)/8*8:Nat):Int)=(((n+7)/8*8:Nat):Int)from aO (by omega)];omega
def Cn{N:Nat}{a s:Int}(ha:AL a)(hs:0<=s/\s<=4000000):Og N (s,a)=some (up a s):=by
 rw[Og.eq_1];rcases ha with rfl|rfl;.rw[show(!decide ((1:Int)=0))=true from rfl,aj,aO (n:=s+1) (by omega),show s+1-1=s by omega,aO (n:=s) (by omega),Int.tdiv_one,aO (n:=s) (by omega),aO (by omega),Jg,Int.mul_one]
 .rw[show(!decide ((8:Int)=0))=true from rfl,aj,aO (n:=s+8) (by omega),show s+8-1=s+7by omega,aO (n:=s+7) (by omega),Int.tdiv_eq_ediv_of_nonneg (by omega),aO (n:=(s+7)/8) (by omega),aO (by omega),yL]
abbrev Ex:=Int×Int
def fF(x:List Ex)(i:Int):Ex:=x.getD i.toNat (0,1)
def gw(C:Int)(x:List Ex):Int->Int->List Field->List Int×Int×Int|s,a,[]=>([],s,a)|s,a,f::r=>let q:=gw C x (min C (up (fF x f.2).2 s+(fF x f.2).1)) (max a (fF x f.2).2) r;(up (fF x f.2).2 s::q.1,q.2.1,q.2.2)
def EX(C:Int)(x:List Ex):Prop:=∀e,e∈x->AL e.2/\0<=e.1/\e.1<=C
def EX.get{C:Int}(hC:0<=C){x:List Ex}(h:EX C x)(i:Int):AL (fF x i).2/\0<=(fF x i).1/\(fF x i).1<=C:=by unfold fF;rw[da];cases e:x[i.toNat]?with|none=>exact⟨.inl rfl,by show(0:Int)<=0;omega,hC⟩|some y=>exact h y (aW e)
def AL.max{a b:Int}(ha:AL a)(hb:AL b):AL (max a b):=by grind
def qi{C:Int}(hC:0<=C){x:List Ex}(hx:EX C x):∀(fs:List Field)(s a:Int),0<=s->s<=C->AL a->(0<=(gw C x s a fs).2.1/\(gw C x s a fs).2.1<=C)/\AL (gw C x s a fs).2.2/\(gw C x s a fs).1.length=fs.length|[],s,a,h0,hs,ha=>⟨⟨h0,hs⟩,ha,rfl⟩|f::r,s,a,h0,hs,ha=>by obtain⟨e1,e2,e3⟩:=hx.get hC f.2;have hu:=pR e1 h0;obtain⟨g1,g2,g3⟩:=qi hC hx r (min C (up (fF x f.2).2 s+(fF x f.2).1)) (max a (fF x f.2).2) (by omega) (by omega) (ha.max e1);simp only[gw]<;>grind
def sH{x:List Ex}{i:Int}(h:0<=i/\i<x.length):idx x i=some (fF x i):=by refine pN h.1 ?_;unfold fF<;>grind
def Qt{a b:List Ex}{i:Int}(h:0<=i/\i<a.length):fF (a++b) i=fF a i:=Eo _ (by omega)
def Yy{N:Nat}{x b:List Ex}(hx:EX 1048576 x){fs:List Field}(hl:fs.length<=1000)(c1 c2:Int):∀(r pre:List Field)(os:List Int)(s a:Int)(k:Nat),fs=pre++r->os.length=pre.length->(∀f,f∈r->0<=f.2/\f.2<x.length)->0<=s->s<=1048576->AL a->r.length<k->Ly N k (x++b,fs,(fs.length:Int),(pre.length:Int),c1,c2,os++List.replicate r.length 0,s,a)=some (c1,c2,os++(gw 1048576 x s a r).1,(gw 1048576 x s a r).2.1,(gw 1048576 x s a r).2.2):=by intro r;induction r with|nil=>intro pre os s a k he _ _ _ _ _ hk;obtain⟨k,rfl⟩:∃k',k=k'+1:=⟨k-1,by simp at hk;omega⟩;simp at he;subst he;rw[Ly.eq_2,aN];rfl|cons f r ih=>
 intro pre os s a k he ho hf h0 hs ha hk;obtain⟨k,rfl⟩:∃k',k=k'+1:=⟨k-1,by simp at hk;omega⟩;have hlen:pre.length+(r.length+1)=fs.length:=by rw[he];simp
 have hxf:idx fs (pre.length:Int)=some f:=by rw[he];exact sB _ _ _
 have hf2:=hf f ca;have hif:idx (x++b) f.2=some (fF x f.2):=by rw[sH (by rw[bb];omega),Qt hf2]
 obtain⟨e1,e2,e3⟩:=hx.get (by omega) f.2;have hu:=pR e1 h0;have huc:=Jh (C:=1048576) e1 (by omega) hs;have Ib:(os++List.replicate (f::r).length (0:Int)).length=fs.length:=by simp[ho];omega
 have OJ:∀v:Int,(os++List.replicate (f::r).length (0:Int)).set pre.length v=(os++[v])++List.replicate r.length 0:=λv=>by rw[pB _ _ (by omega),fd,pt,show pre.length-os.length=0 by omega,List.set_cons_zero,bi];rfl
 have ih:=ih (pre++[f]) (os++[up (fF x f.2).2 s]) (min 1048576 (up (fF x f.2).2 s+(fF x f.2).1)) (max a (fF x f.2).2) k (by rw[he];simp) (by simp[ho]) (λg h=>hf g (ci _ h)) (by omega) (by omega) (ha.max e1) (by simp at hk;omega);rw[Ly.eq_2,aM (by omega),au,hxf,ae,hif,ae,qh (by rw[Ib];omega),aj,sG e1 ⟨h0,by omega⟩,bd,mj (by rw[Ib];omega),ae,OJ,qh (by simp[ho];omega),aj];have hg:(os++[up (fF x f.2).2 s]++List.replicate r.length (0:Int))[pre.length]?=some (up (fF x f.2).2 s):=by rw[bi,kw (by omega),ho,pw];rfl
 rw[hg,ae,ai (by omega),aO (by omega)];rw[show((pre++[f]).length:Int)=((pre.length+1:Nat):Int)by simp]at ih;rw[ih];simp only[gw];rw[bi];rfl
def Yz{N:Nat}{x b:List Ex}(hN:1100<N)(hx:EX 1048576 x){fs:List Field}(hl:fs.length<=1000)(hf:∀f,f∈fs->0<=f.2/\f.2<x.length):Ot N (x++b,fs)=some ((gw 1048576 x 0 1 fs).1,up (gw 1048576 x 0 1 fs).2.2 (gw 1048576 x 0 1 fs).2.1,(gw 1048576 x 0 1 fs).2.2):=by
 have h0:decide (0<=(fs.length:Int))=true:=bm (by omega);have hr:(decide (Int.toNat (fs.length:Int)<=Int.toNat (fs.length:Int))&&room (Int.toNat (fs.length:Int)) 8)=true:=by rw[bm (bc _),aq (by omega) (by omega)];rfl
 have:=Yy (N:=N) (b:=b) hx hl 0 0 fs [] [] 0 1 N rfl rfl hf (by omega) (by omega) (.inl rfl) (by omega);simp at this;obtain⟨b1,b2,_⟩:=qi (C:=1048576) (by omega) hx fs 0 1 (by omega) (by omega) (.inl rfl);rw[Ot.eq_1,h0,aj,aj,hr,aj,bd,this,ae];rw[sG b2 ⟨b1.1,by omega⟩]
def yM{α β:Type}{g:α->β}{x:List α}{i:Int}{y:α}(h:idx x i=some y):idx (x.map g) i=some (g y):=by grind[idx]
def YA{N:Nat}{x:List Ex}(hx:EX 1000000 x){fs:List Field}(hl:fs.length<=1000):∀(r pre:List Field)(os:List Int)(s a:Int)(k:Nat),fs=pre++r->os.length=pre.length->(∀f,f∈r->0<=f.2/\f.2<x.length)->0<=s->s<=1000000->AL a->r.length<k->uE N k (x.map (·.1),x.map (·.2),fs,os,s,a,(pre.length:Int))=some (os++(gw 1000000 x s a r).1,(gw 1000000 x s a r).2.1,(gw 1000000 x s a r).2.2):=by intro r;induction r with|nil=>intro pre os s a k he _ _ _ _ _ hk;obtain⟨k,rfl⟩:∃k',k=k'+1:=⟨k-1,by simp at hk;omega⟩;simp at he;subst he;rw[uE.eq_2,aN,af];simp[gw,dq]|cons f r ih=>
 intro pre os s a k he ho hf h0 hs ha hk;obtain⟨k,rfl⟩:∃k',k=k'+1:=⟨k-1,by simp at hk;omega⟩;have hlen:pre.length+(r.length+1)=fs.length:=by rw[he];simp
 have hxf:idx fs (pre.length:Int)=some f:=by rw[he];exact sB _ _ _
 have hf2:=hf f ca;obtain⟨e1,e2,e3⟩:=hx.get (by omega) f.2;have hu:=pR e1 h0;have huc:=Jh (C:=1000000) e1 (by omega) hs;have hi:=sH hf2;have ih:=ih (pre++[f]) (os++[up (fF x f.2).2 s]) (min 1000000 (up (fF x f.2).2 s+(fF x f.2).1)) (max a (fF x f.2).2) k (by rw[he];simp) (by simp[ho]) (λg h=>hf g (ci _ h)) (by omega) (by omega) (ha.max e1) (by simp at hk;omega);rw[uE.eq_2,aM (by omega),au,hxf,ae,yM (g:=λe:Ex=>e.2) hi,ae,Cn e1 ⟨h0,by omega⟩,ae,aq (by omega) (by omega),aj,yM (g:=λe:Ex=>e.1) hi,ae,ae,ai (by omega),aO (by omega)];rw[show((pre++[f]).length:Int)=((pre.length+1:Nat):Int)by simp]at ih;rw[ih];simp only[gw];rw[bi];rfl
def YB{N:Nat}{x:List Ex}(hN:1100<N)(hx:EX 1000000 x){fs:List Field}(hl:fs.length<=1000)(hf:∀f,f∈fs->0<=f.2/\f.2<x.length):Oh N (x.map (·.1),x.map (·.2),fs)=some ((gw 1000000 x 0 1 fs).1,up (gw 1000000 x 0 1 fs).2.2 (gw 1000000 x 0 1 fs).2.1,(gw 1000000 x 0 1 fs).2.2):=by have:=YA (N:=N) hx hl fs [] [] 0 1 N rfl rfl hf (by omega) (by omega) (.inl rfl) (by omega);obtain⟨b1,b2,_⟩:=qi (C:=1000000) (by omega) hx fs 0 1 (by omega) (by omega) (.inl rfl);have:=Jh (C:=1000000) b2 (by omega) b1.2;rw[Oh.eq_1,‹uE N N _=_›,ae,Cn b2 ⟨b1.1,by omega⟩,ae]<;>grind
def qj(C:Int)(out:List Ex)(t:aB):Ex:=if t.1=1then(1,1)else if t.1=3then(16,8)else if t.1=7then(24,8)else if t.1=6then(min C (t.2.2.1*(fF out t.2.1).1),(fF out t.2.1).2)else if t.1=5then(up (gw C out 0 1 t.2.2.2).2.2 (gw C out 0 1 t.2.2.2).2.1,(gw C out 0 1 t.2.2.2).2.2)else(8,8)
def cQ(C:Int)(l:List aB):Nat->List Ex|0=>[]|i+1=>cQ C l i++[qj C (cQ C l i) (ez l i)]
def fQ(C:Int)(l:List aB):∀i,(cQ C l i).length=i|0=>rfl|i+1=>by simp[cQ,fQ C l i]
def Er{a b C:Int}(ha:1<=a/\a<=16)(hb:0<=b/\b<=C)(_hC:0<=C):0<=a*b/\a*b<=16*C:=⟨ui (by omega) hb.1,ul ha.2 hb.2 hb.1 (by omega)⟩
def YC{C:Int}(hC:1000<=C)(h8:C%8=0){out:List Ex}(ho:EX C out){n i:Nat}{t:aB}(ht:dg n i t):AL (qj C out t).2/\0<=(qj C out t).1/\(qj C out t).1<=C:=by
 unfold qj;have ha:=ho.get (by omega) t.2.1;obtain⟨b1,b2,_⟩:=qi (C:=C) (by omega) ho t.2.2.2 0 1 (by omega) (by omega) (.inl rfl);have hc:=Jh b2 h8 b1.2;have hu:=pR b2 b1.1;split;.exact⟨.inl rfl,by show(0:Int)<=1;omega,by show(1:Int)<=C;omega⟩
 .split;.exact⟨.inr rfl,by show(0:Int)<=16;omega,by show(16:Int)<=C;omega⟩
  .split;.exact⟨.inr rfl,by show(0:Int)<=24;omega,by show(24:Int)<=C;omega⟩
   .split;.rename_i h6;have:=Er (ht.arr h6).2 ha.2 (by omega)<;>grind
    .split;.grind
     .exact⟨.inr rfl,by show(0:Int)<=8;omega,by show(8:Int)<=C;omega⟩
def kM{C:Int}(hC:1000<=C)(h8:C%8=0){l:List aB}(ht:zX l):∀i,i<=l.length->EX C (cQ C l i)
 |0,_=>λe he=>by cases he|i+1,hi=>λe he=>by
  simp[cQ,bj,bv]at he;rcases he with he|rfl;.exact kM hC h8 ht i (by omega) e he
  .exact YC hC h8 (kM hC h8 ht i (by omega)) (ht i (by omega))
def ahE{a:List Ex}{n i:Nat}{v:Ex}(ha:a.length=i)(hi:i<n):(a++List.replicate (n-i) (0,0)).set i v=(a++[v])++List.replicate (n-(i+1)) (0,0):=by rw[pB _ _ (by omega),show n-i=(n-(i+1))+1by omega,pt,show i-a.length=0 by omega,bi];rfl
def BF{n i:Nat}{t:aB}(h:dg n i t):t.1=1\/t.1=2\/t.1=3\/t.1=4\/t.1=5\/t.1=6\/t.1=7:=by unfold dg at h<;>grind
def Es{N:Nat}{l:List aB}(hN:1100<N)(hl:l.length<=100)(ht:zX l):Sm N l=some (cQ 1048576 l l.length):=by
 have h0:decide (0<=(l.length:Int))=true:=bm (by omega);have hr:(decide (Int.toNat (l.length:Int)<=Int.toNat (l.length:Int))&&room (Int.toNat (l.length:Int)) 16)=true:=by rw[bm (bc _),aq (by omega) (by omega)];rfl
 rw[Sm.eq_1,h0,aj,hr,aj,bd];have key:=kK (n:=l.length) (Lf:=λk i=>bW N k (l,(l.length:Int),i,cQ 1048576 l i.toNat++List.replicate (l.length-i.toNat) (0,0))) (g:=λ_=>some (cQ 1048576 l l.length)) (λk=>by simp only[bW.eq_2,aN,af,bd,pw,rc,dq]) (λk i hi ih=>by
   have e:idx l (i:Int)=some (ez l i):=cD _ hi;have ht':=ht i hi;have hff:=ht'.fields;have hE:=kM (C:=1048576) (by omega) (by omega) ht i (by omega);have Ib:=fQ 1048576 l i;have hnl:(cQ 1048576 l i++List.replicate (l.length-i) ((0:Int),(0:Int))).length=l.length:=by simp[Ib];omega
   have OJ:∀v:Ex,(cQ 1048576 l i++List.replicate (l.length-i) (0,0)).set i v=(cQ 1048576 l i++[v])++List.replicate (l.length-(i+1)) (0,0):=λv=>ahE Ib hi;obtain⟨w,hw⟩:=oP (l:=cQ 1048576 l i++List.replicate (l.length-i) ((0:Int),(0:Int))) (i:=i) (by omega);simp only[bd]at ih⊢;rw[cQ]at ih;have fin:∀v:Ex,v=qj 1048576 (cQ 1048576 l i) (ez l i)->bW N k (l,(l.length:Int),((i+1:Nat):Int),(cQ 1048576 l i++[v])++List.replicate (l.length-(i+1)) (0,0))=some (cQ 1048576 l l.length):=by rintro _ rfl;exact ih
   have hin:gB (i:Int) (cQ 1048576 l i++List.replicate (l.length-i) ((0:Int),(0:Int))).length=true:=by rw[hnl];exact cC hi
   simp only[bW.eq_2,aM hi,au,e,ae,bd,hin,hw,OJ,aj,ai (show i<9223372036854775807by omega),dS];unfold qj at fin;rcases BF ht' with h|h|h|h|h|h|h;.rw[h];exact fin _ (by rw[ba h])
   .rw[h];exact fin _ (by rw[h];rfl)
   .rw[h];exact fin _ (by rw[h];rfl)
   .rw[h];exact fin _ (by rw[h];rfl)
   .rw[h]at fin⊢;have:=Yz (N:=N) (b:=List.replicate (l.length-i) (0,0)) hN hE (fs:=(ez l i).2.2.2) (by omega) (λf hf=>by rw[Ib];exact hff.2.2 f hf);have hq:(Option.bind (Ot N (cQ 1048576 l i++List.replicate (l.length-i) (0,0),(ez l i).2.2.2)) λy12=>bW N k (l,(l.length:Int),((i+1:Nat):Int),(cQ 1048576 l i++[y12.2])++List.replicate (l.length-(i+1)) (0,0)))=some (cQ 1048576 l l.length):=by rw[this,ae];exact fin _ rfl
    exact hq
   .have hp:=ht'.arr h;have ha:=hE.get (by omega) (ez l i).2.1;have hm:=Er hp.2 ha.2 (by omega);have hx:(cQ 1048576 l i++List.replicate (l.length-i) ((0:Int),(0:Int)))[(ez l i).2.1.toNat]?=some (fF (cQ 1048576 l i) (ez l i).2.1):=by have:=(uo (sH (x:=cQ 1048576 l i++List.replicate (l.length-i) ((0:Int),(0:Int))) (i:=(ez l i).2.1) (by rw[hnl];omega))).2;rw[this,Qt (by rw[Ib];exact hp.1)]
    have hq:(aL (gB (ez l i).2.1 (cQ 1048576 l i++List.replicate (l.length-i) ((0:Int),(0:Int))).length) (Option.bind ((cQ 1048576 l i++List.replicate (l.length-i) ((0:Int),(0:Int)))[(Int.toNat (ez l i).2.1)]?) λx10=>bW N k (l,(l.length:Int),((i+1:Nat):Int),(cQ 1048576 l i++[((min (1048576:Int) (av ((ez l i).2.2.1*x10.1))),x10.2)])++List.replicate (l.length-(i+1)) (0,0))))=some (cQ 1048576 l l.length):=by rw[qh (by rw[hnl];omega),aj,hx,ae];refine fin _ ?_;rw[aO (by omega),h];rfl
    rw[h];exact hq
   .rw[h];exact fin _ (by rw[h];rfl)) N 0 (by omega) (by omega);have:bW N N (l,(l.length:Int),(0:Int),List.replicate l.length (0,0))=some (cQ 1048576 l l.length):=by simpa[cQ]using key
 rw[this];rfl
def Et{N:Nat}{l:List aB}(hN:1100<N)(hl:l.length<=100)(ht:zX l):F99 N l=some ((cQ 1000000 l l.length).map (·.1),(cQ 1000000 l l.length).map (·.2)):=by
 rw[F99.eq_1];have key:=kK (n:=l.length) (Lf:=λk i=>bX N k (l,(cQ 1000000 l i.toNat).map (·.1),(cQ 1000000 l i.toNat).map (·.2),i)) (g:=λ_=>some ((cQ 1000000 l l.length).map (·.1),(cQ 1000000 l l.length).map (·.2))) (λk=>by simp only[bX.eq_2,aN,af,bd]) (λk i hi ih=>by
   have e:idx l (i:Int)=some (ez l i):=cD _ hi;have ht':=ht i hi;have hff:=ht'.fields;have hE:=kM (C:=1000000) (by omega) (by omega) ht i (by omega);have Ib:=fQ 1000000 l i;simp only[bd]at ih⊢;rw[cQ,f9,f9,f1,f1,lA,lA]at ih;have fin:∀a b:Int,(a,b)=qj 1000000 (cQ 1000000 l i) (ez l i)->bX N k (l,(cQ 1000000 l i).map (·.1)++[a],(cQ 1000000 l i).map (·.2)++[b],((i+1:Nat):Int))=some ((cQ 1000000 l l.length).map (·.1),(cQ 1000000 l l.length).map (·.2)):=by intro a b h;rw[<-h]at ih;exact ih
   have r1:room (((cQ 1000000 l i).map (·.1)).length+1) 8=true:=aq (by rw[lh];omega) (by omega);have r2:room (((cQ 1000000 l i).map (·.2)).length+1) 8=true:=aq (by rw[lh];omega) (by omega);simp only[bX.eq_2,aM hi,au,e,ae,r1,r2,aj,ai (show i<9223372036854775807by omega)];unfold qj at fin;rcases BF ht' with h|h|h|h|h|h|h;.rw[h];exact fin _ _ (by rw[ba h])
   .rw[h];exact fin _ _ (by rw[h];rfl)
   .rw[h];exact fin _ _ (by rw[h];rfl)
   .rw[h];exact fin _ _ (by rw[h];rfl)
   .have:=YB (N:=N) hN hE (fs:=(ez l i).2.2.2) (by omega) (λf hf=>by rw[Ib];exact hff.2.2 f hf);have hq:(Option.bind (Oh N ((cQ 1000000 l i).map (·.1),(cQ 1000000 l i).map (·.2),(ez l i).2.2.2)) λy11=>bX N k (l,(cQ 1000000 l i).map (·.1)++[y11.2.1],(cQ 1000000 l i).map (·.2)++[y11.2.2],((i+1:Nat):Int)))=some ((cQ 1000000 l l.length).map (·.1),(cQ 1000000 l l.length).map (·.2)):=by rw[this,ae];exact fin _ _ (by rw[h];rfl)
    rw[h];exact hq
   .have hp:=ht'.arr h;have ha:=hE.get (by omega) (ez l i).2.1;have hm:=Er hp.2 ha.2 (by omega);have hi2:idx (cQ 1000000 l i) (ez l i).2.1=some (fF (cQ 1000000 l i) (ez l i).2.1):=sH (by rw[Ib];exact hp.1);have hq:(Option.bind (idx ((cQ 1000000 l i).map (·.1)) (ez l i).2.1) λx7=>(Option.bind (idx ((cQ 1000000 l i).map (·.2)) (ez l i).2.1) λx9=>bX N k (l,(cQ 1000000 l i).map (·.1)++[(min (1000000:Int) (av ((ez l i).2.2.1*x7)))],(cQ 1000000 l i).map (·.2)++[x9],((i+1:Nat):Int))))=some ((cQ 1000000 l l.length).map (·.1),(cQ 1000000 l l.length).map (·.2)):=by rw[yM (g:=λe:Ex=>e.1) hi2,ae,yM (g:=λe:Ex=>e.2) hi2,ae,aO (by omega)];exact fin _ _ (by rw[h];rfl)
    rw[h];exact hq
   .rw[h];exact fin _ _ (by rw[h];rfl)) N 0 (by omega) (by omega);have:bX N N (l,[],[],(0:Int))=some ((cQ 1000000 l l.length).map (·.1),(cQ 1000000 l l.length).map (·.2)):=by simpa[cQ]using key
 grind
def Rel(a b:Ex):Prop:=(a.1=b.1\/(256<a.1/\256<b.1))/\a.2=b.2
def Mg{x y:List Ex}(hx:EX 1048576 x)(hy:EX 1000000 y)(h:∀i:Int,Rel (fF x i) (fF y i)):∀(fs:List Field)(s s' a:Int),(s=s'\/(256<s/\256<s'))->0<=s->0<=s'->s<=1048576->s'<=1000000->AL a->((gw 1048576 x s a fs).2.1=(gw 1000000 y s' a fs).2.1\/(256<(gw 1048576 x s a fs).2.1/\256<(gw 1000000 y s' a fs).2.1))/\(gw 1048576 x s a fs).2.2=(gw 1000000 y s' a fs).2.2|[],s,s',a,hs,_,_,_,_,_=>⟨hs,rfl⟩|f::r,s,s',a,hs,h0,h0',hc,E9,ha=>by obtain⟨e1,e2,e3⟩:=hx.get (by omega) f.2;obtain⟨g1,g2,g3⟩:=hy.get (by omega) f.2;obtain⟨r1,r2⟩:=h f.2;simp[gw];rw[<-r2]at g1⊢;have u1:=pR e1 h0;have u2:=pR e1 h0';refine Mg hx hy h r _ _ _ ?_ (by omega) (by omega) (by omega) (by omega) (ha.max e1)<;>grind
def SF{x y:List Ex}(hx:EX 1048576 x)(hy:EX 1000000 y)(h:∀i:Int,Rel (fF x i) (fF y i)){n i:Nat}{t:aB}(ht:dg n i t):Rel (qj 1048576 x t) (qj 1000000 y t):=by
 unfold qj;split;.exact⟨.inl rfl,rfl⟩
 .split;.exact⟨.inl rfl,rfl⟩
  .split;.exact⟨.inl rfl,rfl⟩
   .split
    .rename_i h6;obtain⟨r1,r2⟩:=h t.2.1;have e:=hx.get (by omega) t.2.1;have g:=hy.get (by omega) t.2.1;have hl:=(ht.arr h6).2;have k1:(fF x t.2.1).1<=t.2.2.1*(fF x t.2.1).1:=by have:=Int.mul_le_mul_of_nonneg_right hl.1 e.2.1<;>omega
     have k2:(fF y t.2.1).1<=t.2.2.1*(fF y t.2.1).1:=by have:=Int.mul_le_mul_of_nonneg_right hl.1 g.2.1<;>omega
     refine⟨?_,r2⟩<;>grind
    .split
     .obtain⟨q1,q2⟩:=Mg hx hy h t.2.2.2 0 0 1 (.inl rfl) (by omega) (by omega) (by omega) (by omega) (.inl rfl);obtain⟨b1,b2,_⟩:=qi (C:=1048576) (by omega) hx t.2.2.2 0 1 (by omega) (by omega) (.inl rfl);obtain⟨c1,c2,_⟩:=qi (C:=1000000) (by omega) hy t.2.2.2 0 1 (by omega) (by omega) (.inl rfl);refine⟨?_,q2⟩;rcases q1 with q1|q1;.grind
      .have:=pR b2 b1.1;have:=pR c2 c1.1<;>grind
     .exact⟨.inl rfl,rfl⟩
def Eu{a:List Ex}{v:Ex}(i:Int):fF (a++[v]) i=if i.toNat<a.length then fF a i else if i.toNat=a.length then v else(0,1):=by unfold fF<;>grind
def uZ{l:List aB}(ht:zX l):∀i,i<=l.length->∀j:Int,Rel (fF (cQ 1048576 l i) j) (fF (cQ 1000000 l i) j)
 |0,_,j=>⟨.inl rfl,rfl⟩|i+1,hi,j=>by
  rw[cQ,cQ,Eu,Eu,fQ,fQ];split;.exact uZ ht i (by omega) j
  .split;.exact SF (kM (by omega) (by omega) ht i (by omega)) (kM (by omega) (by omega) ht i (by omega)) (uZ ht i (by omega)) (ht i (by omega))
   .exact⟨.inl rfl,rfl⟩
def exs(l:List aB):List Ex:=cQ 1048576 l l.length
def sI(l:List aB):Prop:=∀i:Nat,i<l.length->(fF (exs l) i).1<=256
def Qu(l:List aB):(exs l).length=l.length:=fQ _ _ _
def Qv{N:Nat}{l:List aB}(hN:1300<N)(hl:Mf l)(ht:kL l){i:Int}(hi:0<=i/\i<l.length):Sn N (l,i)=some (if(fF (exs l) i).1<=256then((fF (exs l) i).1,(fF (exs l) i).2,0)else(0,0,16)):=by have e:idx (exs l) i=some (fF (exs l) i):=sH (by rw[Qu];exact hi);rw[Sn.eq_1,abo.eq_1,zY hN hl,ba ht,ae,iC,af,bo (show¬i<0 by omega),af,ae,bo (show¬i>=(l.length:Int)by omega),af,Es (by omega) hl.1 ht.2.1,ae,show cQ 1048576 l l.length=exs l from rfl,e,ae]<;>grind
def ko(l:List Field)(n:Nat):Prop:=∀f,f∈l->0<=f.2/\f.2<n
def fB(n:Nat)(f:Func):Prop:=mB f.1=true/\f.2.2.2.1.length<=16/\cE f.2.2.2.1/\(0<=f.2.1/\f.2.1<=f.2.2.2.1.length)/\(-1<=f.2.2.1/\f.2.2.1<n)/\ko f.2.2.2.1 n/\(1<=f.2.2.2.2.1.length/\f.2.2.2.2.1.length<=200)/\(∀x,x∈f.2.2.2.2.1->eY x=true)/\ee f.2.2.2.2.2.1 f.2.2.2.2.1.length/\ee f.2.2.2.2.2.2 f.2.2.2.2.1.length
def u0(f:Func):Prop:=f.2.2.2.1.length<=300/\f.2.2.2.2.1.length<=1000/\f.2.2.2.2.2.1.length<=1000/\f.2.2.2.2.2.2.length<=1000/\(∀x,x∈f.2.2.2.2.1->okI x)/\Cv f.2.2.2.2.2.1/\Cv f.2.2.2.2.2.2
def YD{N:Nat}{l:List Field}{ts:List aB}(hN:l.length<N)(hl:l.length<=1000)(a:List UInt8)(b c:Int)(d:List Field)(e:List Instr)(f g:List fm):wQ N N (ts,l,(l.length:Int),(0:Int),a,b,c,d,e,f,g)=some (if ko l ts.length then .inr (a,b,c,d,e,f,g)else .inl false):=by
 have key:=gu (l:=l) (a:=(.inr (a,b,c,d,e,f,g):Bool⊕(List UInt8×Int×Int×List Field×List Instr×List fm×List fm))) (b:=.inl false) (p:=λx=>!decide (0<=x.2/\x.2<(ts.length:Int))) (Lf:=λk i=>wQ N k (ts,l,(l.length:Int),i,a,b,c,d,e,f,g)) (λk _=>by simp only[wQ.eq_2,aN,af]) (λk i x hx hm=>by
   simp only[wQ.eq_2,aM (aE hx),au,aG hx,ae,ai (show i<9223372036854775807by have:=aE hx;omega),dS];by_cases h:0<=x.2/\x.2<(ts.length:Int);.rw[aU h,aQ (show¬x.2<0 by omega),aQ (show¬x.2>=(ts.length:Int)by omega)];rfl
   .rw[aQ h];by_cases h1:x.2<0;.rw[aU h1];rfl
    .rw[aU (show x.2>=(ts.length:Int)by omega),wl];rfl) (k:=N) hN;rw[key,oJ];simp only[db];exact kv some (Qk At)
def ON{N:Nat}{l:List Field}{ts:List aB}(hN:l.length<N)(hl:l.length<=1000)(a:List UInt8)(b c:Int)(e:List Instr)(f g:List fm):uF N N (ts,(0:Int),a,b,c,l,e,f,g)=some (if ko l ts.length then .inr (a,b,c,l,e,f,g)else .inl false):=by
 have key:=gu (l:=l) (a:=(.inr (a,b,c,l,e,f,g):Bool⊕(List UInt8×Int×Int×List Field×List Instr×List fm×List fm))) (b:=.inl false) (p:=λx=>!decide (0<=x.2/\x.2<(ts.length:Int))) (Lf:=λk i=>uF N k (ts,i,a,b,c,l,e,f,g)) (λk _=>by simp only[uF.eq_2,aN,af]) (λk i x hx hm=>by
   simp only[uF.eq_2,aM (aE hx),au,aG hx,ae,ai (show i<9223372036854775807by have:=aE hx;omega),dS];by_cases h:0<=x.2/\x.2<(ts.length:Int);.rw[aU h,aQ (show¬x.2<0 by omega),aQ (show¬x.2>=(ts.length:Int)by omega)];rfl
   .rw[aQ h];by_cases h1:x.2<0;.rw[aU h1];rfl
    .rw[aU (show x.2>=(ts.length:Int)by omega),wl];rfl) (k:=N) hN;rw[key,oJ];simp only[db];exact kv some (Qk At)
def abC{N:Nat}{l:List Instr}(hN:l.length<N)(hl:l.length<=1000)(a:List UInt8)(b c:Int)(d:List Field)(e:List Instr)(f g:List fm):wS N N (l,(l.length:Int),(0:Int),a,b,c,d,e,f,g)=some (if∀x,x∈l->eY x=true then .inr (a,b,c,d,e,f,g)else .inl false):=by
 have key:=gu (l:=l) (a:=(.inr (a,b,c,d,e,f,g):Bool⊕(List UInt8×Int×Int×List Field×List Instr×List fm×List fm))) (b:=.inl false) (p:=λx=>!eY x) (Lf:=λk i=>wS N k (l,(l.length:Int),i,a,b,c,d,e,f,g)) (λk _=>by simp only[wS.eq_2,aN,af]) (λk i x hx hm=>by
  simp only[wS.eq_2,aM (aE hx),au,aG hx,ae,ai (show i<9223372036854775807by have:=aE hx;omega),vA];by_cases h:eY x=true;.simp[h]
  .simp[h]) (k:=N) hN;rw[key,oJ]
def SG{N:Nat}{l:List Instr}(hN:l.length<N)(hl:l.length<=1000)(hx:∀x,x∈l->okI x)(a:List UInt8)(b c:Int)(d:List Field)(f g:List fm):uG N N ((0:Int),a,b,c,d,l,f,g)=some (if∀x,x∈l->eY x=true then .inr (a,b,c,d,l,f,g)else .inl false):=by
 have key:=gu (l:=l) (a:=(.inr (a,b,c,d,l,f,g):Bool⊕(List UInt8×Int×Int×List Field×List Instr×List fm×List fm))) (b:=.inl false) (p:=λx=>!eY x) (Lf:=λk i=>uG N k (i,a,b,c,d,l,f,g)) (λk _=>by simp only[uG.eq_2,aN,af]) (λk i x hx' hm=>by
  simp only[uG.eq_2,aM (aE hx'),au,aG hx',ae,ai (show i<9223372036854775807by have:=aE hx';omega),Eh N (hx x hm)];by_cases h:eY x=true;.simp[h]
  .simp[h]) (k:=N) hN;rw[key,oJ]
def Mh{N:Nat}{ts:List aB}{f:Func}(hN:1300<N)(hf:u0 f):WZ N (ts,f.1,f.2.1,f.2.2.1,f.2.2.2.1,f.2.2.2.2.1,f.2.2.2.2.2.1,f.2.2.2.2.2.2)=some (decide (fB ts.length f)):=by
 obtain⟨nm,pa,re,sl,co,si,li⟩:=f;obtain⟨g1,g2,g3,g4,g5,g6,g7⟩:=hf;simp only at g1 g2 g3 g4 g5 g6 g7⊢;rw[WZ.eq_1,El (by omega),Mb (by omega) (by omega)];simp only[ae,dS];have no:∀{p:Prop},(fB ts.length (nm,pa,re,sl,co,si,li)->p)->¬p->decide (fB ts.length (nm,pa,re,sl,co,si,li))=false:=λh hp=>aQ λh'=>hp (h h');by_cases hA:mB nm=true/\sl.length<=16/\cE sl/\(0<=pa/\pa<=sl.length)/\-1<=re/\re<ts.length
 .obtain⟨a1,a2,a3,a4,a5,a6⟩:=hA;rw[a1,aQ (show¬(sl.length:Int)>16by omega),aU a3,aQ (show¬pa<0 by omega),aQ (show¬pa>(sl.length:Int)by omega),aQ (show¬re< -1by omega),aQ (show¬re>=(ts.length:Int)by omega),show(!true||(false||(!true||(false||(false||(false||false))))))=false from rfl,af,YD (by omega) (by omega),ae];by_cases hr:ko sl ts.length
  .rw[ba hr];simp only;rw[abC (by omega) (by omega),ae];by_cases hc:∀x,x∈co->eY x=true
   .rw[ba hc];simp only;rw[vB (by omega) (by omega),vB (by omega) (by omega),ae,ae];by_cases hn:co.length<1\/co.length>200;.rw[ba hn,no (p:=1<=co.length/\co.length<=200) (λh=>h.2.2.2.2.2.2.1) (by omega)];rfl
    .rw[be hn,be hn];by_cases hs:ee si co.length
     .rw[ba hs];by_cases hv:ee li co.length;.rw[ba hv,aU (show fB ts.length (nm,pa,re,sl,co,si,li)from⟨a1,a2,a3,a4,⟨a5,a6⟩,hr,by simp only;omega,hc,hs,hv⟩)];rfl
      .rw[be hv,no (λh=>h.2.2.2.2.2.2.2.2.2) hv];rfl
     .rw[be hs,no (λh=>h.2.2.2.2.2.2.2.2.1) hs];rfl
   .rw[be hc,no (λh=>h.2.2.2.2.2.2.2.1) hc]
  .rw[be hr,no (λh=>h.2.2.2.2.2.1) hr]
 .rw[no (λh=>⟨h.1,h.2.1,h.2.2.1,h.2.2.2.1,h.2.2.2.2.1.1,h.2.2.2.2.1.2⟩) hA];have:(!mB nm||(decide ((sl.length:Int)>16)||(!decide (cE sl)||(decide (pa<0)||(decide (pa>(sl.length:Int))||(decide (re< -1)||decide (re>=(ts.length:Int))))))))=true:=by false_or_by_contra;rename_i h;apply hA;simp only[qr,i9,lj,mt,db]at h;obtain⟨k1,k2,k3,k4,k5,k6,k7⟩:=h;exact⟨k1,by omega,k3,by omega,by omega,by omega⟩
  rw[this,au]
def FA{N:Nat}{ts:List aB}{f:Func}(hN:1300<N)(hf:u0 f):VA N (ts,f.1,f.2.1,f.2.2.1,f.2.2.2.1,f.2.2.2.2.1,f.2.2.2.2.2.1,f.2.2.2.2.2.2)=some (decide (fB ts.length f)):=by
 obtain⟨nm,pa,re,sl,co,si,li⟩:=f;obtain⟨g1,g2,g3,g4,g5,g6,g7⟩:=hf;simp only at g1 g2 g3 g4 g5 g6 g7⊢;rw[VA.eq_1,Em (by omega),uW (by omega) (by omega)];simp only[ae,dS];have no:∀{p:Prop},(fB ts.length (nm,pa,re,sl,co,si,li)->p)->¬p->decide (fB ts.length (nm,pa,re,sl,co,si,li))=false:=λh hp=>aQ λh'=>hp (h h');by_cases hA:mB nm=true/\((sl.length:Int)<=16/\cE sl)/\(0<=pa/\pa<=sl.length)/\(-1<=re/\re<ts.length)/\1<=co.length/\co.length<=200
 .obtain⟨a1,a3,a4,a5,a6⟩:=hA;rw[a1,aU a3,aQ (show¬pa<0 by omega),aQ (show¬pa>(sl.length:Int)by omega),aQ (show¬re< -1by omega),aQ (show¬re>=(ts.length:Int)by omega),aQ (show¬(co.length:Int)<1by omega),aQ (show¬(co.length:Int)>200by omega),show(!true||(!true||(false||(false||(false||(false||(false||false)))))))=false from rfl,af,ON (by omega) (by omega),ae];by_cases hr:ko sl ts.length
  .rw[ba hr];simp only;rw[SG (by omega) (by omega) g5,ae];by_cases hc:∀x,x∈co->eY x=true
   .rw[ba hc];simp only;rw[Hr (by omega) (by omega),Hr (by omega) (by omega),ae,ae];by_cases hs:ee si co.length
    .rw[aU hs];by_cases hv:ee li co.length;.rw[aU hv,aU (show fB ts.length (nm,pa,re,sl,co,si,li)from⟨a1,by simp only;omega,a3.2,a4,a5,hr,a6,hc,hs,hv⟩)];rfl
     .rw[aQ hv,no (λh=>h.2.2.2.2.2.2.2.2.2) hv];rfl
    .rw[aQ hs,no (λh=>h.2.2.2.2.2.2.2.2.1) hs];rfl
   .rw[be hc,no (λh=>h.2.2.2.2.2.2.2.1) hc]
  .rw[be hr,no (λh=>h.2.2.2.2.2.1) hr]
 .rw[no (λh=>⟨h.1,⟨by have:=h.2.1;simp only at this;omega,h.2.2.1⟩,h.2.2.2.1,h.2.2.2.2.1,h.2.2.2.2.2.2.1⟩) hA];have:(!mB nm||(!decide ((sl.length:Int)<=16/\cE sl)||(decide (pa<0)||(decide (pa>(sl.length:Int))||(decide (re< -1)||(decide (re>=(ts.length:Int))||(decide ((co.length:Int)<1)||decide ((co.length:Int)>200))))))))=true:=by false_or_by_contra;rename_i h;apply hA;simp only[qr,i9,lj,mt,db]at h;obtain⟨k1,k2,k3,k4,k5,k6,k7,k8⟩:=h;exact⟨k1,k2,by omega,by omega,by omega⟩
  rw[this,au]
def fn0:Func:=([],0,0,[],[],[],[])
def gS(l:List Func)(i:Nat):Func:=l.getD i fn0
def SH(l:List Func)(i:Nat):Prop:=∃j,j<i/\(gS l j).1=(gS l i).1
def Ji(n:Nat)(l:List Func)(i:Nat):Bool:=decide (fB n (gS l i))&&!decide (SH l i)
def eL(ts:List aB)(xs:List (List UInt8))(fs:List Func):Prop:=kL ts/\xs.length<=32/\(1<=fs.length/\fs.length<=32)/\sI ts/\(∀s,s∈xs->s.length<=64)/\∀i,i<fs.length->Ji ts.length fs i=true
def OO(ts:List aB)(xs:List (List UInt8))(fs:List Func):Prop:=Mf ts/\xs.length<=50/\(∀s,s∈xs->s.length<=1000)/\fs.length<=50/\∀f,f∈fs->u0 f
def Ew{l:List Func}{i:Nat}(hi:i<l.length):hasB ((l.take i).map (·.1)) (gS l i).1=decide (SH l i):=by
 unfold hasB;by_cases h:SH l i;.rw[bm h,kx];obtain⟨j,h1,h2⟩:=h;refine⟨(gS l j).1,i6.2 ⟨gS l j,?_,rfl⟩,bm h2.symm⟩;rw[gS,da,aw (by omega)];exact pp.2 ⟨j,by omega,rfl⟩
 .rw[bo h];cases ha:((l.take i).map (·.1)).any λq=>decide ((gS l i).1=q)with|false=>rfl|true=>exfalso;obtain⟨q,h1,h2⟩:=kx.1 ha;obtain⟨f,h3,rfl⟩:=i6.1 h1;obtain⟨j,h4,rfl⟩:=pp.1 h3;refine h ⟨j,by omega,?_⟩;rw[du h2];rw[gS,da,aw (by omega)];rfl
def abD{l:List Func}{i:Nat}(hi:i<l.length):l[i]?=some (gS l i):=by rw[gS,da,aw hi];rfl
def OP{l:List Func}{i:Nat}(hi:i<l.length)(h:¬SH l i):tD ((l.take i).map (·.1)) (gS l i).1=(l.take (i+1)).map (·.1):=by unfold tD;rw[Ew hi,bo h,take_succ (abD hi),f9];rfl
def abE{N:Nat}{ts:List aB}{xs:List (List UInt8)}{fs:List Func}(hN:1300<N)(hm:OO ts xs fs):W5 N (ts,xs,fs)=some (decide (eL ts xs fs)):=by
 obtain⟨m1,m2,m3,m4,m5⟩:=hm;have no:∀{p:Prop},(eL ts xs fs->p)->¬p->decide (eL ts xs fs)=false:=λh hp=>aQ λh'=>hp (h h');have htl:=m1.1;rw[W5.eq_1,zY hN m1];simp[ae,dS];by_cases hA:kL ts/\xs.length<=32/\1<=fs.length/\fs.length<=32
 .obtain⟨a1,a2,a3,a4⟩:=hA;rw[ba a1,iC,aQ (show¬(xs.length:Int)>32by omega),Je (show¬fs.length=0 by omega),aQ (show¬(fs.length:Int)>32by omega),show(false||(false||(false||false)))=false from rfl,af];have key:=gP (n:=ts.length) (a:=(.inr (ts,xs,fs):Bool⊕(List aB×List (List UInt8)×List Func))) (b:=.inl false) (q:=λi=>!decide ((fF (exs ts) i).1<=256)) (Lf:=λk i=>LT N k ((ts.length:Int),i,ts,xs,fs)) (λk _=>by simp only[LT.eq_2,aN,af]) (λk i hi _=>by
    simp only[LT.eq_2,aM hi,au,Qv hN m1 a1 (show 0<=(i:Int)/\(i:Int)<ts.length by omega),ae,ai (show i<9223372036854775807by omega)];by_cases h:(fF (exs ts) i).1<=256;.rw[ba h,aU h];rfl
    .rw[be h,aQ h];rfl) (k:=N) (by omega);rw[key,sF,ae];by_cases hs:sI ts
  .rw[ba λi hi=>aU (hs i hi)];simp;have OL:=gu (l:=xs) (a:=(.inr (ts,xs,fs):Bool⊕(List aB×List (List UInt8)×List Func))) (b:=.inl false) (p:=λs=>!decide (s.length<=64)) (Lf:=λk i=>M2 N k (xs,(xs.length:Int),i,ts,xs,fs)) (λk _=>by simp only[M2.eq_2,aN,af]) (λk i x hx hm=>by
     simp only[M2.eq_2,aM (aE hx),au,aG hx,ae,ai (show i<9223372036854775807by have:=aE hx;omega)];by_cases h:x.length<=64;.rw[aU h,aQ (show¬(x.length:Int)>64by omega)];rfl
     .rw[aQ h,aU (show(x.length:Int)>64by omega)];rfl) (k:=N) (by omega);rw[OL,oJ,ae];by_cases hx:∀s,s∈xs->s.length<=64
   .rw[ba λs h=>aU (hx s h)];simp;have abF:=gP (n:=fs.length) (a:=(.inr ():Bool⊕Unit)) (b:=.inl false) (q:=λi=>!Ji ts.length fs i) (Lf:=λk i=>Nm N k (fs,(fs.length:Int),i,ts,xs,fs,(fs.take i.toNat).map (·.1))) (λk _=>by simp only[Nm.eq_2,aN,af]) (λk i hi _=>by
      have e:idx fs (i:Int)=some (gS fs i):=cD _ hi;simp only[Nm.eq_2,aM hi,au,e,ae,bd,Ew hi,ai (show i<9223372036854775807by omega)];have hfk:=Mh (ts:=ts) hN (m5 _ (n6 fn0 hi));rw[show fs.getD i fn0=gS fs i from rfl]at hfk;rw[hfk,ae];unfold Ji;by_cases hd:SH fs i;.rw[aU hd,dl,gg];rfl
      .rw[OP hi hd,aQ hd];by_cases hk:fB ts.length (gS fs i);.rw[aU hk];rfl
       .rw[aQ hk];rfl) (k:=N) (by omega);rw[show(0:Int).toNat=0from rfl,List.take_zero,lA]at abF;rw[abF,sF,ae];by_cases hf:∀i,i<fs.length->Ji ts.length fs i=true;.rw[ba hf,aU (show eL ts xs fs from⟨a1,a2,⟨a3,a4⟩,hs,hx,hf⟩)]
    .rw[be hf,no (λh=>h.2.2.2.2.2) hf]
   .rw[be λh=>hx λs hs=>du (h s hs),no (λh=>h.2.2.2.2.1) hx]
  .rw[be λh=>hs λi hi=>du (h i hi),no (λh=>h.2.2.2.1) hs]
 .rw[no (λh=>⟨h.1,h.2.1,h.2.2.1⟩) hA]<;>grind
def abG{x:List Ex}{i:Nat}(h:i<x.length):(x.map (·.1))[i]?=some (fF x i).1:=by rw[fi,fF,bd,da,aw h];rfl
def SI{N:Nat}{ts:List aB}{xs:List (List UInt8)}{fs:List Func}(hN:1300<N)(hm:OO ts xs fs):VG N (ts,xs,fs)=some (decide (eL ts xs fs)):=by
 obtain⟨m1,m2,m3,m4,m5⟩:=hm;have no:∀{p:Prop},(eL ts xs fs->p)->¬p->decide (eL ts xs fs)=false:=λh hp=>aQ λh'=>hp (h h');have htl:=m1.1;rw[VG.eq_1,OM hN m1];simp[ae,dS];by_cases hA:kL ts/\xs.length<=32/\1<=fs.length/\fs.length<=32
 .obtain⟨a1,a2,a3,a4⟩:=hA;rw[ba a1,iC,aQ (show¬(xs.length:Int)>32by omega),aQ (show¬(fs.length:Int)<1by omega),aQ (show¬(fs.length:Int)>32by omega),show(false||(false||(false||false)))=false from rfl,af,Et (by omega) htl a1.2.1,ae];have hlen:((cQ 1000000 ts ts.length).map (·.1)).length=ts.length:=by rw[lh,fQ]
  have key:=gP (n:=ts.length) (a:=(.inr (ts,xs,fs):Bool⊕(List aB×List (List UInt8)×List Func))) (b:=.inl false) (q:=λi=>!decide ((fF (exs ts) i).1<=256)) (Lf:=λk i=>FS N k ((cQ 1000000 ts ts.length).map (·.1),i,ts,xs,fs)) (λk _=>by simp only[FS.eq_2,hlen,aN,af]) (λk i hi _=>by
    have e:idx ((cQ 1000000 ts ts.length).map (·.1)) (i:Int)=some (fF (cQ 1000000 ts ts.length) i).1:=aG (abG (by rw[fQ];exact hi));simp only[FS.eq_2,hlen,aM hi,au,e,ae,ai (show i<9223372036854775807by omega)];obtain⟨r1,_⟩:=uZ a1.2.1 ts.length (bc _) (i:Int);rw[show cQ 1048576 ts ts.length=exs ts from rfl]at r1;by_cases h:(fF (exs ts) i).1<=256;.rw[aQ (show¬(fF (cQ 1000000 ts ts.length) i).1>256by omega),aU h];rfl
    .rw[aU (show(fF (cQ 1000000 ts ts.length) i).1>256by omega),aQ h];rfl) (k:=N) (by omega);rw[key,sF,ae];by_cases hs:sI ts
  .rw[ba λi hi=>aU (hs i hi)];simp;have OL:=gu (l:=xs) (a:=(.inr (ts,xs,fs):Bool⊕(List aB×List (List UInt8)×List Func))) (b:=.inl false) (p:=λs=>!decide (s.length<=64)) (Lf:=λk i=>GE N k (i,ts,xs,fs)) (λk _=>by simp only[GE.eq_2,aN,af]) (λk i x hx hm=>by
     simp only[GE.eq_2,aM (aE hx),au,aG hx,ae,ai (show i<9223372036854775807by have:=aE hx;omega)];by_cases h:x.length<=64;.rw[aU h,aQ (show¬(x.length:Int)>64by omega)];rfl
     .rw[aQ h,aU (show(x.length:Int)>64by omega)];rfl) (k:=N) (by omega);rw[OL,oJ,ae];by_cases hx:∀s,s∈xs->s.length<=64
   .rw[ba λs h=>aU (hx s h)];simp;have abF:=gP (n:=fs.length) (a:=(.inr ():Bool⊕Unit)) (b:=.inl false) (q:=λi=>!Ji ts.length fs i) (Lf:=λk i=>uH N k (i,ts,xs,fs)) (λk _=>by simp only[uH.eq_2,aN,af]) (λk i hi _=>by
      have e:idx fs (i:Int)=some (gS fs i):=cD _ hi;have hfk:=FA (ts:=ts) hN (m5 _ (n6 fn0 hi));rw[show fs.getD i fn0=gS fs i from rfl]at hfk;simp only[uH.eq_2,aM hi,au,e,ae,hfk];unfold Ji;by_cases hk:fB ts.length (gS fs i)
      .rw[aU hk,dl,af,f8];have inner:=gP (n:=i) (a:=(.inr ((i:Int),ts,xs,fs):Bool⊕(Int×List aB×List (List UInt8)×List Func))) (b:=.inl false) (q:=λj=>(gS fs j).1==(gS fs i).1) (Lf:=λk j=>GT N k ((i:Int),j,ts,xs,fs)) (λk _=>by simp only[GT.eq_2,aN,af]) (λk j hj _=>by have ej:idx fs (j:Int)=some (gS fs j):=cD _ (by omega);simp only[GT.eq_2,aM hj,au,e,ej,ae,ai (show j<9223372036854775807by omega)];by_cases hb:((gS fs j).1==(gS fs i).1)=true<;>simp[hb]) (k:=N) (by omega);rw[inner,ae];by_cases hd:SH fs i
       .rw[ba,aU hd];.rfl
        .obtain⟨j,h1,h2⟩:=hd;exact⟨j,h1,by simpa using h2⟩
       .rw[be,aQ hd];.simp only;rw[ai (by omega)];rfl
        .rintro⟨j,h1,h2⟩;exact hd ⟨j,h1,by simpa using h2⟩
      .rw[aQ hk];rfl) (k:=N) (by omega);rw[abF,sF,ae];by_cases hf:∀i,i<fs.length->Ji ts.length fs i=true;.rw[ba hf,aU (show eL ts xs fs from⟨a1,a2,⟨a3,a4⟩,hs,hx,hf⟩)]
    .rw[be hf,no (λh=>h.2.2.2.2.2) hf]
   .rw[be λh=>hx λs hs=>du (h s hs),no (λh=>h.2.2.2.2.1) hx]
  .rw[be λh=>hs λi hi=>du (h i hi),no (λh=>h.2.2.2.1) hs]
 .rw[no (λh=>⟨h.1,h.2.1,h.2.2.1⟩) hA]<;>grind
def nc(f:Field):List Int:=said f.1++V f.2.toNat
def oK(l:List Field):List Int:=V l.length++l.flatMap nc
def tf(t:aB):List Int:=[t.1]++if t.1=4\/t.1=7then V t.2.1.toNat else if t.1=6then V t.2.1.toNat++V t.2.2.1.toNat else if t.1=5then oK t.2.2.2else[]
def tg(f:Func):List Int:=said f.1++(V f.2.1.toNat++(V (JF f.2.2.1)++(oK f.2.2.2.1++(V f.2.2.2.2.1.length++(f.2.2.2.2.1.flatMap encI++(td f.2.2.2.2.2.1++td f.2.2.2.2.2.2))))))
def wZ(ts:List aB)(xs:List (List UInt8))(fs:List Func):List Int:=V ts.length++(ts.flatMap tf++(V xs.length++(xs.flatMap said++(V fs.length++fs.flatMap tg))))
def kF{N n:Nat}(hN:20<N)(hn:n<=1000000):iB N (aR (n:Int))=some (V n):=by rw[nZ (by omega),yI hN (by omega)]
def pS{f:Field}(h:mB f.1=true):(nc f).length<=40:=by have:=mZ h;have:=n4 f.1;have:=cZ f.2.toNat;rw[nc,bb];omega
def FW(l:List Field):Prop:=l.length<=16/\∀f,f∈l->mB f.1=true/\0<=f.2/\f.2<=1000
def yN{l:List Field}(h:cE l):∀f,f∈l->mB f.1=true:=λf hf=>by obtain⟨i,hi,rfl⟩:=rF ([],0) hf;have:=h i hi;unfold okF at this;simp at this;exact this.1
def qk{l:List Field}(h:FW l):(oK l).length<=700:=by have:=cZ l.length;have:=iH (l:=l) (enc:=nc) (m:=40) λf hf=>pS (h.2 f hf).1;have:=h.1;rw[oK,bb];omega
def dg.FW{n i:Nat}{t:aB}(h:dg n i t)(hi:i<=32)(h5:t.1=5):FW t.2.2.2:=by have hf:=h.fields;unfold dg at h;rw[be (by omega),be (by omega),be (by omega),ba h5]at h;have hn:=yN h.2.2.2.1;exact⟨by omega,λf hm=>⟨hn f hm,by have:=hf.2.2 f hm;omega⟩⟩
def zZ{n i:Nat}{t:aB}(h:dg n i t)(hi:i<=32):(tf t).length<=800:=by
 have:=cZ t.2.1.toNat;have:=cZ t.2.2.1.toNat;unfold tf;rw[bb,dp];split;.omega
 .split;.grind
  .split;.have:=qk (h.FW hi ‹_›);omega
   .simp
def fB.FW{n:Nat}{f:Func}(h:fB n f)(hn:n<=32):FW f.2.2.2.1:=⟨h.2.1,λg hg=>⟨yN h.2.2.1 g hg,by have:=h.2.2.2.2.2.1 g hg;omega⟩⟩
def z6{n:Nat}{f:Func}(h:fB n f)(hn:n<=32)(hf:u0 f):(tg f).length<=30000:=by have:=cZ f.2.1.toNat;have:=cZ (JF f.2.2.1);have:=cZ f.2.2.2.2.1.length;have:=qk (h.FW hn);have:=n4 f.1;have:=mZ h.1;have Jj:=h.2.2.2.2.2.2.1;have:=iH (l:=f.2.2.2.2.1) (enc:=encI) (m:=31) λx _=>pP x;have:=oR f.2.2.2.2.2.1;have:=oR f.2.2.2.2.2.2;have:=pQ h.2.2.2.2.2.2.2.2.1;have:=pQ h.2.2.2.2.2.2.2.2.2;simp only[tg,bb];omega
section
variable{N:Nat}
def SJ(hN:1300<N){l:List Field}(hl:FW l){s:List Int}(hs:s.length<=4000000)(a:List aB)(b:List (List UInt8))(c:List Func):wT N N (l,(l.length:Int),(0:Int),s,a,b,c)=some (s++l.flatMap nc,a,b,c):=by have FB:=hl.1;refine iA (l:=l) (enc:=nc) (g:=λs=>(s,a,b,c)) (B:=5000000) (m:=40) (Lf:=λk i s=>wT N k (l,(l.length:Int),i,s,a,b,c)) (λk s=>by simp only[wT.eq_2,aN,af]) (λk i x s hx hm hB=>?_) (λx hx=>pS (hl.2 x hx).1) (by omega) (by omega);have hx2:=hl.2 x hm;have hnl:=mZ hx2.1;have v1:=cZ x.1.length;have v2:=cZ x.2.toNat;simp only[wT.eq_2,aM (aE hx),au,aG hx,ae,kF (show 20<N by omega) (show x.1.length<=1000000by omega),n5 (show 20<N by omega) (show 0<=x.2/\x.2<=9223372036854775807by omega),aq (show s.length+(V x.1.length).length<=10000000by omega) (show 1<=1000by omega),aq (show(s++V x.1.length).length+(bN x.1).length<=10000000by grind[bN,V]) (show 1<=1000by omega),aq (show((s++V x.1.length)++bN x.1).length+(V x.2.toNat).length<=10000000by grind[bN,V]) (show 1<=1000by omega),aj,ai (show i<9223372036854775807by grind)];simp[nc,said,bi]
def YE(hN:1300<N){l:List Field}(hl:FW l){s:List Int}(hs:s.length<=4000000)(nm:List UInt8)(pa re:Int)(sl:List Field)(co:List Instr)(si li:List fm):wV N N (l,(l.length:Int),(0:Int),s,nm,pa,re,sl,co,si,li)=some (s++l.flatMap nc,nm,pa,re,sl,co,si,li):=by have FB:=hl.1;refine iA (l:=l) (enc:=nc) (g:=λs=>(s,nm,pa,re,sl,co,si,li)) (B:=5000000) (m:=40) (Lf:=λk i s=>wV N k (l,(l.length:Int),i,s,nm,pa,re,sl,co,si,li)) (λk s=>by simp only[wV.eq_2,aN,af]) (λk i x s hx hm hB=>?_) (λx hx=>pS (hl.2 x hx).1) (by omega) (by omega);have hx2:=hl.2 x hm;have hnl:=mZ hx2.1;have v1:=cZ x.1.length;have v2:=cZ x.2.toNat;simp only[wV.eq_2,aM (aE hx),au,aG hx,ae,kF (show 20<N by omega) (show x.1.length<=1000000by omega),n5 (show 20<N by omega) (show 0<=x.2/\x.2<=9223372036854775807by omega),aq (show s.length+(V x.1.length).length<=10000000by omega) (show 1<=1000by omega),aq (show(s++V x.1.length).length+(bN x.1).length<=10000000by grind[bN,V]) (show 1<=1000by omega),aq (show((s++V x.1.length)++bN x.1).length+(V x.2.toNat).length<=10000000by grind[bN,V]) (show 1<=1000by omega),aj,ai (show i<9223372036854775807by grind)];simp[nc,said,bi]
def Ey(hN:1300<N){l:List Field}(hl:FW l):R9 N l=some (oK l):=by have FB:=hl.1;have v0:=cZ l.length;rw[R9.eq_1,oQ (by omega) (by omega),ae];have:=iA (l:=l) (enc:=nc) (g:=id) (B:=5000000) (m:=40) (Lf:=λk i s=>Hb N k (l,i,s)) (λk s=>by simp only[Hb.eq_2,aN,af];rfl) (λk i x s hx hm hB=>by have hx2:=hl.2 x hm;have hnl:=mZ hx2.1;have v1:=n4 x.1;have v2:=cZ x.2.toNat;simp only[Hb.eq_2,aM (aE hx),au,aG hx,ae,Jc (show 20<N by omega) (show x.1.length<=1000000by omega),pO (show 20<N by omega) (show 0<=x.2/\x.2<=9223372036854775807by omega),aq (show s.length+(said x.1).length<=10000000by omega) (show 1<=1000by omega),aq (show(s++said x.1).length+(V x.2.toNat).length<=10000000by rw[bb];omega) (show 1<=1000by omega),aj,ai (show i<9223372036854775807by have:=aE hx;omega)];simp only[nc,bi]) (λx hx=>pS (hl.2 x hx).1) (k:=N) (s:=V l.length) (by omega) (by omega);rw[this];rfl
def TW(ts:List aB):Prop:=ts.length<=32/\∀t,t∈ts->∃n i,i<=32/\n<=32/\dg n i t
def kL.TW{ts:List aB}(h:kL ts):TW ts:=⟨h.1,λt ht=>by obtain⟨i,hi,rfl⟩:=rF ty0 ht;exact⟨ts.length,i,by have:=h.1;omega,h.1,h.2.1 i hi⟩⟩
def YF(hN:1300<N){l:List aB}(hl:TW l){s:List Int}(hs:s.length<=1000000)(a:List aB)(b:List (List UInt8))(c:List Func):eH N N (l,(l.length:Int),(0:Int),s,a,b,c)=some (a,b,c,s++l.flatMap tf):=by
 have FB:=hl.1;refine iA (l:=l) (enc:=tf) (g:=λs=>(a,b,c,s)) (B:=2000000) (m:=800) (Lf:=λk i s=>eH N k (l,(l.length:Int),i,s,a,b,c)) (λk s=>by simp only[eH.eq_2,aN,af]) (λk i t s hx hm hB=>?_) (λx hx=>by obtain⟨n,i,hi,_,ht⟩:=hl.2 x hx;exact zZ ht hi) (by omega) (by omega);obtain⟨n,j,hj,hn,ht⟩:=hl.2 t hm;have v1:=cZ t.2.1.toNat;have v2:=cZ t.2.2.1.toNat;have v3:=cZ t.2.2.2.length;have r0:room (s.length+1) 1=true:=aq (by omega) (by omega);have r1:room ((s++[t.1]).length+(V t.2.1.toNat).length) 1=true:=aq (by simp only[bb,dp];omega) (by omega);have r2:room (((s++[t.1])++V t.2.1.toNat).length+(V t.2.2.1.toNat).length) 1=true:=aq (by simp only[bb,dp];omega) (by omega);have r3:room ((s++[t.1]).length+(V t.2.2.2.length).length) 1=true:=aq (by simp only[bb,dp];omega) (by omega);simp only[eH.eq_2,aM (aE hx),au,aG hx,ae,r0,aj,ai (show i<9223372036854775807by grind),dS,Cl];unfold tf;by_cases YG:t.1=4\/t.1=7;.have hp:=ht.ptr YG;rw[ba YG,show(decide (t.1=4)||decide (t.1=7))=true by simpa using YG,au,n5 (by omega) (by omega),ae,r1,aj,bi]
 .rw[be YG,show(decide (t.1=4)||decide (t.1=7))=false by simpa using YG,af];by_cases h6:t.1=6;.have hp:=ht.arr h6;rw[ba h6,bm h6,au,n5 (by omega) (by omega),ae,r1,aj,n5 (by omega) (by omega),ae,r2,aj,bi,bi]
  .rw[be h6,bo h6,af];by_cases h5:t.1=5;.have hw:=ht.FW hj h5;rw[ba h5,bm h5,au,kF (by omega) (by have:=hw.1;omega),ae,r3,aj,SJ hN hw (by simp[bb,dp];omega),ae,oK,bi,bi]
   grind
def SK(hN:1300<N){l:List aB}(hl:TW l){s:List Int}(hs:s.length<=1000000)(b:List (List UInt8))(c:List Func):iQ N N ((0:Int),l,b,c,s)=some (l,b,c,s++l.flatMap tf):=by
 have FB:=hl.1;refine iA (l:=l) (enc:=tf) (g:=λs=>(l,b,c,s)) (B:=2000000) (m:=800) (Lf:=λk i s=>iQ N k (i,l,b,c,s)) (λk s=>by simp only[iQ.eq_2,aN,af]) (λk i t s hx hm hB=>?_) (λx hx=>by obtain⟨n,i,hi,_,ht⟩:=hl.2 x hx;exact zZ ht hi) (by omega) (by omega);obtain⟨n,j,hj,hn,ht⟩:=hl.2 t hm;have v1:=cZ t.2.1.toNat;have v2:=cZ t.2.2.1.toNat;have r0:room (s.length+1) 1=true:=aq (by omega) (by omega);have r1:room ((s++[t.1]).length+(V t.2.1.toNat).length) 1=true:=aq (by simp only[bb,dp];omega) (by omega);have r2:room (((s++[t.1])++V t.2.1.toNat).length+(V t.2.2.1.toNat).length) 1=true:=aq (by simp only[bb,dp];omega) (by omega);simp only[iQ.eq_2,aM (aE hx),au,aG hx,ae,r0,aj,ai (show i<9223372036854775807by grind),dS,Cl];unfold tf;by_cases YG:t.1=4\/t.1=7;.have hp:=ht.ptr YG;rw[ba YG,show(decide (t.1=4)||decide (t.1=7))=true by simpa using YG,au,pO (by omega) (by omega),ae,r1,aj,bi]
 .rw[be YG,show(decide (t.1=4)||decide (t.1=7))=false by simpa using YG,af];by_cases h6:t.1=6;.have hp:=ht.arr h6;rw[ba h6,bm h6,au,pO (by omega) (by omega),ae,r1,aj,pO (by omega) (by omega),ae,r2,aj,bi,bi]
  .rw[be h6,bo h6,af];by_cases h5:t.1=5;.have hw:=ht.FW hj h5;have hfl:=qk hw;rw[ba h5,bm h5,au,Ey hN hw,ae,aq (by simp[bb,dp];omega) (by omega),aj,bi]
   grind
def XW(xs:List (List UInt8)):Prop:=xs.length<=32/\∀s,s∈xs->s.length<=64
def YH(hN:1300<N){l:List (List UInt8)}(hl:XW l){s:List Int}(hs:s.length<=1000000)(a:List aB)(b:List (List UInt8))(c:List Func):wU N N (l,(l.length:Int),(0:Int),a,b,c,s)=some (a,b,c,s++l.flatMap said):=by have FB:=hl.1;refine iA (l:=l) (enc:=said) (g:=λs=>(a,b,c,s)) (B:=2000000) (m:=100) (Lf:=λk i s=>wU N k (l,(l.length:Int),i,a,b,c,s)) (λk s=>by simp only[wU.eq_2,aN,af]) (λk i x s hx hm hB=>?_) (λx hx=>by have:=n4 x;have:=hl.2 x hx;omega) (by omega) (by omega);have h64:=hl.2 x hm;have v1:=cZ x.length;simp only[wU.eq_2,aM (aE hx),au,aG hx,ae,kF (show 20<N by omega) (show x.length<=1000000by omega),aq (show s.length+(V x.length).length<=10000000by omega) (show 1<=1000by omega),aq (show(s++V x.length).length+(bN x).length<=10000000by grind[bN,V]) (show 1<=1000by omega),aj,ai (show i<9223372036854775807by grind)];simp[said,bi]
def SM(hN:1300<N){l:List (List UInt8)}(hl:XW l){s:List Int}(hs:s.length<=1000000)(a:List aB)(c:List Func):uI N N ((0:Int),a,l,c,s)=some (a,l,c,s++l.flatMap said):=by have FB:=hl.1;refine iA (l:=l) (enc:=said) (g:=λs=>(a,l,c,s)) (B:=2000000) (m:=100) (Lf:=λk i s=>uI N k (i,a,l,c,s)) (λk s=>by simp only[uI.eq_2,aN,af]) (λk i x s hx hm hB=>?_) (λx hx=>by have:=n4 x;have:=hl.2 x hx;omega) (by omega) (by omega);have h64:=hl.2 x hm;have v1:=n4 x;simp only[uI.eq_2,aM (aE hx),au,aG hx,ae,Jc (show 20<N by omega) (show x.length<=1000000by omega),aq (show s.length+(said x).length<=10000000by omega) (show 1<=1000by omega),aj,ai (show i<9223372036854775807by grind)]
def CW(l:List Instr):Prop:=l.length<=200/\∀x,x∈l->eY x=true/\okI x
def abH(hN:1300<N){l:List Instr}(hl:CW l){s:List Int}(hs:s.length<=4000000)(nm:List UInt8)(pa re:Int)(sl:List Field)(co:List Instr)(si li:List fm):wW N N (l,(l.length:Int),(0:Int),s,nm,pa,re,sl,co,si,li)=some (.inr (s++l.flatMap encI,nm,pa,re,sl,co,si,li)):=by have FB:=hl.1;refine iA (l:=l) (enc:=encI) (g:=λs=>(.inr (s,nm,pa,re,sl,co,si,li):(Int×List Int)⊕(List Int×List UInt8×Int×Int×List Field×List Instr×List fm×List fm))) (B:=5000000) (m:=31) (Lf:=λk i s=>wW N k (l,(l.length:Int),i,s,nm,pa,re,sl,co,si,li)) (λk s=>by simp only[wW.eq_2,aN,af]) (λk i x s hx hm hB=>?_) (λx hx=>pP x) (by omega) (by omega);have hx2:=hl.2 x hm;have v1:=pP x;simp only[wW.eq_2,aM (aE hx),au,aG hx,ae,abz (N:=N) (by omega) hx2.2 hx2.1,iC,af,aq (show s.length+(encI x).length<=10000000by omega) (show 1<=1000by omega),aj,ai (show i<9223372036854775807by grind)]
def YI(hN:1300<N){l:List Instr}(hl:CW l){s:List Int}(hs:s.length<=4000000)(i0:Int)(a:List aB)(b:List (List UInt8))(c:List Func)(nm:List UInt8)(pa re:Int)(sl:List Field)(si li:List fm):uK N N (i0,(0:Int),a,b,c,s,nm,pa,re,sl,l,si,li)=some (i0,a,b,c,s++l.flatMap encI,nm,pa,re,sl,l,si,li):=by have FB:=hl.1;refine iA (l:=l) (enc:=encI) (g:=λs=>(i0,a,b,c,s,nm,pa,re,sl,l,si,li)) (B:=5000000) (m:=31) (Lf:=λk i s=>uK N k (i0,i,a,b,c,s,nm,pa,re,sl,l,si,li)) (λk s=>by simp only[uK.eq_2,aN,af]) (λk i x s hx hm hB=>?_) (λx hx=>pP x) (by omega) (by omega);have hx2:=hl.2 x hm;have v1:=pP x;simp only[uK.eq_2,aM (aE hx),au,aG hx,ae,OH (N:=N) (by omega) hx2.2 hx2.1,aq (show s.length+(encI x).length<=10000000by omega) (show 1<=1000by omega),aj,ai (show i<9223372036854775807by grind)]
def FnW(l:List Func):Prop:=l.length<=32/\∀f,f∈l->u0 f/\i64 f.2.2.1/\∃n,n<=32/\fB n f
def Hw{x:List fm}{j:Int}{l2:List (List fm)}(hN:1300<N){n:Nat}(h1:ee x n)(g1:x.length<=1000)(o1:Cv x){s:List Int}(hs:s.length<=4500000){co:List Instr}(hc:co.length=n)(hn:1<=n/\n<=200)(nm:List UInt8)(pa re:Int)(sl:List Field)(si li:List fm)(hj:decide (j<2)=true)(hx:idx l2 j=some x){j2:Int}(hj2:av (j+1)=j2)(k:Nat):jd N (k+1) (l2,(2:Int),j,s,nm,pa,re,sl,co,si,li)=jd N k (l2,(2:Int),j2,s++td x,nm,pa,re,sl,co,si,li):=by subst hc;have e1:=abA (N:=N) (by omega) g1 h1 hn.1 hn.2 o1;have l1:=oR x;rw[jd.eq_2,hj,au,hx,ae,e1,ae];simp[iC,af,aq (show s.length+(td x).length<=10000000by omega) (show 1<=1000by omega),aj,hj2]
def abI(hN:1300<N){si li:List fm}{n:Nat}(h1:ee si n)(h2:ee li n)(g1:si.length<=1000)(g2:li.length<=1000)(o1:Cv si)(o2:Cv li){s:List Int}(hs:s.length<=4000000){co:List Instr}(hc:co.length=n)(hn:1<=n/\n<=200)(nm:List UInt8)(pa re:Int)(sl:List Field):jd N N ([si,li],(2:Int),(0:Int),s,nm,pa,re,sl,co,si,li)=some (.inr (s++(td si++td li))):=by
 have l1:=oR si;have key:∀k,jd N (k+1+1+1) ([si,li],(2:Int),(0:Int),s,nm,pa,re,sl,co,si,li)=some (.inr (s++(td si++td li))):=λk=>by rw[Hw hN h1 g1 o1 (by omega) hc hn nm pa re sl si li rfl rfl (j2:=1) (by decide),Hw hN h2 g2 o2 (by rw[bb];omega) hc hn nm pa re sl si li rfl rfl (j2:=2) (by decide),jd.eq_2,show decide ((2:Int)<2)=false from rfl,af,bi]
 have:=key (N-3)<;>grind
def YJ(hN:1300<N){l:List Func}(hl:FnW l){s:List Int}(hs:s.length<=1000000):iS N N (l,(l.length:Int),(0:Int),s)=some (.inr (s++l.flatMap tg)):=by have FB:=hl.1;refine iA (l:=l) (enc:=tg) (g:=λs=>(.inr s:Int⊕List Int)) (B:=2500000) (m:=30000) (Lf:=λk i s=>iS N k (l,(l.length:Int),i,s)) (λk s=>by simp only[iS.eq_2,aN,af]) (λk i x s hx hm hB=>?_) (λx hx=>by obtain⟨hf,_,n,hn,ho⟩:=hl.2 x hx;exact z6 ho hn hf) (by omega) (by omega);obtain⟨⟨g1,g2,g3,g4,g5,g6,g7⟩,h64,n,hn,ho⟩:=hl.2 x hm;have hw:=ho.FW hn;have hnl:=mZ ho.1;have hp:=ho.2.2.2.1;have Jj:=ho.2.2.2.2.2.2.1;have hcw:CW x.2.2.2.2.1:=⟨Jj.2,λy hy=>⟨ho.2.2.2.2.2.2.2.1 y hy,g5 y hy⟩⟩;have cv:=hw.1;have v1:=cZ x.1.length;have v2:=cZ x.2.1.toNat;have v3:=cZ (JF x.2.2.1);have v4:=cZ x.2.2.2.1.length;have v5:=cZ x.2.2.2.2.1.length;have v6:=iH (l:=x.2.2.2.1) (enc:=nc) (m:=40) λf hf=>pS (hw.2 f hf).1;have v7:=iH (l:=x.2.2.2.2.1) (enc:=encI) (m:=31) λy _=>pP y;have r1:room (s.length+(V x.1.length).length) 1=true:=aq (by omega) (by omega);have r2:room ((s++V x.1.length).length+(bN x.1).length) 1=true:=aq (by simp only[bb,de];omega) (by omega);have r3:room (((s++V x.1.length)++bN x.1).length+(V x.2.1.toNat).length) 1=true:=aq (by simp only[bb,de];omega) (by omega);have r4:room ((((s++V x.1.length)++bN x.1)++V x.2.1.toNat).length+(V (JF x.2.2.1)).length) 1=true:=aq (by simp only[bb,de];omega) (by omega);have r5:room (((((s++V x.1.length)++bN x.1)++V x.2.1.toNat)++V (JF x.2.2.1)).length+(V x.2.2.2.1.length).length) 1=true:=aq (by simp only[bb,de];omega) (by omega);simp only[iS.eq_2,aM (aE hx),au,aG hx,ae,kF (show 20<N by omega) (show x.1.length<=1000000by omega),n5 (show 20<N by omega) (show 0<=x.2.1/\x.2.1<=9223372036854775807by omega),Hp (show 20<N by omega) h64,kF (show 20<N by omega) (show x.2.2.2.1.length<=1000000by omega),r1,r2,r3,r4,r5,aj,ai (show i<9223372036854775807by have:=aE hx;omega)];have e1:=YE hN hw (s:=((((s++V x.1.length)++bN x.1)++V x.2.1.toNat)++V (JF x.2.2.1))++V x.2.2.2.1.length) (by simp only[bb,de];omega) x.1 x.2.1 x.2.2.1 x.2.2.2.1 x.2.2.2.2.1 x.2.2.2.2.2.1 x.2.2.2.2.2.2;rw[e1,ae];simp only;rw[kF (by omega) (by omega),ae,aq (by simp only[bb,de];omega) (by omega),aj,abH hN hcw (by simp only[bb,de];omega),ae];simp only;rw[abI hN ho.2.2.2.2.2.2.2.2.1 ho.2.2.2.2.2.2.2.2.2 g3 g4 g6 g7 (by simp only[bb,de];omega) rfl Jj,ae];simp only[tg,oK,said,bi]
def SN(hN:1300<N){l:List Func}(hl:FnW l){s:List Int}(hs:s.length<=1000000)(a:List aB)(b:List (List UInt8)):jf N N ((0:Int),a,b,l,s)=some (s++l.flatMap tg):=by have FB:=hl.1;refine iA (l:=l) (enc:=tg) (g:=id) (B:=2500000) (m:=30000) (Lf:=λk i s=>jf N k (i,a,b,l,s)) (λk s=>by simp only[jf.eq_2,aN,af];rfl) (λk i x s hx hm hB=>?_) (λx hx=>by obtain⟨hf,_,n,hn,ho⟩:=hl.2 x hx;exact z6 ho hn hf) (by omega) (by omega);obtain⟨⟨g1,g2,g3,g4,g5,g6,g7⟩,h64,n,hn,ho⟩:=hl.2 x hm;have hw:=ho.FW hn;have hnl:=mZ ho.1;have hp:=ho.2.2.2.1;have Jj:=ho.2.2.2.2.2.2.1;have hcw:CW x.2.2.2.2.1:=⟨Jj.2,λy hy=>⟨ho.2.2.2.2.2.2.2.1 y hy,g5 y hy⟩⟩;have cv:=hw.1;have v1:=n4 x.1;have v2:=cZ x.2.1.toNat;have v3:=cZ (JF x.2.2.1);have v4:=qk hw;have v5:=cZ x.2.2.2.2.1.length;have v7:=iH (l:=x.2.2.2.2.1) (enc:=encI) (m:=31) λy _=>pP y;have v8:=oR x.2.2.2.2.2.1;have v9:=oR x.2.2.2.2.2.2;have r1:room (s.length+(said x.1).length) 1=true:=aq (by omega) (by omega);have r2:room ((s++said x.1).length+(V x.2.1.toNat).length) 1=true:=aq (by simp only[bb];omega) (by omega);have r3:room (((s++said x.1)++V x.2.1.toNat).length+(V (JF x.2.2.1)).length) 1=true:=aq (by simp only[bb];omega) (by omega);have r4:room ((((s++said x.1)++V x.2.1.toNat)++V (JF x.2.2.1)).length+(oK x.2.2.2.1).length) 1=true:=aq (by simp only[bb];omega) (by omega);have r5:room (((((s++said x.1)++V x.2.1.toNat)++V (JF x.2.2.1))++oK x.2.2.2.1).length+(V x.2.2.2.2.1.length).length) 1=true:=aq (by simp only[bb];omega) (by omega);simp only[jf.eq_2,aM (aE hx),au,aG hx,ae,Jc (show 20<N by omega) (show x.1.length<=1000000by omega),pO (show 20<N by omega) (show 0<=x.2.1/\x.2.1<=9223372036854775807by omega),Hq (N:=N) h64,kX (show 20<N by omega) (OD h64),Ey hN hw,oQ (n:=x.2.2.2.2.1.length) (show 20<N by omega) (show x.2.2.2.2.1.length<18446744073709551616by omega),r1,r2,r3,r4,r5,aj];rw[YI hN hcw (by simp only[bb];omega),ae];simp only;rw[Ek (N:=N) (by omega) g3 ho.2.2.2.2.2.2.2.2.1 Jj.2 g6,ae,aq (by simp only[bb];omega) (by omega),aj,Ek (N:=N) (by omega) g4 ho.2.2.2.2.2.2.2.2.2 Jj.2 g7,ae,aq (by simp only[bb];omega) (by omega),aj,ai (by have:=aE hx;omega)];simp only[tg,bi]
end
def jw(ts:List aB)(xs:List (List UInt8))(fs:List Func):Prop:=OO ts xs fs/\∀f,f∈fs->i64 f.2.2.1
def eL.XW{ts:List aB}{xs:List (List UInt8)}{fs:List Func}(h:eL ts xs fs):XW xs:=⟨h.2.1,h.2.2.2.2.1⟩
def eL.func{ts:List aB}{xs:List (List UInt8)}{fs:List Func}(h:eL ts xs fs){i:Nat}(hi:i<fs.length):fB ts.length (gS fs i):=by have:=h.2.2.2.2.2 i hi;unfold Ji at this<;>grind
def eL.FnW{ts:List aB}{xs:List (List UInt8)}{fs:List Func}(h:eL ts xs fs)(hm:jw ts xs fs):FnW fs:=⟨h.2.2.1.2,λf hf=>by refine⟨hm.1.2.2.2.2 f hf,hm.2 f hf,ts.length,h.1.1,?_⟩;obtain⟨i,hi,rfl⟩:=rF fn0 hf;exact h.func hi⟩
def j0(ts:List aB)(xs:List (List UInt8))(fs:List Func):Int:=if eL ts xs fs then(if(wZ ts xs fs).length<=20000then 0 else 4)else 8
section
variable{N:Nat}{ts:List aB}{xs:List (List UInt8)}{fs:List Func}
def Hx(h:eL ts xs fs)(hm:jw ts xs fs):(ts.flatMap tf).length<=25600/\(xs.flatMap said).length<=3200/\(fs.flatMap tg).length<=960000:=by
 have hT:=h.1.TW;have hX:=h.XW;have hF:=h.FnW hm;have h1:=iH (l:=ts) (enc:=tf) (m:=800) λx hx=>by obtain⟨n,i,hi,_,ht⟩:=hT.2 x hx;exact zZ ht hi
 have h2:=iH (l:=xs) (enc:=said) (m:=100) λx hx=>by have:=n4 x;have:=hX.2 x hx;omega
 have h3:=iH (l:=fs) (enc:=tg) (m:=30000) λx hx=>by obtain⟨hf,_,n,hn,ho⟩:=hF.2 x hx;exact z6 ho hn hf
 have a1:=hT.1;have a2:=hX.1;have a3:=hF.1<;>grind
def SO(hN:1300<N)(hm:jw ts xs fs):Xh N (ts,xs,fs)=some (if j0 ts xs fs=0then wZ ts xs fs else[],j0 ts xs fs):=by
 rw[Xh.eq_1,abE hN hm.1,ae];unfold j0;by_cases h:eL ts xs fs
 .rw[aU h,dl,af,ba h];obtain⟨b1,b2,b3⟩:=Hx h hm;have c1:=cZ ts.length;have c2:=cZ xs.length;have c3:=cZ fs.length;have d1:=hm.1.1.1;have d2:=hm.1.2.1;have d3:=hm.1.2.2.2.1;rw[kF (by omega) (by omega),ae,aq (by omega) (by omega),aj,YF hN h.1.TW (by omega),ae];simp only;rw[kF (by omega) (by omega),ae,aq (by simp only[bb];omega) (by omega),aj,YH hN h.XW (by simp only[bb];omega),ae];simp only;rw[kF (by omega) (by omega),ae,aq (by simp only[bb];omega) (by omega),aj,YJ hN (h.FnW hm) (by simp only[bb];omega),ae];have e:(((((V ts.length++ts.flatMap tf)++V xs.length)++xs.flatMap said)++V fs.length)++fs.flatMap tg)=wZ ts xs fs:=by simp[wZ,bi]
  grind
 grind
def YK(hN:1300<N)(hm:jw ts xs fs)(h:eL ts xs fs):VQ N (ts,xs,fs)=some (wZ ts xs fs):=by obtain⟨b1,b2,b3⟩:=Hx h hm;have c1:=cZ ts.length;have c2:=cZ xs.length;have c3:=cZ fs.length;have d1:=hm.1.1.1;have d2:=hm.1.2.1;have d3:=hm.1.2.2.2.1;rw[VQ.eq_1,oQ (by omega) (by omega),ae,SK hN h.1.TW (by omega),ae];simp only;rw[oQ (by omega) (by omega),ae,aq (by simp only[bb];omega) (by omega),aj,SM hN h.XW (by simp only[bb];omega),ae];simp only;rw[oQ (by omega) (by omega),ae,aq (by simp only[bb];omega) (by omega),aj,SN hN (h.FnW hm) (by simp only[bb];omega),ae];simp[wZ,bi]
def OQ(hN:1300<N)(hm:jw ts xs fs):F73 N (ts,xs,fs)=some (j0 ts xs fs):=by
 rw[F73.eq_1,SI hN hm.1,ae];unfold j0;by_cases h:eL ts xs fs;.rw[aU h,dl,af,ba h,YK hN hm h,ae]<;>grind
 grind
def z7(h:j0 ts xs fs=0):eL ts xs fs/\(wZ ts xs fs).length<=20000:=by unfold j0 at h<;>grind
def Ez(hN:1300<N)(hm:jw ts xs fs):F91 N (ts,xs,fs)=some (j0 ts xs fs):=by rw[F91.eq_1,SO hN hm,ae]
def ahG(fs:List Func)(f i:Int):Prop:=0<=f/\f<fs.length/\0<=i/\i<(gS fs f.toNat).2.2.2.2.1.length
def ayQ(ts:List aB)(xs:List (List UInt8))(fs:List Func)(f i:Int):Int×Int:=if j0 ts xs fs=0then(if ahG fs f i then(256*(f+1)+i,0)else(0,2))else(0,j0 ts xs fs)
def ahH(a i:Nat)(hi:i<256):256*a|||i=256*a+i:=by have:=Nat.two_pow_add_eq_or_of_lt (i:=8) (b:=i) (by omega) a<;>grind
def tu(fs:List Func)(a:Nat):Prop:=1<=a/256/\a/256<=fs.length/\a%256<(gS fs (a/256-1)).2.2.2.2.1.length
def vT(ts:List aB)(xs:List (List UInt8))(fs:List Func)(a:Nat):Int×Int×Int:=if j0 ts xs fs=0then(if tu fs a then(((a/256-1:Nat):Int),((a%256:Nat):Int),0)else(0,0,6))else(0,0,j0 ts xs fs)
def abJ{a:Nat}(h:a<18446744073709551616):vF .u64 (a:Int) (255:Int)=((a%256:Nat):Int):=by
 unfold vF;have e:(BitVec.ofInt IntKind.u64.bits (a:Int)&&&BitVec.ofInt IntKind.u64.bits 255).toNat=a%256:=by show(BitVec.ofInt 64 (a:Int)&&&BitVec.ofInt 64 255).toNat=_;rw[ol,show BitVec.ofInt 64 255=BitVec.ofNat 64 255from rfl,BitVec.toNat_and,pd,pC h];exact Nat.and_two_pow_sub_one_eq_mod a 8
 rw[e];exact aY (by omega)
def Qw(hN:1300<N)(hm:jw ts xs fs){a:Nat}(ha:a<18446744073709551616):F92 N (ts,xs,fs,(a:Int))=some (vT ts xs fs a):=by
 rw[F92.eq_1,Ez hN hm,ae];unfold vT;have hfl:=hm.1.2.2.2.1;by_cases hc:j0 ts xs fs=0
 .rw[hc,iC,af,ba rfl,show(256:Int)=((256:Nat):Int)from rfl,yG,abJ ha,aO (n:=((a%256:Nat):Int)) (by omega),aY (n:=(fs.length:Int)) (by omega)];have Gi:(bif(((a/256:Nat):Int)==(0:Int))then some true else(bif(decide (((a/256:Nat):Int)>(fs.length:Int)))then some true else(Option.bind (idx fs (aR (((a/256:Nat):Int)-(1:Int)))) λx1=>some (decide (((a%256:Nat):Int)>=(x1.2.2.2.2.1.length:Int))))))=some (!decide (tu fs a)):=by
   by_cases h1:a/256=0;.rw[h1,aQ (show¬tu fs a fromλh=>by have:=h.1;omega)];rfl
   .rw[show(((a/256:Nat):Int)==(0:Int))=false by rw[mi];omega];by_cases h2:a/256>fs.length;.rw[aU (show((a/256:Nat):Int)>(fs.length:Int)by omega),aQ (show¬tu fs a fromλh=>by have:=h.2.1;omega)];rfl
    .have e:idx fs (aR (((a/256:Nat):Int)-1))=some (gS fs (a/256-1)):=by rw[aY (by omega),show((a/256:Nat):Int)-1=((a/256-1:Nat):Int)by omega];exact cD _ (by omega)
     rw[aQ (show¬((a/256:Nat):Int)>(fs.length:Int)by omega),e,ae];by_cases h3:a%256<(gS fs (a/256-1)).2.2.2.2.1.length;.rw[aQ (show¬((a%256:Nat):Int)>=((gS fs (a/256-1)).2.2.2.2.1.length:Int)by omega),aU (show tu fs a from⟨by omega,by omega,h3⟩)];rfl
     .rw[aU (show((a%256:Nat):Int)>=((gS fs (a/256-1)).2.2.2.2.1.length:Int)by omega),aQ (show¬tu fs a fromλh=>h3 h.2.2)];rfl
  rw[Gi,ae];by_cases hA:tu fs a;.have h1:=hA.1;rw[aU hA,dl,af,ba hA,aO (n:=((a/256:Nat):Int)) (by omega),aO (by omega)]<;>grind
  grind
 grind
def YL(hfl:fs.length<=50){a:Nat}(ha:a<18446744073709551616):F43 N (ts,xs,fs,(a:Int))=some (if tu fs a then(((a/256-1:Nat):Int),((a%256:Nat):Int),true)else(0,0,false)):=by
 have eM:aR (av ((256:Int)*av ((fs.length:Int)+1)))=((256*(fs.length+1):Nat):Int):=by rw[aO (n:=(fs.length:Int)+1) (by omega),aO (by omega),aY (by omega)];omega
 rw[F43.eq_1,eM];by_cases h1:a<256;.rw[aU (show(a:Int)<256by omega),be (show¬tu fs a fromλh=>by have:=h.1;omega)];rfl
 .rw[aQ (show¬(a:Int)<256by omega),af];by_cases h2:a>=256*(fs.length+1);.rw[aU (show(a:Int)>=((256*(fs.length+1):Nat):Int)by omega),be (show¬tu fs a fromλh=>by have:=h.2.1;omega)];rfl
  .have e0:av (av (aR (Int.tdiv (a:Int) (256:Int)))-1)=((a/256-1:Nat):Int):=by rw[show(256:Int)=((256:Nat):Int)from rfl,L3,aY (by omega),aO (n:=((a/256:Nat):Int)) (by omega),aO (by omega)];omega
   have e1:av (Int.tmod (a:Int) (256:Int))=((a%256:Nat):Int):=by rw[show(256:Int)=((256:Nat):Int)from rfl,L4,aO (by omega)]
   have e2:idx fs ((a/256-1:Nat):Int)=some (gS fs (a/256-1)):=cD _ (by omega);rw[aQ (show¬(a:Int)>=((256*(fs.length+1):Nat):Int)by omega),ae,af,e0,e1,e2,ae];by_cases h3:a%256<(gS fs (a/256-1)).2.2.2.2.1.length;.rw[aQ (show¬((a%256:Nat):Int)>=((gS fs (a/256-1)).2.2.2.2.1.length:Int)by omega),af,ba (show tu fs a from⟨by omega,by omega,h3⟩)]
   .rw[aU (show((a%256:Nat):Int)>=((gS fs (a/256-1)).2.2.2.2.1.length:Int)by omega),au,be (show¬tu fs a fromλh=>h3 h.2.2)]
end
def Qx(ts:List aB)(fs:List Func):Prop:=(∀t,t∈ts->i64 t.2.2.1)/\∀f,f∈fs->i64 f.2.2.1/\(∀x,x∈f.2.2.2.2.1->okI x)/\Cv f.2.2.2.2.2.1/\Cv f.2.2.2.2.2.2
section
variable{N:Nat}{ts:List aB}{xs:List (List UInt8)}{fs:List Func}
def FC(hN:1300<N){i:Nat}(hi:i<ts.length)(hf:(ez ts i).2.2.2.length<=20):sw N N (ts,(i:Int),(0:Int))=some (.inl true)\/sw N N (ts,(i:Int),(0:Int))=some (.inr (ts,(i:Int))):=by
 have e:idx ts (i:Int)=some (ez ts i):=cD _ hi;rcases vz (l:=(ez ts i).2.2.2) (a:=(.inr (ts,(i:Int)):Bool⊕(List aB×Int))) (b:=.inl true) (P:=λ_=>True) (n:=(ez ts i).2.2.2.length) (Lf:=λk j=>sw N k (ts,(i:Int),j)) (bc _) (λk=>by simp only[sw.eq_2,e,ae,aN,af]) (λk j x hj _ hx=>by
  simp only[sw.eq_2,e,ae,aM hj,au,aG hx,ai (show j<9223372036854775807by omega)];by_cases h:(x.1.length:Int)>100;.rw[aU h];exact .inl rfl
  .rw[aQ h];exact .inr ⟨trivial,rfl⟩) N (by omega)with h|⟨h,_⟩;.grind
 grind
def OR(hN:1300<N):F37 N ts=some true\/(F37 N ts=some false/\ts.length<=40/\∀i,i<ts.length->(ez ts i).2.2.2.length<=20):=by
 rw[F37.eq_1];by_cases h40:ts.length<=40
 .rw[aQ (show¬(ts.length:Int)>40by omega)];rcases vz (l:=ts) (a:=(.inr ():Bool⊕Unit)) (b:=.inl true) (P:=λt=>t.2.2.2.length<=20) (n:=ts.length) (Lf:=λk i=>D1 N k (ts,i)) (bc _) (λk=>by simp only[D1.eq_2,aN,af]) (λk i x hi _ hx=>by
    have Nn:x=ez ts i:=by rw[ez,da,hx];rfl
    simp only[D1.eq_2,aM hi,au,aG hx,ae];by_cases h:(x.2.2.2.length:Int)>20;.rw[aU h];exact .inl rfl
    .rw[aQ h,af];rcases FC hN hi (by rw[<-Nn];omega)with h2|h2;.rw[h2];exact .inl rfl
     .rw[h2,ae];exact .inr ⟨by omega,by simp only;rw[ai (by omega)]⟩) N (by omega)with h|⟨h,h2⟩;.grind
  .rw[h];refine .inr ⟨rfl,h40,λi hi=>h2 i _ hi ?_⟩;rw[ez,da,aw hi];rfl
 grind
def Mi(hN:1300<N)(n i:Int)(nm:List UInt8)(pa re:Int){sl:List Field}(hs:sl.length<=20)(co:List Instr)(si li:List fm):s5 N N (n,i,(0:Int),ts,xs,fs,nm,pa,re,sl,co,si,li)=some (.inl true)\/s5 N N (n,i,(0:Int),ts,xs,fs,nm,pa,re,sl,co,si,li)=some (.inr (n,i,ts,xs,fs)):=by
 rcases vz (l:=sl) (a:=(.inr (n,i,ts,xs,fs):Bool⊕(Int×Int×List aB×List (List UInt8)×List Func))) (b:=.inl true) (P:=λ_=>True) (n:=sl.length) (Lf:=λk j=>s5 N k (n,i,j,ts,xs,fs,nm,pa,re,sl,co,si,li)) (bc _) (λk=>by simp only[s5.eq_2,aN,af]) (λk j x hj _ hx=>by
  simp only[s5.eq_2,ae,aM hj,au,aG hx,ai (show j<9223372036854775807by omega)];by_cases h:(x.1.length:Int)>100;.rw[aU h];exact .inl rfl
  .rw[aQ h];exact .inr ⟨trivial,rfl⟩) N (by omega)with h|⟨h,_⟩;.grind
 grind
def YM(hN:1300<N)(ht:Qx ts fs):F15 N (ts,xs,fs)=some true\/(F15 N (ts,xs,fs)=some false/\jw ts xs fs):=by
 rw[F15.eq_1];rcases OR (N:=N) (ts:=ts) hN with h|⟨h,hl,hf⟩;.rw[h];exact .inl rfl
 .rw[h,ae,af];by_cases hx:xs.length<=40
  .by_cases aBc:fs.length<=40
   .rw[aQ (show¬(xs.length:Int)>40by omega),aQ (show¬(fs.length:Int)>40by omega),af,ae,af];rcases vz (l:=xs) (a:=(.inr (ts,xs,fs):Bool⊕(List aB×List (List UInt8)×List Func))) (b:=.inl true) (P:=λs=>s.length<=100) (n:=xs.length) (Lf:=λk i=>UV N k (i,ts,xs,fs)) (bc _) (λk=>by simp only[UV.eq_2,aN,af]) (λk i x hi _ hxx=>by
      simp only[UV.eq_2,aM hi,au,aG hxx,ae,ai (show i<9223372036854775807by omega)];by_cases h:(x.length:Int)>100;.rw[aU h];exact .inl rfl
      .rw[aQ h];exact .inr ⟨by omega,rfl⟩) N (by omega)with h1|⟨h1,hxs⟩;.rw[h1];exact .inl rfl
    .rw[h1,ae];simp only;rcases dK (l:=fs) (Lf:=λk i(n:Int)=>D2 N k (n,i,ts,xs,fs)) (Inv:=λi _=>∀j,j<i->u0 (gS fs j)) (Out:=λr=>r=.inl true) (g:=λ_=>(.inr ():Bool⊕Unit)) (λk s _=>by simp only[D2.eq_2,aN,af]) (λk i x n hxx hI=>by
       have hi:=aE hxx;have Nn:x=gS fs i:=by rw[gS,da,hxx];rfl
       simp only[D2.eq_2,aM hi,au,aG hxx,ae,dS];cases hb:(decide ((x.1.length:Int)>100)||(decide ((x.2.2.2.1.length:Int)>20)||(decide ((x.2.2.2.2.1.length:Int)>210)||(decide ((x.2.2.2.2.2.1.length:Int)>210)||(decide ((x.2.2.2.2.2.2.length:Int)>210)||decide (av (n+(x.2.2.2.2.1.length:Int))>1000))))))
       .simp only[i9,mt]at hb;obtain⟨k1,k2,k3,k4,k5,_⟩:=hb;rw[af];rcases Mi (N:=N) (ts:=ts) (xs:=xs) (fs:=fs) hN (av (n+(x.2.2.2.2.1.length:Int))) (i:Int) x.1 x.2.1 x.2.2.1 (sl:=x.2.2.2.1) (by omega) x.2.2.2.2.1 x.2.2.2.2.2.1 x.2.2.2.2.2.2with h2|h2;.rw[h2];exact .inl ⟨_,rfl,rfl⟩
        .rw[h2,ae];refine .inr ⟨av (n+(x.2.2.2.2.1.length:Int)),λj hj=>?_,by simp only;rw[ai (by omega)]⟩;by_cases hji:j=i;.subst hji;obtain⟨_,t2,t3,t4⟩:=ht.2 x (aW hxx);rw[<-Nn];exact⟨by omega,by omega,by omega,by omega,t2,t3,t4⟩
         .exact hI j (by omega)
       .exact .inl ⟨_,rfl,rfl⟩) (k:=N) (s:=0) (λj hj=>by omega) (by omega)with⟨r,rfl,h2⟩|⟨s,hI,h2⟩;.rw[h2];exact .inl rfl
     .rw[h2];refine .inr ⟨rfl,⟨⟨by omega,λi hi=>⟨by have:=hf i hi;omega,ht.1 _ (n6 ty0 hi)⟩⟩,by omega,λs hs=>?_,by omega,λf hf=>?_⟩,λf hf=>(ht.2 f hf).1⟩;.obtain⟨i,hi,rfl⟩:=io.1 hs;have:=hxs i _ hi (aw hi);omega
      .obtain⟨i,hi,rfl⟩:=rF fn0 hf;exact hI i hi
   .rw[aQ (show¬(xs.length:Int)>40by omega),aU (show(fs.length:Int)>40by omega)];exact .inl rfl
  .rw[aU (show(xs.length:Int)>40by omega)];exact .inl rfl
def SP{α:Type}(l:List α):l.flatMap (λx=>[x])=l:=(uY id l).trans (List.map_id l)
def EA{α β:Type}{l:List α}{m:List β}:((l.length:Int)!=(m.length:Int))=!decide (l.length=m.length):=by grind
def YN(x y:Field):(x.1==y.1&&(x.2==y.2&&true))=decide (x=y):=by grind
def run_eq(x y:fm):(x.1==y.1&&(x.2==y.2&&true))=decide (x=y):=by grind
def instr_eq(x y:Instr):(x.1==y.1&&(x.2.1==y.2.1&&(x.2.2.1==y.2.2.1&&(x.2.2.2==y.2.2.2&&true))))=decide (x=y):=by grind
def YO{l m:List Field}(hl:l.length<=1000)(hN:1300<N):Ws N (l,m)=some (decide (l=m)):=by
 rw[Ws.eq_1,EA];by_cases h:l.length=m.length;.rw[aU h,dl,af,vw (l:=l) (m:=m) (a:=(.inr ():Bool⊕Unit)) (b:=.inl false) (Lf:=λk i=>H5 N k (l,m,i)) h (λk=>by simp only[H5.eq_2,aN,af]) (λk i x y hx hy h1 h2=>by simp only[H5.eq_2,aM (aE h1),au,aG h1,aG h2,ae,YN,ai (show i<9223372036854775807by have:=aE h1;omega)];by_cases he:x=y<;>simp[he]) N (by omega),ae];grind
 .rw[aQ h,ge,au,aQ λe=>h (by rw[e])]
def Mj{l m:List fm}(hl:l.length<=1000)(hN:1300<N):Sk N (l,m)=some (decide (l=m)):=by
 rw[Sk.eq_1,EA];by_cases h:l.length=m.length;.rw[aU h,dl,af,vw (l:=l) (m:=m) (a:=(.inr ():Bool⊕Unit)) (b:=.inl false) (Lf:=λk i=>If N k (l,m,i)) h (λk=>by simp only[If.eq_2,aN,af]) (λk i x y hx hy h1 h2=>by simp only[If.eq_2,aM (aE h1),au,aG h1,aG h2,ae,run_eq,ai (show i<9223372036854775807by have:=aE h1;omega)];by_cases he:x=y<;>simp[he]) N (by omega),ae];grind
 .rw[aQ h,ge,au,aQ λe=>h (by rw[e])]
def YP{l m:List Instr}(hl:l.length<=1000)(hN:1300<N):Wu N (l,m)=some (decide (l=m)):=by
 rw[Wu.eq_1,EA];by_cases h:l.length=m.length;.rw[aU h,dl,af,vw (l:=l) (m:=m) (a:=(.inr ():Bool⊕Unit)) (b:=.inl false) (Lf:=λk i=>Id N k (l,m,i)) h (λk=>by simp only[Id.eq_2,aN,af]) (λk i x y hx hy h1 h2=>by simp only[Id.eq_2,aM (aE h1),au,aG h1,aG h2,ae,instr_eq,ai (show i<9223372036854775807by have:=aE h1;omega)];by_cases he:x=y<;>simp[he]) N (by omega),ae];grind
 .rw[aQ h,ge,au,aQ λe=>h (by rw[e])]
def SQ{f g:Func}(hf:u0 f)(hN:1300<N):Ww N (f.1,f.2.1,f.2.2.1,f.2.2.2.1,f.2.2.2.2.1,f.2.2.2.2.2.1,f.2.2.2.2.2.2,g.1,g.2.1,g.2.2.1,g.2.2.2.1,g.2.2.2.2.1,g.2.2.2.2.2.1,g.2.2.2.2.2.2)=some (decide (f=g)):=by
 obtain⟨g1,g2,g3,g4,_⟩:=hf;rw[Ww.eq_1];simp only[YO (N:=N) (show f.2.2.2.1.length<=1000by omega) hN,YP (N:=N) (show f.2.2.2.2.1.length<=1000by omega) hN,Mj (N:=N) (show f.2.2.2.2.2.1.length<=1000by omega) hN,Mj (N:=N) (show f.2.2.2.2.2.2.length<=1000by omega) hN,ae,gC];obtain⟨a,b,c,d,e,i,j⟩:=f;obtain⟨a',b',c',d',e',i',j'⟩:=g;simp only;congr 1;by_cases e1:a=a'
 .by_cases e2:b=b'
  .by_cases e3:c=c'
   .by_cases e4:d=d'
    .by_cases e5:e=e';.by_cases e6:i=i'<;>by_cases e7:j=j'<;>simp[e1,e2,e3,e4,e5,e6,e7]
     .simp[e5]
    .simp[e4]
   .simp[e3]
  .simp[e2]
 .simp[e1]
end
end Go.Proofs.YtclkonemhghbkaaGreat
namespace Go.Proofs.YtclkonemhghbkaaGreat
open Go Go.bK Go.Sym
def ng(c:UInt8)(v:Int):Bool:=(U c).2.2.1&&decide (v>=0)
def qF(c:UInt8)(v:Int):Bool:=(U c).2.2.2&&decide (v>=0)
def one(b:Bool)(v:Int):List Int:=bif b then[v]else[]
def bp(f:UInt8->Int->Bool)(x:Instr):List Int:=match yH x.1with|some (a,b,c)=>(one (f a x.2.1) x.2.1++one (f b x.2.2.1) x.2.2.1)++one (f c x.2.2.2) x.2.2.2|none=>[]
def OS(N:Nat)(x:Instr):Ox N (x.1,x.2.1,x.2.2.1,x.2.2.2)=some (bif eY x then(bp ng x,bp qF x,0)else([],[],8)):=by have h:=wY N x.1;rw[Ox.eq_1,vA,h];unfold bp;cases hc:eY x with|false=>rfl|true=>simp only[au,ae,LN.eq_1];cases hs:yH x.1with|none=>simp[eY,hs]at hc|some s=>obtain⟨a,b,c⟩:=s;simp only[gC,ae,ng,qF];cases((U a).2.2.1&&decide (x.2.1>=0))<;>cases((U a).2.2.2&&decide (x.2.1>=0))<;>cases((U b).2.2.1&&decide (x.2.2.1>=0))<;>cases((U b).2.2.2&&decide (x.2.2.1>=0))<;>cases((U c).2.2.1&&decide (x.2.2.2>=0))<;>cases((U c).2.2.2&&decide (x.2.2.2>=0))<;>rfl
def YQ{c:UInt8}{v:Int}(hc:mh c=true):(bif((c.toNat:Int)==114)then some (decide (v>=0))else bif((c.toNat:Int)==101)then some (decide (v>=0))else some false:Option Bool)=some (ng c v):=by
 have h:c=119\/c=114\/c=110\/c=116\/c=99\/c=98\/c=102\/c=105\/c=103\/c=101\/c=45:=by simpa[mh]using hc
 rcases h with rfl|rfl|rfl|rfl|rfl|rfl|rfl|rfl|rfl|rfl|rfl<;>rfl
def YR{c:UInt8}{v:Int}(hc:mh c=true):(bif((c.toNat:Int)==119)then some (decide (v>=0))else bif((c.toNat:Int)==103)then some (decide (v>=0))else some false:Option Bool)=some (qF c v):=by
 have h:c=119\/c=114\/c=110\/c=116\/c=99\/c=98\/c=102\/c=105\/c=103\/c=101\/c=45:=by simpa[mh]using hc
 rcases h with rfl|rfl|rfl|rfl|rfl|rfl|rfl|rfl|rfl|rfl|rfl<;>rfl
def Mk(n:Int)(x:Instr):Bool:=(x.1==22&&decide (x.2.1>=n))||(x.1==23&&decide (x.2.2.1>=n))
def OT(n:Int)(x:Instr):Bool:=!eY x||Mk n x
def YS(x:Instr):Bool:=x.1==(34:Int)&&(x.2.1==(-1:Int)&&(x.2.2.1==(0:Int)&&(x.2.2.2==(0:Int)&&true)))
def BG(l:List Instr):Instr:=l.getD (l.length-1) (0,0,0,0)
def kq(l:List Instr):Bool:=decide (1<=l.length)&&(decide (l.length<=200)&&(!(l.any (OT (l.length:Int)))&&YS (BG l)))
def Ml{l:List Instr}(h:1<=l.length)(h2:l.length<=9223372036854775807):idx l (av ((l.length:Int)-1))=some (BG l):=by
 have e:av ((l.length:Int)-1)=((l.length-1:Nat):Int):=by rw[aO (by omega)];omega
 rw[e];refine aG ?_;simp only[BG,da]<;>grind
def Qy(x:Instr)(n:Int):(bif(x.1==(22:Int))then(bif(decide (x.2.1>=n))then some true else(bif(x.1==(23:Int))then some (decide (x.2.2.1>=n))else some false))else(bif(x.1==(23:Int))then some (decide (x.2.2.1>=n))else some false))=some (Mk n x):=by unfold Mk<;>grind
def OU{N:Nat}{l:List Instr}(hN:210<N)(hl:l.length<=9223372036854775807):Ou N l=some (bif kq l then 0 else 8):=by
 rw[Ou.eq_1];unfold kq;by_cases h1:1<=l.length
 .rw[show((l.length:Int)==0)=false by simp;intro h;simp[h]at h1,af,bm h1];by_cases h2:l.length<=200;.rw[show decide ((l.length:Int)>200)=false by simp;omega,af,bm h2,f8,Ml h1 hl];show(bif !(YS (BG l))then _ else _)=_;cases YS (BG l)with|false=>simp|true=>have key:=LX (l:=l) (a:=(.inr ():Int⊕Unit)) (b:=.inl 8) (p:=OT (l.length:Int)) (Lf:=λk i=>Ok N k ((l.length:Int),l,(l.length:Int),i)) (λk=>by simp only[Ok.eq_2,aN,af]) (λk i x hx hi=>by simp only[Ok.eq_2,aM (aE hi),au,aG hi,ae,vA,Qy,ai (show i<9223372036854775807by have:=aE hi;omega)];cases h1:eY x<;>cases h2:Mk (l.length:Int) x<;>simp[OT,h1,h2]) N (by omega);grind
  grind
 grind
structure VC(l:List Instr):Prop where
 pos:1<=l.length
 le:l.length<=200aL:∀(i:Nat)x,l[i]?=some x->eY x=true
 jmp:∀(i:Nat)x,l[i]?=some x->x.1=22->0<=x.2.1/\x.2.1<l.length
 br:∀(i:Nat)x,l[i]?=some x->x.1=23->0<=x.2.2.1/\x.2.2.1<l.length
 last:∀x,l[l.length-1]?=some x->x.1=34
def apq{x:Instr}(h:eY x=true)(hx:x.1=22):0<=x.2.1:=by have e:yH 22=some (105,45,45):=rfl;simp[eY,hx,e,fits,al,db]at h;exact h.1.1
def apr{x:Instr}(h:eY x=true)(hx:x.1=23):0<=x.2.2.1:=by have e:yH 23=some (114,105,45):=rfl;simp[eY,hx,e,fits,al,db]at h;exact h.2.1.1
def yO{l:List Instr}(h:kq l=true):VC l:=by
 simp only[kq,al,db,d6,rx]at h;obtain⟨h1,h2,h3,h4⟩:=h;have hb:∀(i:Nat)x,l[i]?=some x->eY x=true/\Mk (l.length:Int) x=false:=λi x hi=>by have:=h3 x (f2 hi);simp only[OT,gc,d6,sm,Bool.not_eq_false,qr]at this;exact this
 refine⟨h1,h2,λi x hi=>(hb i x hi).1,λi x hi hx=>⟨apq (hb i x hi).1 hx,?_⟩,λi x hi hx=>⟨apr (hb i x hi).1 hx,?_⟩,λx hi=>?_⟩;.have:=(hb i x hi).2;simp only[Mk,hx,i9]at this<;>grind
 .have:=(hb i x hi).2;simp only[Mk,hx,i9]at this<;>grind
 .have e:BG l=x:=by simp only[BG,da,hi];rfl
  rw[e]at h4;simp only[YS,al,lx]at h4<;>grind
def cN(l:List Nat):List Int:=List.map (λn:Nat=>(n:Int)) l
def nx(l:List Instr)(i:Nat):List Nat:=match l[i]?with|none=>[]|some x=>if x.1=34\/x.1=28\/x.1=30then[]else if x.1=22then[x.2.1.toNat]else if x.1=23then if x.2.2.1.toNat=i+1then[i+1]else[min (i+1) x.2.2.1.toNat,max (i+1) x.2.2.1.toNat]else[i+1]
def BH{l:List Instr}(h:VC l){i k:Nat}(hk:k∈nx l i):k<l.length:=by
 unfold nx at hk;split at hk;.cases hk
 .rename_i x hi;have hlt:=aE hi;have hs:x.1≠34->i+1<l.length:=λhx=>by
   by_cases h1:i=l.length-1;.subst h1;exact absurd (h.last x hi) hx
   .omega
  split at hk;.cases hk
  .subst_vars;split at hk;.rename_i h22;have:=h.jmp i x hi h22<;>grind
   .split at hk;.rename_i h23;have:=h.br i x hi h23<;>grind
    grind
def sJ(l:List Instr)(i:Nat):(nx l i).length<=2:=by unfold nx<;>grind
def abK(x:Instr):((x.1==(34:Int))||((x.1==(28:Int))||(x.1==(30:Int))))=decide (x.1=34\/x.1=28\/x.1=30):=by grind
def YT(a b:Nat):min (a:Int) (b:Int)=((min a b:Nat):Int):=by omega
def YU(a b:Nat):max (a:Int) (b:Int)=((max a b:Nat):Int):=by omega
def YV{l:List Instr}(h:VC l){i:Nat}(hi:i<l.length):(Option.bind (idx l (i:Int)) λx0=>(Option.bind ((bif(x0.1==(34:Int))then some true else(Option.bind ((bif(x0.1==(28:Int))then some true else some (x0.1==(30:Int)))) λb1=>some b1))) λb2=>(bif b2 then some []else(bif(x0.1==(22:Int))then some [x0.2.1]else(bif(x0.1==(23:Int))then(bif(x0.2.2.1==(av ((i:Int)+(1:Int))))then some [(av ((i:Int)+(1:Int)))]else some [(min (av ((i:Int)+(1:Int))) x0.2.2.1),(max (av ((i:Int)+(1:Int))) x0.2.2.1)])else some [(av ((i:Int)+(1:Int)))])))))=some (cN (nx l i)):=by
 have e1:=aw hi;generalize l[i]=x at e1;have hle:=h.le;have e2:av ((i:Int)+1)=((i+1:Nat):Int):=ai (by omega);rw[aG e1];simp only[ae,dS,e2,abK,nx,e1];by_cases h1:x.1=34\/x.1=28\/x.1=30;.simp[h1,cN]
 .rw[bo h1,af,be h1];by_cases h2:x.1=22;.have:=h.jmp i x e1 h2;simp[h2,ll,au,i5,cN,f1,lA,rh this.1]
  .rw[show(x.1==(22:Int))=false by simpa using h2,be h2];by_cases h3:x.1=23
   .have:=h.br i x e1 h3;have hq:x.2.2.1=((x.2.2.1.toNat:Nat):Int):=by omega
    simp only[h3,ll,au,i5];by_cases h4:x.2.2.1.toNat=i+1;.rw[hq,h4];simp[cN]
    .rw[be h4,show(x.2.2.1==((i+1:Nat):Int))=false by simp;omega,af];generalize x.2.2.1.toNat=b at hq;rw[hq,YT,YU];rfl
   .rw[show(x.1==(23:Int))=false by simpa using h3,be h3];rfl
def aps(a b:Int):j5 (j4 [a,b])=if b=a then[a]else[min a b,max a b]:=by simp only[j4,Cy]<;>grind[j4,j5]
def OV{N:Nat}{l:List Instr}(h:VC l){i:Nat}(hi:i<l.length):Ov N (l,(i:Int))=some (cN (nx l i)):=by rw[<-YV h hi,Ov.eq_1];congr 1;funext x;congr 1;funext b;cases b with|true=>rfl|false=>
 have hlen:∀q:Int,decide ((j4 [av ((i:Int)+1),q]).length<4611686018427387904)=true:=λq=>by simp only[j4,Cy];cases decide (av ((i:Int)+1)<=q)<;>rfl
 rw[hlen];simp[aps];by_cases h4:x.2.2.1=av ((i:Int)+1);.simp_all[j4,av,aL]
 .rw[be h4,show(x.2.2.1==av ((i:Int)+1))=false by simpa using h4];rfl
end Go.Proofs.YtclkonemhghbkaaGreat
end
