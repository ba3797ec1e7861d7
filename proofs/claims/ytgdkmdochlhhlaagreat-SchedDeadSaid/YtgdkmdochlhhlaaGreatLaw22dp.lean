/- Parts of the proof. -/
import Derived.Test.YtgdkmdochlhhlaaGreatLaw22dc
set_option linter.unusedVariables false
set_option linter.unusedSimpArgs false
set_option linter.defProp false
noncomputable section
namespace Go.Proofs.YtgdkmdochlhhlaaGreat
open Go Go.bL Go.Sym
open Classical
def cE{α:Type}{l:List α}{i:Nat}(d:α)(h:i<l.length):idx l (i:Int)=some (l.getD i d):=by grind[idx]
def n6{α:Type}{l:List α}{i:Nat}(d:α)(h:i<l.length):l.getD i d∈l:=by grind
def pV{α:Type}{l:List α}{x:α}(d:α)(h:x∈l):∃i,i<l.length/\l.getD i d=x:=by obtain⟨i,hi,rfl⟩:=im.1 h;exact⟨i,hi,by rw[da,aw hi];rfl⟩
def Aa{i:Nat}(h0:0<i)(h:i<=9223372036854775807):av ((i:Int)-1)=((i-1:Nat):Int):=by rw[aQ (by omega)];omega
def Jm{α:Type}{l:List α}(h:¬l.length=0):((l.length:Int)==(0:Int))=false:=by grind
def rn(l:List fA)(i:Nat):fA:=l.getD i (0,0)
def ee(l:List fA)(n:Int):Prop:=0<l.length/\(rn l 0).1=0/\(∀i,i+1<l.length->(rn l i).1<(rn l (i+1)).1/\(rn l i).2≠(rn l (i+1)).2)/\∀i,i<l.length->(rn l i).1<n
def ee.mono{l:List fA}{n:Int}(h:ee l n){i:Nat}:∀{j:Nat},i<=j->j<l.length->(rn l i).1<=(rn l j).1
 |0,h1,_=>by grind|j+1,h1,h2=>by
  by_cases e:i=j+1;.grind
  .have:=h.mono (i:=i) (j:=j) (by omega) (by omega);have:=(h.2.2.1 j h2).1;omega
def YK{N:Nat}{l:List fA}{n:Int}(hN:l.length<N)(hl:l.length<=1000000):Xh N (l,n)=some (decide (ee l n)):=by
 rw[Xh.eq_1];by_cases h0:l.length=0;.rw[show((l.length:Int)==(0:Int))=true by rw[h0];rfl,au,ae,au,bv λh=>by have:=h.1;omega]
 .have e0:idx l (0:Int)=some (rn l 0):=cE (i:=0) (0,0) (by omega);have e1:idx l (av ((l.length:Int)-1))=some (rn l (l.length-1)):=by rw[Aa (by omega) (by omega)];exact cE _ (by omega)
  rw[Jm h0,af,e0,ae,e1,ae];by_cases h1:(rn l 0).1=0
  .rw[show((rn l 0).1!=(0:Int))=false by simp[h1],af,ae];by_cases h2:(rn l (l.length-1)).1>=n;.rw[bo h2,au,bv λh=>by have:=h.2.2.2 (l.length-1) (by omega);omega]
   .rw[bv h2,af,ae,bo (show 1<=l.length by omega),aj];have hd:(l.drop 1).length=l.length-1:=by simp
    have key:=gS (n:=(l.drop 1).length) (a:=(.inr ():Bool⊕Unit)) (b:=.inl false) (q:=λi=>decide ((rn l (i+1)).1<=(rn l i).1)||((rn l (i+1)).2==(rn l i).2)) (Lf:=λk i=>K5 N k (l.drop 1,((l.drop 1).length:Int),i,(rn l i.toNat).1,(rn l i.toNat).2)) (λk _=>by simp only[K5.eq_2,aO,af]) (λk i hi _=>by
      have e:idx (l.drop 1) (i:Int)=some (rn l (i+1)):=by refine aE ?_;rw[pd,rn,da,Nat.add_comm 1 i,aw (by omega)];rfl
      simp only[K5.eq_2,aN hi,au,e,ae,ai (show i<9223372036854775807by omega),bd,ib,f8,la];by_cases ha:(rn l (i+1)).1<=(rn l i).1;.simp[ha]
      .cases hb:((rn l (i+1)).2==(rn l i).2)<;>simp[ha]) (k:=N) (by omega);simp only[Int.toNat_zero]at key;rw[key,ae];by_cases hex:∃i,i<(l.drop 1).length/\(decide ((rn l (i+1)).1<=(rn l i).1)||((rn l (i+1)).2==(rn l i).2))=true
    .rw[ba hex,bv];rintro⟨_,_,h3,_⟩;obtain⟨i,hi,hq⟩:=hex;obtain⟨g1,g2⟩:=h3 i (by omega);rw[ge,dk,lw]at hq;rcases hq with hq|hq;.omega
     .exact g2 hq.symm
    .rw[bi hex,bo];have h3:∀i,i+1<l.length->(rn l i).1<(rn l (i+1)).1/\(rn l i).2≠(rn l (i+1)).2:=λi hi=>by have:¬(decide ((rn l (i+1)).1<=(rn l i).1)||((rn l (i+1)).2==(rn l i).2))=true:=λh=>hex ⟨i,by omega,h⟩;rw[ge,dk,lw,sT]at this;exact⟨by omega,λh=>this.2 h.symm⟩
     have m:∀j,j<l.length->∀i,i<=j->(rn l i).1<=(rn l j).1:=by intro j;induction j with|zero=>intro _ i hi;rw[Nat.le_zero.1 hi];exact ww _|succ j ih=>
       intro hj i hi;by_cases e:i=j+1;.rw[e];exact ww _
       .have:=ih (by omega) i (by omega);have:=(h3 j hj).1;omega
     exact⟨by omega,h1,h3,λi hi=>by have:=m (l.length-1) (by omega) i (by omega);omega⟩
  .rw[show((rn l 0).1!=(0:Int))=true by simp[h1],au,ae,au,bv λh=>h1 h.2.1]
def vC{N:Nat}{l:List fA}{n:Nat}(hN:l.length<N)(hl:l.length<=1000000):L4 N (l,(n:Int))=some (if n<1\/n>200then 2 else if ee l n then 0 else 8):=by rw[L4.eq_1,SF.eq_1,YK hN hl]<;>grind
def HA{N:Nat}{l:List fA}{n:Int}(hN:l.length<N)(hl:l.length<=1000000):Sn N (l,n)=some (decide (ee l n)):=by
 rw[Sn.eq_1];by_cases h0:l.length=0;.rw[show decide ((l.length:Int)<1)=true by rw[h0];rfl,au,ae,au,bv λh=>by have:=h.1;omega]
 .have e0:idx l (0:Int)=some (rn l 0):=cE (i:=0) (0,0) (by omega);rw[bv (show¬(l.length:Int)<1by omega),af,e0,ae,ae];by_cases h1:(rn l 0).1=0
  .rw[show((rn l 0).1!=(0:Int))=false by simp[h1],af];have key:=gS (n:=l.length) (a:=(.inr ():Bool⊕Unit)) (b:=.inl false) (q:=λi=>decide ((rn l i).1>=n\/0<i/\((rn l (i-1)).1>=(rn l i).1\/(rn l (i-1)).2=(rn l i).2))) (Lf:=λk i=>Ef N k (l,n,i)) (λk _=>by simp only[Ef.eq_2,aO,af]) (λk i hi _=>by
     have e:idx l (i:Int)=some (rn l i):=cE _ hi;simp only[Ef.eq_2,aN hi,au,e,ae,ai (show i<9223372036854775807by omega)];by_cases ha:(rn l i).1>=n;.simp[ha]
     .by_cases hz:0<i
      .have e':idx l (av ((i:Int)-1))=some (rn l (i-1)):=by rw[Aa hz (by omega)];exact cE _ (by omega)
       simp only[ha,e',tb,af,bo (show(i:Int)>0 by omega),au,ae,hz,true_and,false_or];by_cases hb:(rn l (i-1)).1>=(rn l i).1;.simp[hb]
       .by_cases hd:(rn l (i-1)).2=(rn l i).2;.simp[hb,hd]
        .rw[show((rn l (i-1)).2==(rn l i).2)=false by simpa using hd];simp[hb,hd]
      .simp only[ha,tb,af,bv (show¬(i:Int)>0 by omega),ae,hz,false_and,or_self];simp) (k:=N) hN;rw[key,ae];by_cases hex:∃i,i<l.length/\decide ((rn l i).1>=n\/0<i/\((rn l (i-1)).1>=(rn l i).1\/(rn l (i-1)).2=(rn l i).2))=true
   .rw[ba hex,bv];rintro⟨_,_,h3,h4⟩;obtain⟨i,hi,hq⟩:=hex;rcases dv hq with hq|⟨hz,hq⟩;.have:=h4 i hi;omega
    .obtain⟨g1,g2⟩:=h3 (i-1) (by omega);rw[show i-1+1=i by omega]at g1 g2;rcases hq with hq|hq;.omega
     .exact g2 hq
   .rw[bi hex,bo];have hno:∀i,i<l.length->¬((rn l i).1>=n\/0<i/\((rn l (i-1)).1>=(rn l i).1\/(rn l (i-1)).2=(rn l i).2)):=λi hi h=>hex ⟨i,hi,bo h⟩;refine⟨by omega,h1,λi hi=>?_,λi hi=>?_⟩;.have:=hno (i+1) hi;simp only[Nat.add_sub_cancel,sT,not_and]at this;have:=this.2 (by omega);exact⟨by omega,this.2⟩
    .have:=hno i hi;simp only[sT]at this;omega
  .rw[show((rn l 0).1!=(0:Int))=true by simp[h1],au,bv λh=>h1 h.2.1]
def pW{l:List fA}{n:Nat}(h:ee l n):l.length<=n:=by
 have key:∀i:Nat,i<l.length->(i:Int)<=(rn l i).1:=by intro i;induction i with|zero=>have:=h.2.1;omega|succ i ih=>intro hi;have:=(h.2.2.1 i hi).1;omega
 have h0:=h.1;have:=key (l.length-1) (by omega);have:=h.2.2.2 (l.length-1) (by omega);omega
def vK:Int->List fA->List Int|_,[]=>[]|was,x::r=>V (x.1-was).toNat++(V x.2.toNat++vK x.1 r)
def th(l:List fA):List Int:=V l.length++vK 0 l
def Inc:Int->List fA->Prop|_,[]=>True|was,x::r=>was<=x.1/\x.1<=1000/\(0<=x.2/\x.2<=18446744073709551615)/\Inc x.1 r
def CB(l:List fA):Prop:=∀x∈l,0<=x.2/\x.2<=18446744073709551615
def Mj:∀(was:Int)(l:List fA),(vK was l).length<=l.length*20|_,[]=>by simp[vK]|was,x::r=>by have:=dg (x.1-was).toNat;have:=dg x.2.toNat;have:=Mj x.1 r;simp[vK,bb,fa];omega
def oU(l:List fA):(th l).length<=10+l.length*20:=by have:=dg l.length;have:=Mj 0 l;rw[th,bb];omega
def ee.inc{l:List fA}{n:Int}(h:ee l n)(hn:n<=1000)(hr:CB l):Inc 0 l:=by
 have key:∀(m i:Nat)(was:Int),m=l.length-i->was>=0->(i<l.length->was<=(rn l i).1)->Inc was (l.drop i):=by intro m;induction m with|zero=>intro i was hm _ _;rw[List.drop_eq_nil_of_le (by omega)];trivial|succ m ih=>
  intro i was hm hw hle;have hi:i<l.length:=by omega
  have e:l[i]=rn l i:=by rw[rn,da,aw hi];rfl
  rw[gg hi,e];refine⟨hle hi,by have:=h.2.2.2 i hi;omega,hr _ (n6 _ hi),ih (i+1) _ (by omega) (by have:=hle hi;omega) λhi'=>?_⟩;have:=(h.2.2.1 i hi').1;omega
 have:=key l.length 0 0 (by omega) (by omega) λ_=>by rw[h.2.1];exact ww _
 grind
def YL{a b:Int}(h:0<=b/\b<=a/\a<=1000):av (a-b)=a-b:=aQ (by omega)
def HB{N:Nat}(hN:20<N){l:List fA}(hl:l.length<=100000):∀(r pre:List fA)(was:Int)(out:List Int)(k:Nat),l=pre++r->Inc was r->0<=was->r.length<k->out.length<=100000+pre.length*20->Ly N k (was,l,(l.length:Int),(pre.length:Int),out)=some (out++vK was r)
 |[],pre,was,out,k+1,he,_,_,_,_=>by rw[dt]at he;subst he;rw[Ly.eq_2,aO,af,vK,dt]|x::r,pre,was,out,k+1,he,hi,hw,hk,ho=>by
  obtain⟨i1,i2,i3,i4⟩:=hi;have hlen:pre.length+(r.length+1)=l.length:=by rw[he];simp
  have:=dg (x.1-was).toNat;have:=dg x.2.toNat;have ih:=HB hN hl r (pre++[x]) x.1 (out++V (x.1-was).toNat++V x.2.toNat) k (by rw[he];simp) i4 (by omega) (by simp at hk;omega) (by simp only[bb,dq];omega);obtain⟨v,hv⟩:=dT i3.1;rw[Ly.eq_2,aN (by omega),au,he,sG,ae,<-he,YL ⟨hw,i1,i2⟩,n5 hN (by omega),ae,ak (by omega) (by omega),aj,hv,yO hN (by omega),ae,ak (by simp only[bb];have:=dg v;omega) (by omega),aj,ai (by omega)];rw[show((pre++[x]).length:Int)=((pre.length+1:Nat):Int)by simp]at ih;rw[hv]at ih;simp only[bd]at ih;rw[ih,vK,hv];simp[bj]|_,_,_,_,0,_,_,_,h,_=>by omega
def Et{N:Nat}(hN:20<N){l:List fA}(hl:l.length<=100000):∀(r pre:List fA)(was:Int)(out:List Int)(k:Nat),l=pre++r->Inc was r->0<=was->r.length<k->out.length<=100000+pre.length*20->FS N k (l,was,(pre.length:Int),out)=some (out++vK was r)
 |[],pre,was,out,k+1,he,_,_,_,_=>by rw[dt]at he;subst he;rw[FS.eq_2,aO,af,vK,dt]|x::r,pre,was,out,k+1,he,hi,hw,hk,ho=>by
  obtain⟨i1,i2,i3,i4⟩:=hi;have hlen:pre.length+(r.length+1)=l.length:=by rw[he];simp
  have:=dg (x.1-was).toNat;have:=dg x.2.toNat;have ih:=Et hN hl r (pre++[x]) x.1 (out++V (x.1-was).toNat++V x.2.toNat) k (by rw[he];simp) i4 (by omega) (by simp at hk;omega) (by simp only[bb,dq];omega);obtain⟨v,hv⟩:=dT i3.1;have hx:idx l (pre.length:Int)=some x:=by rw[he];exact sG _ _ _
  simp only[FS.eq_2,aN (show pre.length<l.length by omega),au,hx,ae,YL ⟨hw,i1,i2⟩,BF hN (show 0<=x.1-was/\x.1-was<=9223372036854775807by omega),ak (show out.length+(V (x.1-was).toNat).length<=10000000by omega) (show 1<=1000by omega),aj,hv,kX hN (show v<18446744073709551616by omega),ak (show(out++V (x.1-was).toNat).length+(V v).length<=10000000by simp only[bb];have:=dg v;omega) (show 1<=1000by omega),ai (show pre.length<9223372036854775807by omega)];rw[show((pre++[x]).length:Int)=((pre.length+1:Nat):Int)by simp]at ih;rw[hv]at ih;simp only[bd]at ih;rw[ih,vK,hv];simp[bj]|_,_,_,_,0,_,_,_,h,_=>by omega
def ab2{N:Nat}(hN:1000<N){l:List fA}{n:Nat}(hl:l.length<=1000)(h:ee l n)(h1:1<=n)(h2:n<=200)(hr:CB l):Xu N (l,(n:Int))=some (th l,0):=by have hi:=h.inc (by omega) hr;have hv:=dg l.length;rw[Xu.eq_1,vC (by omega) (by omega),bi (by omega),ba h,ae,gT,nZ (by omega),yO (by omega) (by omega),ae];have:=HB (N:=N) (by omega) (l:=l) (by omega) l [] 0 (V l.length) N rfl hi (by omega) (by omega) (by simp;omega);simp at this;rw[this];rfl
def Eu{N:Nat}(hN:1000<N){l:List fA}{n:Nat}(hl:l.length<=1000)(h:ee l n)(h2:n<=200)(hr:CB l):Sq N l=some (th l):=by have hi:=h.inc (by omega) hr;have hv:=dg l.length;rw[Sq.eq_1,nZ (by omega),kX (by omega) (by omega),ae];have:=Et (N:=N) (by omega) (l:=l) (by omega) l [] 0 (V l.length) N rfl hi (by omega) (by omega) (by simp;omega);simp at this;rw[this];rfl
def Mk(n:Nat):Bool:=(decide (97<=n)&&decide (n<=122))||(decide (65<=n)&&decide (n<=90))
def uY(n:Nat):Bool:=Mk n||(decide (48<=n)&&decide (n<=57))
def mD(s:List UInt8):Bool:=decide (1<=s.length)&&(decide (s.length<=16)&&(Mk ((s.getD 0 0).toNat)&&s.all λc=>uY c.toNat))
def YM:∀n:Nat,n<256->(bif(decide (((n:Nat):Int)>=(97:Int)))then(bif(decide (((n:Nat):Int)<=(122:Int)))then some true else(bif(decide (((n:Nat):Int)>=(65:Int)))then some (decide (((n:Nat):Int)<=(90:Int)))else some false))else(bif(decide (((n:Nat):Int)>=(65:Int)))then some (decide (((n:Nat):Int)<=(90:Int)))else some false))=some (Mk n):=by decide+kernel
def HC(N:Nat)(c:UInt8):Sj N (c.toNat:Int)=some (Mk c.toNat):=by rw[Sj.eq_1,YM _ c.toNat_lt];rfl
def YN:∀n:Nat,n<256->((bif(decide ((DW .u8 ((n:Nat):Int) (32:Int))<(97:Int)))then(bif(decide (((n:Nat):Int)<(48:Int)))then some true else some (decide (((n:Nat):Int)>(57:Int))))else(bif(decide ((DW .u8 ((n:Nat):Int) (32:Int))>(122:Int)))then(bif(decide (((n:Nat):Int)<(48:Int)))then some true else some (decide (((n:Nat):Int)>(57:Int))))else(bif((vI .u8 ((n:Nat):Int) (64:Int))==(0:Int))then(bif(decide (((n:Nat):Int)<(48:Int)))then some true else some (decide (((n:Nat):Int)>(57:Int))))else some false))):Option Bool)=some (!uY n):=by decide+kernel
def SS:∀n:Nat,n<256->((!decide (((n:Nat):Int)<=57))&&uY n)=(Mk n&&uY n):=by decide+kernel
def sI{α:Type}{n:Nat}{q:Nat->Bool}{a b:α}:(if∃i,i<n/\(!q i)=true then b else a)=if∀i,i<n->q i=true then a else b:=by
 by_cases h:∀i,i<n->q i=true;.grind
 .rw[bi h,ba]<;>grind
def oM{α β:Type}{l:List α}{p:α->Bool}{a b:β}:(if∃x,x∈l/\(!p x)=true then b else a)=if∀x,x∈l->p x=true then a else b:=by
 by_cases h:∀x,x∈l->p x=true;.grind
 .rw[bi h,ba]<;>grind
def YO{α:Type}{l:List α}{p:α->Bool}:(if∃x,x∈l/\(!p x)=true then(Sum.inl false:Bool⊕Unit)else .inr ())=if l.all p=true then .inr ()else .inl false:=by by_cases h:l.all p=true<;>simp_all
def Ew{N:Nat}{s:List UInt8}(hN:100<N):OJ N s=some (mD s):=by
 rw[OJ.eq_1];unfold mD;by_cases h0:s.length=0;.rw[show((s.length:Int)==(0:Int))=true by rw[h0];rfl,au,ae,au,bv (by omega),pp]
 .rw[Jm h0,af,bo (show 1<=s.length by omega),f8];by_cases h1:s.length<=16
  .have e0:idx s (0:Int)=some (s.getD 0 0):=cE (i:=0) 0 (by omega);rw[bv (show¬(s.length:Int)>16by omega),af,e0,ae,ae,bo h1,f8];have hlt:=(s.getD 0 0).toNat_lt;have hall:s.all (λc=>uY c.toNat)=true->uY (s.getD 0 0).toNat=true:=λh=>fr.1 h _ (n6 0 (by omega));have hf:=SS _ hlt;have key:=gw (l:=bP s) (a:=(.inr ():Bool⊕Unit)) (b:=.inl false) (p:=λx=>!uY x.toNat) (Lf:=λk i=>IH N k (bP s,((bP s).length:Int),i)) (λk _=>by simp only[IH.eq_2,aO,af]) (λk i x hx hm=>by obtain⟨c,hc,rfl⟩:=i5.1 hm;have hi:=aC hx;rw[di]at hi;simp only[IH.eq_2,aN (aC hx),au,aE hx,ae,YN _ c.toNat_lt,ai (show i<9223372036854775807by omega),bd];by_cases hb:uY c.toNat=true<;>simp[hb]) (k:=N) (by rw[di];omega);rw[key,YO (p:=λx:Int=>uY x.toNat)];have e2:(bP s).all (λx=>uY x.toNat)=s.all λc=>uY c.toNat:=by unfold bP;rw[List.all_map];rfl
   rw[e2];cases ha:s.all λc=>uY c.toNat;.rw[bi (by simp),io,ae];cases decide (((s.getD 0 0).toNat:Int)<=57)<;>rfl
   .rw[hall ha,la,la]at hf;rw[ba rfl,la,ae,<-hf];cases decide (((s.getD 0 0).toNat:Int)<=57)<;>rfl
  .rw[bo (show(s.length:Int)>16by omega),au,ae,au,bv h1];rfl
def YP:∀n:Nat,n<256->(bif(!Mk n)then(bif(decide (((n:Nat):Int)<(48:Int)))then some true else some (decide (((n:Nat):Int)>(57:Int))))else some false)=some (!uY n):=by decide+kernel
def Ey{N:Nat}{s:List UInt8}(hN:100<N):Sk N s=some (mD s):=by
 rw[Sk.eq_1];unfold mD;by_cases h0:1<=s.length
 .rw[bv (show¬(s.length:Int)<1by omega),af,bo h0,f8];by_cases h1:s.length<=16
  .have e0:idx s (0:Int)=some (s.getD 0 0):=cE (i:=0) 0 (by omega);rw[bv (show¬(s.length:Int)>16by omega),af,e0,ae,HC,ae,ae,bo h1,f8];have key:=gw (l:=s) (a:=(.inr ():Bool⊕Unit)) (b:=.inl false) (p:=λc=>!uY c.toNat) (Lf:=λk i=>Eb N k (s,i)) (λk _=>by simp only[Eb.eq_2,aO,af]) (λk i x hx hm=>by have hi:=aC hx;simp only[Eb.eq_2,aN (aC hx),au,aE hx,ae,HC,YP _ x.toNat_lt,ai (show i<9223372036854775807by omega)];by_cases hb:uY x.toNat=true<;>simp[hb]) (k:=N) (by omega);rw[key,YO (p:=λc:UInt8=>uY c.toNat)];cases ha:s.all λc=>uY c.toNat;.rw[bi (by simp),io];cases Mk (s.getD 0 0).toNat<;>rfl
   .rw[ba rfl,la];cases Mk (s.getD 0 0).toNat<;>rfl
  .rw[bo (show(s.length:Int)>16by omega),au,ae,au,bv h1];rfl
 .rw[bo (show(s.length:Int)<1by omega),au,ae,au,bv h0,pp]
def mZ{s:List UInt8}(h:mD s=true):s.length<=16:=by unfold mD at h<;>grind
def fl(l:List Field)(i:Nat):Field:=l.getD i ([],0)
def Ml(l:List Field)(i:Nat):Prop:=∃j,j<i/\(fl l j).1=(fl l i).1
def okF(l:List Field)(i:Nat):Bool:=mD (fl l i).1&&!decide (Ml l i)
def cF(l:List Field):Prop:=∀i,i<l.length->okF l i=true
def Ez{N:Nat}{l:List Field}{i:Nat}(hi:i<=l.length)(hN:l.length<N)(hl:l.length<=1000000)(s:List UInt8)(v:Int):(∃j:Int,0<=j/\je N N (l.take i,((l.take i).length:Int),0,s,v)=some (.inl j)/\∃j,j<i/\(fl l j).1=s)\/(je N N (l.take i,((l.take i).length:Int),0,s,v)=some (.inr ())/\¬∃j,j<i/\(fl l j).1=s):=by
 have hlen:(l.take i).length=i:=by grind
 have key:∀k j,j<=i->i-j<k->(∀m,m<j->(fl l m).1≠s)->(∃q:Int,0<=q/\je N k (l.take i,((l.take i).length:Int),(j:Int),s,v)=some (.inl q)/\∃j,j<i/\(fl l j).1=s)\/(je N k (l.take i,((l.take i).length:Int),(j:Int),s,v)=some (.inr ())/\¬∃j,j<i/\(fl l j).1=s):=by intro k;induction k with|zero=>omega|succ k ih=>
   intro j hj hk hm;by_cases he:j=i;.subst he;refine .inr ⟨?_,λ⟨m,h1,h2⟩=>hm m h1 h2⟩;rw[je.eq_2,hlen,aO,af]
   .have e:idx (l.take i) (j:Int)=some (fl l j):=by refine aE ?_;rw[fx,ba (by omega),fl,da,aw (by omega)];rfl
    rw[je.eq_2,hlen,aN (by omega),au,e,ae];by_cases hq:(fl l j).1=s;.rw[show((fl l j).1==s)=true by simpa using hq,au];exact .inl ⟨j,by omega,rfl,j,by omega,hq⟩
    .rw[show((fl l j).1==s)=false by simpa using hq,af,ai (by omega)];have:=ih (j+1) (by omega) (by omega) λm h=>by
      by_cases e:m=j;.subst e;exact hq
      .exact hm m (by omega)
     rw[hlen]at this;exact this
 exact key N 0 (by omega) (by omega) λm h=>by omega
def Mm{N:Nat}{l:List Field}(hN:l.length+100<N)(hl:l.length<=1000000):Xf N l=some (decide (cF l)):=by
 rw[Xf.eq_1];have key:=gS (n:=l.length) (a:=(.inr ():Bool⊕Unit)) (b:=.inl false) (q:=λi=>!okF l i) (Lf:=λk i=>kW N k (l,l,(l.length:Int),i)) (λk _=>by simp only[kW.eq_2,aO,af]) (λk i hi _=>by
   have e:idx l (i:Int)=some (fl l i):=cE _ hi;simp only[kW.eq_2,aN hi,au,e,ae,Ew (show 100<N by omega)];cases hn:mD (fl l i).1;.simp[okF,hn]
   .rw[dj,af,bo (show(0:Int)<=(i:Int)by omega),aj,bd,bo (show i<=l.length by omega),aj,ai (by omega)];rcases Ez (l:=l) (i:=i) (by omega) (show l.length<N by omega) hl (fl l i).1 (fl l i).2with⟨j,h1,h2,h3⟩|⟨h2,h3⟩;.rw[h2,ae];simp only[bo (show j>=0from h1),au];rw[ba (by unfold okF;rw[bo (show Ml l i from h3)];simp)]
    .rw[h2,ae];simp only;rw[bi (by unfold okF;rw[hn,bv (show¬Ml l i from h3)];simp)]) (k:=N) (by omega);rw[key,sI,ae];by_cases h:cF l;.rw[ba (show∀i,i<l.length->okF l i=true from h),bo h]
 .rw[bi (show¬∀i,i<l.length->okF l i=true from h),bv h]
def uZ{N:Nat}{l:List Field}(hN:l.length+100<N)(hl:l.length<=1000000)(m:Int):Sl N (l,m)=some (decide ((l.length:Int)<=m/\cF l)):=by
 rw[Sl.eq_1];by_cases hm:(l.length:Int)<=m
 .rw[bv (show¬(l.length:Int)>m by omega),af];have key:=gS (n:=l.length) (a:=(.inr ():Bool⊕Unit)) (b:=.inl false) (q:=λi=>!okF l i) (Lf:=λk i=>s7 N k (l,i)) (λk _=>by simp only[s7.eq_2,aO,af]) (λk i hi _=>by
    have e:idx l (i:Int)=some (fl l i):=cE _ hi;simp only[s7.eq_2,aN hi,au,e,ae,Ey (show 100<N by omega)];cases hn:mD (fl l i).1;.simp[okF,hn]
    .have inner:=gS (n:=i) (a:=(.inr (l,(i:Int)):Bool⊕(List Field×Int))) (b:=.inl false) (q:=λj=>(fl l j).1==(fl l i).1) (Lf:=λk j=>Ec N k (l,(i:Int),j)) (λk _=>by simp only[Ec.eq_2,aO,af]) (λk j hj _=>by have ej:idx l (j:Int)=some (fl l j):=cE _ (by omega);simp only[Ec.eq_2,aN hj,au,e,ej,ae,ai (show j<9223372036854775807by omega)];by_cases hb:((fl l j).1==(fl l i).1)=true<;>simp[hb]) (k:=N) (by omega);rw[dj,af,inner,ae];by_cases hd:Ml l i;.rw[ba,ba (by unfold okF;rw[bo hd];simp)];obtain⟨j,h1,h2⟩:=hd;exact⟨j,h1,by simpa using h2⟩
     .rw[bi,bi (by unfold okF;rw[hn,bv hd];simp)];.simp only;rw[ai (by omega)]
      .rintro⟨j,h1,h2⟩;exact hd ⟨j,h1,by simpa using h2⟩) (k:=N) (by omega);rw[key,sI,ae];by_cases h:cF l;.rw[ba (show∀i,i<l.length->okF l i=true from h),bo ⟨hm,h⟩]
  .rw[bi (show¬∀i,i<l.length->okF l i=true from h),bv λh'=>h h'.2]
 grind
def Cp{N:Nat}{l:List Int}(hN:l.length<N)(hl:l.length<=1000):LX N l=some (l.all λx=>x==0):=by
 rw[LX.eq_1];have key:∀(r pre:List Int)k,l=pre++r->r.length<k->(r.all (λx=>x==0)=true/\uW N k (l,(l.length:Int),(pre.length:Int))=some (.inr ()))\/(r.all (λx=>x==0)=false/\∃j:Int,0<=j/\uW N k (l,(l.length:Int),(pre.length:Int))=some (.inl j)):=by intro r;induction r with|nil=>intro pre k he hk;obtain⟨k,rfl⟩:∃k',k=k'+1:=⟨k-1,by simp at hk;omega⟩;simp at he;subst he;exact .inl ⟨rfl,by rw[uW.eq_2,aO,af]⟩|cons x r ih=>
  intro pre k he hk;obtain⟨k,rfl⟩:∃k',k=k'+1:=⟨k-1,by simp at hk;omega⟩;have hlen:pre.length+(r.length+1)=l.length:=by rw[he];simp
  have hx:idx l (pre.length:Int)=some x:=by rw[he];exact sG _ _ _
  rw[uW.eq_2,aN (by omega),au,hx,ae,abO.eq_1,ae];by_cases h0:x=0;.rw[show(x !=0)=false by simp[h0],af,ai (by omega),dC,show(x==0)=true by simp[h0],f8];have:=ih (pre++[x]) k (by rw[he];simp) (by simp at hk;omega);rwa[show((pre++[x]).length:Int)=((pre.length+1:Nat):Int)by simp]at this
  .rw[show(x !=0)=true by simp[h0],au,dC,show(x==0)=false by simp[h0],pp];exact .inr ⟨rfl,pre.length,by omega,rfl⟩
 rcases key l [] N rfl hN with⟨h1,h2⟩|⟨h1,j,h2,h3⟩<;>grind
def HD(N:Nat)(a b:Int):LW N (a,b)=some (decide (0<=a/\a<b)):=by rw[LW.eq_1,gE,ae]<;>simp_all
def ty0:aB:=(0,0,0,[])
def ez(l:List aB)(i:Nat):aB:=l.getD i ty0
def dm(n i:Nat)(t:aB):Prop:=if t.1=1\/t.1=2\/t.1=3then t.2.1=0/\t.2.2.1=0/\t.2.2.2.length=0 else if t.1=4\/t.1=7then(0<=t.2.1/\t.2.1<n)/\t.2.2.1=0/\t.2.2.2.length=0 else if t.1=6then(0<=t.2.1/\t.2.1<i)/\(1<=t.2.2.1/\t.2.2.1<=16)/\t.2.2.2.length=0 else if t.1=5then t.2.1=0/\t.2.2.1=0/\(0<t.2.2.2.length/\t.2.2.2.length<=8)/\cF t.2.2.2/\∀f,f∈t.2.2.2->0<=f.2/\f.2<i else False
def HE{l:List Field}{i:Nat}(hi:i<l.length):hasB ((l.take i).map (·.1)) (fl l i).1=decide (Ml l i):=by
 unfold hasB;by_cases h:Ml l i;.rw[bo h,ml];obtain⟨j,h1,h2⟩:=h;refine⟨(fl l j).1,i5.2 ⟨fl l j,?_,rfl⟩,bo h2.symm⟩;rw[fl,da,aw (by omega)];exact pr.2 ⟨j,by omega,rfl⟩
 .rw[bv h];cases ha:((l.take i).map (·.1)).any λq=>decide ((fl l i).1=q)with|false=>rfl|true=>exfalso;obtain⟨q,h1,h2⟩:=ml.1 ha;obtain⟨f,h3,rfl⟩:=i5.1 h1;obtain⟨j,h4,rfl⟩:=pr.1 h3;refine h ⟨j,by omega,?_⟩;rw[dv h2];rw[fl,da,aw (by omega)];rfl
def ah5{l:List Field}{i:Nat}(hi:i<l.length):l[i]?=some (fl l i):=by rw[fl,da,aw hi];rfl
def SU{l:List Field}{i:Nat}(hi:i<l.length)(h:¬Ml l i):tI ((l.take i).map (·.1)) (fl l i).1=(l.take (i+1)).map (·.1):=by unfold tI;rw[HE hi,bv h,take_succ (ah5 hi),gc];rfl
def Mn{N:Nat}{l:List Field}{p:Nat}(hN:l.length+100<N)(hl:l.length<=1000000)(a b c:Int):wU N N ((p:Int),l,(l.length:Int),(0:Int),a,b,c,l,([]:List (List UInt8)))=some (if cF l/\(∀f,f∈l->0<=f.2/\f.2<p)then .inr (a,b,c,l)else .inl false):=by
 have key:=gS (n:=l.length) (a:=(.inr (a,b,c,l):Bool⊕(Int×Int×Int×List Field))) (b:=.inl false) (q:=λi=>!(okF l i&&decide (0<=(fl l i).2/\(fl l i).2<p))) (Lf:=λk i=>wU N k ((p:Int),l,(l.length:Int),i,a,b,c,l,(l.take i.toNat).map (·.1))) (λk _=>by simp only[wU.eq_2,aO,af]) (λk i hi _=>by
   have e:idx l (i:Int)=some (fl l i):=cE _ hi;simp only[wU.eq_2,aN hi,au,e,ae,Ew (show 100<N by omega),bd,HE hi,HD,ai (show i<9223372036854775807by omega)];cases hn:mD (fl l i).1;.simp[okF,hn]
   .by_cases hd:Ml l i;.simp[okF,hd]
    .rw[SU hi hd];unfold okF;rw[hn,bv hd];cases decide (0<=(fl l i).2/\(fl l i).2<(p:Int))<;>rfl) (k:=N) (by omega);rw[show(0:Int).toNat=0from rfl,List.take_zero,lx]at key;rw[key,sI];have hiff:(∀i,i<l.length->(okF l i&&decide (0<=(fl l i).2/\(fl l i).2<(p:Int)))=true)↔cF l/\∀f,f∈l->0<=f.2/\f.2<(p:Int):=by simp only[al,dk];refine⟨λh=>⟨λi hi=>(h i hi).1,λf hf=>?_⟩,λh i hi=>⟨h.1 i hi,h.2 _ (n6 _ hi)⟩⟩;obtain⟨i,hi,rfl⟩:=pV ([],0) hf;exact(h i hi).2
 grind
def OY{N:Nat}{l:List Field}{p:Nat}(hN:l.length<N)(hl:l.length<=1000000)(a b c:Int):s8 N N ((p:Int),(0:Int),a,b,c,l)=some (if∀f,f∈l->0<=f.2/\f.2<p then .inr (a,b,c,l)else .inl false):=by
 have key:=gw (l:=l) (a:=(.inr (a,b,c,l):Bool⊕(Int×Int×Int×List Field))) (b:=.inl false) (p:=λf=>!decide (0<=f.2/\f.2<(p:Int))) (Lf:=λk i=>s8 N k ((p:Int),i,a,b,c,l)) (λk _=>by simp only[s8.eq_2,aO,af]) (λk i x hx hm=>by
   simp only[s8.eq_2,aN (aC hx),au,aE hx,ae,ai (show i<9223372036854775807by have:=aC hx;omega)];by_cases h1:x.2<0;.rw[bo h1,bv (show¬(0<=x.2/\x.2<(p:Int))by omega)];rfl
   .by_cases h2:x.2>=(p:Int);.rw[bv h1,bo h2,bv (show¬(0<=x.2/\x.2<(p:Int))by omega)];rfl
    .rw[bv h1,bv h2,bo (show 0<=x.2/\x.2<(p:Int)by omega)];rfl) (k:=N) hN;rw[key,oM]<;>grind
def Cq(a b:Int):(a==b)=decide (a=b):=by grind
def ah6{v:Int}(h:i64 v):decide (0<=av (v-1)/\av (v-1)<16)=decide (1<=v/\v<=16):=by
 unfold i64 at h;by_cases h1:v=-9223372036854775808;.subst h1;rfl
 .rw[aQ (by omega)]<;>grind
def YQ{N:Nat}{l:List aB}{i:Nat}(hN:1100<N)(hi:i<l.length)(hf:(ez l i).2.2.2.length<=1000)(hb:i64 (ez l i).2.2.1):W4 N (l,(i:Int))=some (decide (dm l.length i (ez l i))):=by
 have e:idx l (i:Int)=some (ez l i):=cE _ hi;rw[W4.eq_1,e,ae];unfold dm;generalize ez l i=t at hf hb;obtain⟨k,el,le,fs⟩:=t;simp only at hf hb⊢;rw[Mn (by omega) (by omega)];simp only[Cq,dL,ae,HD,Cp (show[el,le,(fs.length:Int)].length<N by simp;omega) (by simp),Cp (show[le,(fs.length:Int)].length<N by simp;omega) (by simp),Cp (show[(fs.length:Int)].length<N by simp;omega) (by simp),ah6 hb,dC,wi,la];by_cases h1:k=1\/k=2\/k=3;.rw[show(decide (k=1)||(decide (k=2)||decide (k=3)))=true by simpa using h1,au,ba h1];congr 1;by_cases a1:el=0<;>by_cases a2:le=0<;>by_cases a3:fs.length=0<;>simp[a1,a2,a3];all_goals(intro h;simp[h]at a3)
 .rw[show(decide (k=1)||(decide (k=2)||decide (k=3)))=false by simpa using h1,af,bi h1];by_cases h2:k=4\/k=7;.rw[show(decide (k=4)||decide (k=7))=true by simpa using h2,au,ba h2,gE];congr 1;by_cases a1:0<=el/\el<(l.length:Int)<;>by_cases a2:le=0<;>by_cases a3:fs.length=0<;>simp[a1,a2,a3];all_goals(intro h;simp[h]at a3)
  .rw[show(decide (k=4)||decide (k=7))=false by simpa using h2,af,bi h2];by_cases h3:k=6;.rw[bo h3,au,ba h3];by_cases a1:0<=el/\el<(i:Int)<;>by_cases a2:1<=le/\le<=16<;>by_cases a3:fs.length=0<;>simp[a1,a2,a3];all_goals(intro h;simp[h]at a3)
   .rw[bv h3,af,bi h3];by_cases h4:k=5
    .rw[bo h4,au,ba h4];by_cases hq:cF fs/\∀f,f∈fs->0<=f.2/\f.2<(i:Int)
     .rw[ba hq];simp only;rw[Cp (show[el,le].length<N by simp;omega) (by simp),ae];simp only[dC,wi,la];have g3:decide ((fs.length:Int)>0)=decide (0<fs.length):=by rw[ka];omega
      have g4:decide ((fs.length:Int)<=8)=decide (fs.length<=8):=by rw[ka];omega
      rw[g3,g4];by_cases a1:el=0
      .by_cases a2:le=0
       .by_cases a3:0<fs.length
        .by_cases a4:fs.length<=8;.rw[aT (p:=el=0/\le=0/\(0<fs.length/\fs.length<=8)/\cF fs/\∀f,f∈fs->0<=f.2/\f.2<(i:Int)) ⟨a1,a2,⟨a3,a4⟩,hq⟩];simp[a1,a2,a3,a4]
         .rw[aM (p:=el=0/\le=0/\(0<fs.length/\fs.length<=8)/\cF fs/\∀f,f∈fs->0<=f.2/\f.2<(i:Int)) λh=>a4 h.2.2.1.2];simp[a1,a2,a3,a4]
        .rw[aM (p:=el=0/\le=0/\(0<fs.length/\fs.length<=8)/\cF fs/\∀f,f∈fs->0<=f.2/\f.2<(i:Int)) λh=>a3 h.2.2.1.1,bv a3];simp[a1,a2]
       .rw[aM (p:=el=0/\le=0/\(0<fs.length/\fs.length<=8)/\cF fs/\∀f,f∈fs->0<=f.2/\f.2<(i:Int)) λh=>a2 h.2.1,show(le==0)=false by simpa using a2,io];rfl
      .rw[aM (p:=el=0/\le=0/\(0<fs.length/\fs.length<=8)/\cF fs/\∀f,f∈fs->0<=f.2/\f.2<(i:Int)) λh=>a1 h.1,show(el==0)=false by simpa using a1,pp];rfl
     .rw[bi hq,aM (p:=el=0/\le=0/\(0<fs.length/\fs.length<=8)/\cF fs/\∀f,f∈fs->0<=f.2/\f.2<(i:Int)) λh=>hq ⟨h.2.2.2.1,h.2.2.2.2⟩]
    .rw[bv h4,af,bi h4,aM (p:=False) id]
def SV{N:Nat}{l:List aB}{i:Nat}(hN:1200<N)(hi:i<l.length)(hf:(ez l i).2.2.2.length<=1000):VD N (l,(i:Int))=some (decide (dm l.length i (ez l i))):=by
 have e:idx l (i:Int)=some (ez l i):=cE _ hi;rw[VD.eq_1,e,ae];unfold dm;generalize ez l i=t at hf;obtain⟨k,el,le,fs⟩:=t;simp only at hf⊢;rw[OY (by omega) (by omega)];simp only[Cq,dL,gE,ae,uZ (show fs.length+100<N by omega) (show fs.length<=1000000by omega)];have g0:decide ((fs.length:Int)=0)=decide (fs.length=0):=by rw[ka];omega
 by_cases h1:k=1\/k=2\/k=3;.rw[show(decide (k=1)||(decide (k=2)||decide (k=3)))=true by simpa using h1,au,ba h1,g0];congr 1;by_cases a1:el=0<;>by_cases a2:le=0<;>by_cases a3:fs.length=0<;>simp[a1,a2,a3];all_goals(intro h;simp[h]at a3)
 .rw[show(decide (k=1)||(decide (k=2)||decide (k=3)))=false by simpa using h1,af,bi h1];by_cases h2:k=4\/k=7;.rw[show(decide (k=4)||decide (k=7))=true by simpa using h2,au,ba h2,g0];congr 1;by_cases b1:0<=el<;>by_cases b2:el<(l.length:Int)<;>by_cases a2:le=0<;>by_cases a3:fs.length=0<;>simp[b1,b2,a2,a3];all_goals(intro h;simp[h]at a3)
  .rw[show(decide (k=4)||decide (k=7))=false by simpa using h2,af,bi h2];by_cases h3:k=6;.rw[bo h3,au,ba h3,g0];congr 1;by_cases b1:0<=el<;>by_cases b2:el<(i:Int)<;>by_cases a1:1<=le<;>by_cases a2:le<=16<;>by_cases a3:fs.length=0<;>simp[b1,b2,a1,a2,a3];all_goals(intro h;simp[h]at a3)
   .rw[bv h3,af,bi h3];by_cases h4:k=5
    .rw[bo h4,au,ba h4];have g3:decide ((fs.length:Int)>0)=decide (0<fs.length):=by rw[ka];omega
     by_cases hq:∀f,f∈fs->0<=f.2/\f.2<(i:Int)
     .rw[ba hq];simp only[g3,uZ (show fs.length+100<N by omega) (show fs.length<=1000000by omega),ae,gE];by_cases a5:cF fs;.by_cases a1:el=0<;>by_cases a2:le=0<;>by_cases a3:0<fs.length<;>by_cases a4:fs.length<=8;all_goals first|(rw[aT (p:=el=0/\le=0/\(0<fs.length/\fs.length<=8)/\cF fs/\∀f,f∈fs->0<=f.2/\f.2<(i:Int)) ⟨a1,a2,⟨a3,a4⟩,a5,hq⟩,aT a1,aT a2,aT a3,aT (p:=(fs.length:Int)<=8/\cF fs) ⟨by omega,a5⟩];rfl)|(rw[aM (p:=el=0/\le=0/\(0<fs.length/\fs.length<=8)/\cF fs/\∀f,f∈fs->0<=f.2/\f.2<(i:Int)) λh=>a1 h.1,aM a1,pp];done)|(rw[aM (p:=el=0/\le=0/\(0<fs.length/\fs.length<=8)/\cF fs/\∀f,f∈fs->0<=f.2/\f.2<(i:Int)) λh=>a2 h.2.1,aM a2,pp,io];done)|(rw[aM (p:=el=0/\le=0/\(0<fs.length/\fs.length<=8)/\cF fs/\∀f,f∈fs->0<=f.2/\f.2<(i:Int)) λh=>a3 h.2.2.1.1,aM a3,pp,io,io];done)|(rw[aM (p:=el=0/\le=0/\(0<fs.length/\fs.length<=8)/\cF fs/\∀f,f∈fs->0<=f.2/\f.2<(i:Int)) λh=>a4 h.2.2.1.2,aM (p:=(fs.length:Int)<=8/\cF fs) λh=>a4 (by omega),io,io,io];done)
      .rw[aM (p:=el=0/\le=0/\(0<fs.length/\fs.length<=8)/\cF fs/\∀f,f∈fs->0<=f.2/\f.2<(i:Int)) λh=>a5 h.2.2.2.1,aM (p:=(fs.length:Int)<=8/\cF fs) λh=>a5 h.2,io,io,io]
     .rw[bi hq,aM (p:=el=0/\le=0/\(0<fs.length/\fs.length<=8)/\cF fs/\∀f,f∈fs->0<=f.2/\f.2<(i:Int)) λh=>hq h.2.2.2.2]
    .rw[bv h4,af,bi h4,aM (p:=False) id]
def dm.fields{n i:Nat}{t:aB}(h:dm n i t):(t.1=5\/t.2.2.2=[])/\t.2.2.2.length<=8/\∀f,f∈t.2.2.2->0<=f.2/\f.2<i:=by
 have nil:t.2.2.2.length=0->(t.1=5\/t.2.2.2=[])/\t.2.2.2.length<=8/\∀f,f∈t.2.2.2->0<=f.2/\f.2<i:=λh=>by have e:=eb h;rw[e];exact⟨.inr rfl,by simp,λf hf=>by cases hf⟩
 unfold dm at h<;>grind
def dm.ptr{n i:Nat}{t:aB}(h:dm n i t)(hk:t.1=4\/t.1=7):0<=t.2.1/\t.2.1<n:=by unfold dm at h<;>grind
def dm.arr{n i:Nat}{t:aB}(h:dm n i t)(hk:t.1=6):(0<=t.2.1/\t.2.1<i)/\1<=t.2.2.1/\t.2.2.1<=16:=by unfold dm at h<;>grind
def p9(out:List Int):List Field->Int|[]=>0|f::r=>out.getD f.2.toNat 0+p9 out r
def BG(below out:List Int)(t:aB):Int:=min (1+(if t.1=4then below.getD t.2.1.toNat 0 else if t.1=7then 16*below.getD t.2.1.toNat 0 else if t.1=6then t.2.2.1*out.getD t.2.1.toNat 0 else 0)+p9 out t.2.2.2) 5001
def jQ(below:List Int)(l:List aB):Nat->List Int|0=>[]|i+1=>jQ below l i++[BG below (jQ below l i) (ez l i)]
def W(l:List Int):Prop:=∀x,x∈l->0<=x/\x<=5001
def u0(below:List Int)(l:List aB):∀i,(jQ below l i).length=i|0=>rfl|i+1=>by simp[jQ,u0 below l i]
def W.getD{l:List Int}(h:W l)(i:Nat):0<=l.getD i 0/\l.getD i 0<=5001:=by rw[da];cases e:l[i]?with|none=>simp|some x=>exact h x (aX e)
def Cr{out:List Int}(h:W out):∀fs:List Field,0<=p9 out fs/\p9 out fs<=fs.length*5001|[]=>by simp[p9]|f::r=>by have:=Cr h r;have:=h.getD f.2.toNat;simp only[p9,fa];omega
def YR{below out:List Int}{n i:Nat}{t:aB}(hb:W below)(ho:W out)(ht:dm n i t):0<=BG below out t/\BG below out t<=5001:=by
 unfold BG;have:=Cr ho t.2.2.2;have h1:=hb.getD t.2.1.toNat;have h2:=ho.getD t.2.1.toNat;have:0<=(if t.1=4then below.getD t.2.1.toNat 0 else if t.1=7then 16*below.getD t.2.1.toNat 0 else if t.1=6then t.2.2.1*out.getD t.2.1.toNat 0 else 0):=by
  split;.omega
  .split;.omega
   .split;.rename_i h6;exact ut (by have:=ht.arr h6;omega) h2.1
    .omega
 omega
def Ab{below:List Int}{l:List aB}(hb:W below):∀i,i<=l.length->(∀j,j<l.length->dm l.length j (ez l j))->W (jQ below l i)
 |0,_,_=>λx hx=>by cases hx|i+1,hi,ht=>λx hx=>by
  simp[jQ,bm,ca]at hx;rcases hx with hx|rfl;.exact Ab hb i (by omega) ht x hx
  .exact YR hb (Ab hb i (by omega) ht) (ht i (by omega))
def EA{α:Type}{a b:List α}{i:Nat}(d:α)(h:i<a.length):(a++b).getD i d=a.getD i d:=by grind
def Mo{a b:List Int}:∀{fs:List Field},(∀f,f∈fs->0<=f.2/\f.2<a.length)->p9 (a++b) fs=p9 a fs|[],_=>rfl|f::r,h=>by have:=h f cb;rw[p9,p9,EA _ (by omega),Mo λg hg=>h g (db _ hg)]
def mo{l:List Int}{i:Nat}(h:i<l.length):l[i]?=some (l.getD i 0):=by grind
def qn{x:Int}{n:Nat}(h:0<=x/\x<n):gB x n=true:=by grind[gB]
def YS{N:Nat}{fs:List Field}{now below:List Int}(avZ:W now)(a:List aB)(b c:Int)(d:List aB)(e g:Int)(hl:fs.length<=1000):∀(r pre:List Field)(n:Int)(k:Nat),fs=pre++r->(∀f,f∈r->0<=f.2/\f.2<now.length)->0<=n->n<=100000+pre.length*5001->r.length<k->wV N k (a,b,n,c,d,e,g,fs,(fs.length:Int),(pre.length:Int),below,now)=some (a,b,n+p9 now r,c,d,e,g,below,now):=by intro r;induction r with|nil=>intro pre n k he _ _ _ hk;obtain⟨k,rfl⟩:∃k',k=k'+1:=⟨k-1,by simp at hk;omega⟩;simp at he;subst he;rw[wV.eq_2,aO,af,p9,zr]|cons x r ih=>
 intro pre n k he hf h0 hn hk;obtain⟨k,rfl⟩:∃k',k=k'+1:=⟨k-1,by simp at hk;omega⟩;have hlen:pre.length+(r.length+1)=fs.length:=by rw[he];simp
 have hx:idx fs (pre.length:Int)=some x:=by rw[he];exact sG _ _ _
 have hx2:=hf x cb;have hg:=avZ.getD x.2.toNat;have ih:=ih (pre++[x]) (n+now.getD x.2.toNat 0) k (by rw[he];simp) (λf h=>hf f (db _ h)) (by omega) (by rw[bb,dq];omega) (by simp at hk;omega);rw[wV.eq_2,aN (by omega),au,hx,ae,qn hx2,aj,mo (by omega),ae,aQ (by omega),ai (by omega)];rw[show((pre++[x]).length:Int)=((pre.length+1:Nat):Int)by simp]at ih;rw[ih,p9,Int.add_assoc]
def QF(n:Nat):W (List.replicate n 0):=λx hx=>by grind
def W.app{a b:List Int}(ha:W a)(hb:W b):W (a++b):=λx hx=>(bm.1 hx).elim (ha x) (hb x)
def QG{a:List Int}{n i:Nat}{v:Int}(ha:a.length=i)(hi:i<n):(a++List.replicate (n-i) 0).set i v=(a++[v])++List.replicate (n-(i+1)) 0:=by rw[pD _ _ (by omega),show n-i=(n-(i+1))+1by omega,pu,show i-a.length=0 by omega,bj];rfl
def Ac(l:List aB):Prop:=∀i,i<l.length->dm l.length i (ez l i)
def ah7{N:Nat}{l:List aB}{below:List Int}(hN:1000<N)(hl:l.length<=100)(ht:Ac l)(hb:W below)(CQ:below.length=l.length)(r:Int):
 jd N N (l,r,l,(l.length:Int),(0:Int),below,List.replicate l.length 0)=some (l,r,jQ below l l.length):=by have key:=kK (n:=l.length) (Lf:=λk i=>jd N k (l,r,l,(l.length:Int),i,below,jQ below l i.toNat++List.replicate (l.length-i.toNat) 0)) (g:=λ_=>some (l,r,jQ below l l.length)) (λk=>by simp only[jd.eq_2,aO,af,bd,px,rh,dt]) (λk i hi ih=>by
   have e:idx l (i:Int)=some (ez l i):=cE _ hi;have ht':=ht i hi;have hf:=ht'.fields;have hW:=Ab (i:=i) (l:=l) hb (by omega) ht;have Io:=u0 below l i;have hnl:(jQ below l i++List.replicate (l.length-i) (0:Int)).length=l.length:=by simp[Io];omega
   have hWn:W (jQ below l i++List.replicate (l.length-i) 0):=hW.app (QF _);have av0:p9 (jQ below l i++List.replicate (l.length-i) 0) (ez l i).2.2.2=p9 (jQ below l i) (ez l i).2.2.2:=Mo λf h=>by have:=hf.2.2 f h;rw[Io];exact this
   have OZ:∀v:Int,(jQ below l i++List.replicate (l.length-i) 0).set i v=(jQ below l i++[v])++List.replicate (l.length-(i+1)) 0:=λv=>QG Io hi;have fin:∀n:Int,0<=n->n<=100000->1+(if(ez l i).1=4then below.getD (ez l i).2.1.toNat 0 else if(ez l i).1=7then 16*below.getD (ez l i).2.1.toNat 0 else if(ez l i).1=6then(ez l i).2.2.1*(jQ below l i).getD (ez l i).2.1.toNat 0 else 0)=n->(Option.bind (wV N N (l,(i:Int),n,r,l,(l.length:Int),(i:Int),(ez l i).2.2.2,((ez l i).2.2.2.length:Int),(0:Int),below,jQ below l i++List.replicate (l.length-i) 0)) λSW=>(aK (gB SW.2.1 SW.2.2.2.2.2.2.2.2.length) ((Option.bind (SW.2.2.2.2.2.2.2.2[(Int.toNat SW.2.1)]?) λx32=>jd N k (SW.1,SW.2.2.2.1,SW.2.2.2.2.1,SW.2.2.2.2.2.1,(av (SW.2.2.2.2.2.2.1+(1:Int))),SW.2.2.2.2.2.2.2.1,(SW.2.2.2.2.2.2.2.2.set (Int.toNat SW.2.1) (min SW.2.2.1 (5001:Int))))))))=some (l,r,jQ below l l.length):=by intro n h0 hn he;have:=YS (N:=N) (below:=below) hWn l (i:Int) r l (l.length:Int) (i:Int) (fs:=(ez l i).2.2.2) (by omega) (ez l i).2.2.2 [] n N rfl (λf h=>by rw[hnl];have:=hf.2.2 f h;omega) h0 (by simp;omega) (by omega);rw[show(([]:List Field).length:Int)=0from rfl]at this;rw[this,ae];simp only[bd];rw[hnl,cB hi,aj,mo (by rw[hnl];exact hi),ae,ai (by omega),OZ,av0];simp only[bd]at ih;rw[jQ,BG,he]at ih;exact ih
   have hbd:=hb.getD (ez l i).2.1.toNat;have hod:=hW.getD (ez l i).2.1.toNat;simp only[jd.eq_2,aN hi,au,e,ae,bd];by_cases h4:(ez l i).1=4;.have hp:=ht'.ptr (.inl h4);rw[ba h4]at fin;rw[show((ez l i).1==(4:Int))=true by simp[h4],au,qn (by omega),aj,mo (by omega),ae,aQ (by omega)];exact fin _ (by omega) (by omega) rfl
   .rw[show((ez l i).1==(4:Int))=false by simp[h4],af];rw[bi h4]at fin;by_cases h7:(ez l i).1=7;.have hp:=ht'.ptr (.inr h7);rw[ba h7]at fin;rw[show((ez l i).1==(7:Int))=true by simp[h7],au,qn (by omega),aj,mo (by omega),ae,aQ (n:=16*_) (by omega),aQ (by omega)];exact fin _ (by omega) (by omega) rfl
    .rw[show((ez l i).1==(7:Int))=false by simp[h7],af];rw[bi h7]at fin;by_cases h6:(ez l i).1=6;.have hp:=ht'.arr h6;rw[ba h6]at fin;have hm:0<=(ez l i).2.2.1*(jQ below l i).getD (ez l i).2.1.toNat 0/\(ez l i).2.2.1*(jQ below l i).getD (ez l i).2.1.toNat 0<=16*5001:=⟨ut (by omega) hod.1,vd (by omega) hod.2 hod.1 (by omega)⟩;rw[show((ez l i).1==(6:Int))=true by simp[h6],au,qn (by rw[hnl];omega),aj,mo (by rw[hnl];omega),ae,EA _ (by rw[Io];omega),aQ (n:=(ez l i).2.2.1*_) (by omega),aQ (by omega)];exact fin _ (by omega) (by omega) rfl
     .rw[show((ez l i).1==(6:Int))=false by simp[h6],af];rw[bi h6]at fin;exact fin 1 (by omega) (by omega) rfl) N 0 (by omega) (by omega);simpa[jQ]using key
def wR(l:List aB):Nat->List Int|0=>jQ (List.replicate l.length 0) l l.length|d+1=>jQ (wR l d) l l.length
def EB{l:List aB}(ht:Ac l):∀d,W (wR l d)/\(wR l d).length=l.length|0=>⟨Ab (QF _) _ (by omega) ht,u0 _ _ _⟩|d+1=>⟨Ab (EB ht d).1 _ (by omega) ht,u0 _ _ _⟩
def SX{N:Nat}{l:List aB}(hN:1000<N)(hl:l.length<=100)(ht:Ac l):W8 N l=some (wR l 3):=by
 have hr:(decide (Int.toNat (l.length:Int)<=Int.toNat (l.length:Int))&&room (Int.toNat (l.length:Int)) 8)=true:=by rw[bo (bc _),ak (by omega) (by omega)];rfl
 have h0:decide (0<=(l.length:Int))=true:=bo (by omega);have step:∀(j:Nat)(b:List Int)k,j<4->W b->b.length=l.length->kV N (k+1) (l,(j:Int),b)=kV N k (l,((j+1:Nat):Int),jQ b l l.length):=λj b k hj hb CQ=>by rw[kV.eq_2,bo (by omega),au,h0,aj,aj,hr,aj,bd,ah7 hN hl ht hb CQ,ae];simp only;rw[ai (by omega)]
 obtain⟨k,rfl⟩:∃k,N=k+5:=⟨N-5,by omega⟩;rw[W8.eq_1,h0,aj,hr,aj,bd];have s0:=step 0 (List.replicate l.length 0) (k+4) (by omega) (QF _) (by simp);have s1:=step 1 _ (k+3) (by omega) (EB ht 0).1 (EB ht 0).2;have s2:=step 2 _ (k+2) (by omega) (EB ht 1).1 (EB ht 1).2;have s3:=step 3 _ (k+1) (by omega) (EB ht 2).1 (EB ht 2).2;have e:kV (k+5) (k+5) (l,(0:Int),List.replicate l.length 0)=some (wR l 3):=by refine s0.trans (s1.trans (s2.trans (s3.trans ?_)));rfl
 rw[e];rfl
def partsOf(t:aB):List Int:=(if t.1=6then[t.2.1]else[])++t.2.2.2.map (·.2)
def u5{α β:Type}(g:α->β):∀fs:List α,fs.flatMap (λf=>[g f])=fs.map g|[]=>rfl|x::r=>by rw[d8,u5 g r];rfl
def YT{N:Nat}{t:aB}(hN:1100<N)(hf:t.2.2.2.length<=1000):VF N (t.1,t.2.1,t.2.2.1,t.2.2.2)=some (partsOf t):=by
 obtain⟨k,el,le,fs⟩:=t;simp at hf⊢;rw[VF.eq_1];have key:=λs(hs:s.length<=1)=>iC (l:=fs) (enc:=λf:Field=>[f.2]) (g:=id) (B:=10000) (m:=1) (Lf:=λk' i(s:List Int)=>s9 N k' (s,i,k,el,le,fs)) (λk' s=>by simp only[s9.eq_2,aO,af];rfl) (λk' i x s hx hm hs=>by simp only[s9.eq_2,aN (aC hx),au,aE hx,ae,ak (show s.length+1<=10000000by omega) (show 8<=1000by omega),aj,ai (show i<9223372036854775807by have:=aC hx;omega)]) (λx _=>by simp) (k:=N) (s:=s) (by omega) (by omega);rw[u5]at key;unfold partsOf;by_cases h:k=6;.rw[show(k==(6:Int))=true by simp[h],ak (by omega) (by omega),aj,key [el] (by simp)];simp[h]
 grind
def Jn(t:aB):Int:=if t.1=6then t.2.2.1else 1
def FI(out:List Int)(t:aB):Int->List Int->Int|n,[]=>n|n,q::r=>FI out t (min (n+Jn t*out.getD q.toNat 0) 5001) r
def ap4{n i:Nat}{t:aB}(h:dm n i t):1<=Jn t/\Jn t<=16:=by
 unfold Jn;split;.exact(h.arr ‹_›).2
 .omega
def ah8{a b:Int}(ha:1<=a/\a<=16)(hb:0<=b/\b<=5001):0<=a*b/\a*b<=80016:=⟨ut (by omega) hb.1,y0 (vd ha.2 hb.2 hb.1 (by omega)) (by omega)⟩
def O0{N:Nat}{R:List aB×Int->Option (List Int)}{l:List aB}{i:Nat}(hi:i<l.length)(ht:dm l.length i (ez l i)){out:List Int}(ho:W out)(d:Int)(below:List Int)(ps:List Int)(hl:ps.length<=1000):∀(r pre:List Int)(n:Int)(k:Nat),ps=pre++r->(∀q,q∈r->0<=q/\q<out.length)->0<=n->n<=5001->r.length<k->iZ N R k (l,d,below,out,(i:Int),n,ps,(pre.length:Int))=some (l,d,below,out,(i:Int),FI out (ez l i) n r):=by intro r;have e:idx l (i:Int)=some (ez l i):=cE _ hi;induction r with|nil=>intro pre n k he _ _ _ hk;obtain⟨k,rfl⟩:∃k',k=k'+1:=⟨k-1,by simp at hk;omega⟩;simp at he;subst he;rw[iZ.eq_2,aO,af,FI]|cons x r ih=>
 intro pre n k he hf h0 hn hk;obtain⟨k,rfl⟩:∃k',k=k'+1:=⟨k-1,by simp at hk;omega⟩;have hlen:pre.length+(r.length+1)=ps.length:=by rw[he];simp
 have hx:idx ps (pre.length:Int)=some x:=by rw[he];exact sG _ _ _
 have hx2:=hf x cb;have hg:=ah8 (ap4 ht) (ho.getD x.toNat);have ih:=ih (pre++[x]) (min (n+Jn (ez l i)*out.getD x.toNat 0) 5001) k (by rw[he];simp) (λf h=>hf f (db _ h)) (by omega) (by omega) (by simp at hk;omega);have hb:(Option.bind ((bif((ez l i).1==(6:Int))then(Option.bind (idx l (i:Int)) λx17=>some x17.2.2.1)else some (1:Int))) λb18=>(Option.bind (idx ps (pre.length:Int)) λx19=>(Option.bind (idx out x19) λx20=>iZ N R k (l,d,below,out,(i:Int),(min (av (n+(av (b18*x20)))) (5001:Int)),ps,(av ((pre.length:Int)+(1:Int)))))))=iZ N R k (l,d,below,out,(i:Int),min (n+Jn (ez l i)*out.getD x.toNat 0) 5001,ps,((pre.length+1:Nat):Int)):=by
  have ex:idx out x=some (out.getD x.toNat 0):=pS hx2.1 (mo (by omega));unfold Jn at hg⊢;by_cases h6:(ez l i).1=6;.rw[ba h6]at hg⊢;rw[show((ez l i).1==(6:Int))=true by simp[h6],au,e,ae,ae,hx,ae,ex,ae,aQ (n:=(ez l i).2.2.1*_) (by omega),aQ (by omega),ai (by omega)]
  .rw[bi h6]at hg⊢;rw[show((ez l i).1==(6:Int))=false by simp[h6],af,ae,hx,ae,ex,ae,aQ (n:=1*_) (by omega),aQ (by omega),ai (by omega)]
 rw[iZ.eq_2,aN (by omega),au,e,ae,<-e,hb];rw[show((pre++[x]).length:Int)=((pre.length+1:Nat):Int)by simp]at ih;rw[ih,FI]
def BH{out:List Int}{t:aB}(ho:W out)(h6:t.1≠6):∀(fs:List Field)(n:Int),0<=n->n<=5001->FI out t n (fs.map (·.2))=min (n+p9 out fs) 5001|[],n,h0,hn=>by rw[lx,FI,p9];omega|f::r,n,h0,hn=>by have hg:=ho.getD f.2.toNat;have hs:=Cr ho r;rw[f2,FI,Jn,bi h6,BH ho h6 r _ (by omega) (by omega),p9];omega
def ah9{out:List Int}{n i:Nat}{t:aB}(ho:W out)(ht:dm n i t):FI out t 1 (partsOf t)=min (1+(if t.1=6then t.2.2.1*out.getD t.2.1.toNat 0 else 0)+p9 out t.2.2.2) 5001:=by
 unfold partsOf;by_cases h6:t.1=6;.have hf:t.2.2.2=[]:=ht.fields.1.resolve_left (by omega);rw[ba h6,hf,lx,dt,FI,FI,Jn,ba h6,p9];omega
 .rw[bi h6,i6,BH ho h6 _ _ (by omega) (by omega)];omega
def YU(n i:Nat):(List.replicate n (0:Int)).getD i 0=0:=by grind
def Mp{N:Nat}{R:List aB×Int->Option (List Int)}{l:List aB}(hN:1100<N)(hl:l.length<=100)(ht:Ac l)(hf:∀i,i<l.length->(ez l i).2.2.2.length<=1000){d:Nat}{below b':List Int}(hb':W b')(hd:d=0/\b'=List.replicate l.length 0\/0<d/\d<=10/\below=b'/\b'.length=l.length):
 iR N R N (l,(d:Int),below,[],(0:Int))=some (jQ b' l l.length):=by have key:=kK (n:=l.length) (Lf:=λk i=>iR N R k (l,(d:Int),below,jQ b' l i.toNat,i)) (g:=λ_=>some (jQ b' l l.length)) (λk=>by simp only[iR.eq_2,aO,af,bd]) (λk i hi ih=>by
   have e:idx l (i:Int)=some (ez l i):=cE _ hi;have ht':=ht i hi;have hff:=ht'.fields;have hW:=Ab (i:=i) (l:=l) hb' (by omega) ht;have Io:=u0 b' l i;have hps:∀q,q∈partsOf (ez l i)->0<=q/\q<(jQ b' l i).length:=by
    intro q hq;rw[Io];unfold partsOf at hq;rw[bm]at hq;rcases hq with hq|hq
    .split at hq;.rw[ca]at hq;subst hq;exact(ht'.arr ‹_›).1
     .cases hq
    .obtain⟨f,h1,rfl⟩:=i5.1 hq;exact hff.2.2 f h1
   have hpl:(partsOf (ez l i)).length<=1000:=by
    unfold partsOf;rw[bb,lj];split;.simp;omega
    .simp;omega
   have hin:=O0 (N:=N) (R:=R) hi ht' hW (d:Int) below (partsOf (ez l i)) hpl (partsOf (ez l i)) [] 1 N rfl hps (by omega) (by omega) (by omega);rw[show(([]:List Int).length:Int)=0from rfl,ah9 hW ht']at hin;simp only[bd]at ih⊢;rw[jQ]at ih;have hbd:=hb'.getD (ez l i).2.1.toNat;have hod:=hW.getD (ez l i).2.1.toNat;have hsb:=Cr hW (ez l i).2.2.2;have hroom:room ((jQ b' l i).length+1) 8=true:=ak (by omega) (by omega);have fin:∀b31:Int,b31=BG b' (jQ b' l i) (ez l i)->iR N R k (l,(d:Int),below,jQ b' l i++[b31],((i+1:Nat):Int))=some (jQ b' l l.length):=by rintro _ rfl;exact ih
   simp only[iR.eq_2,aN hi,au,e,ae,YT (t:=ez l i) hN (hf i hi),hin,hroom,aj,ai (show i<9223372036854775807by omega)];rcases hd with⟨rfl,hd⟩|⟨hd,aB3,rfl,CQ⟩;.rw[show decide (((0:Nat):Int)>0)=false from rfl,af,af,ae,af,ae,ae,af,ae];refine fin _ ?_;unfold BG;rw[hd,YU];split<;>(try split)<;>(try split)<;>first|omega|rfl
   .rw[bo (show(d:Int)>0 by omega),au,au,ae];unfold BG at fin;by_cases h4:(ez l i).1=4;.have hp:=ht'.ptr (.inl h4);have hfs:(ez l i).2.2.2=[]:=hff.1.resolve_left (by omega);rw[show((ez l i).1==(4:Int))=true by simp[h4],au,pS hp.1 (mo (by omega)),ae,ae,ae,show((ez l i).1==(7:Int))=false by simp[h4],af,ae,bi (by omega)];refine fin _ ?_;rw[ba h4,hfs,p9,aQ (by omega)];omega
    .rw[show((ez l i).1==(4:Int))=false by simp[h4],af,ae,ae];rw[bi h4]at fin;by_cases h7:(ez l i).1=7;.have hp:=ht'.ptr (.inr h7);have hfs:(ez l i).2.2.2=[]:=hff.1.resolve_left (by omega);rw[show((ez l i).1==(7:Int))=true by simp[h7],au,pS hp.1 (mo (by omega)),ae,ae,bi (by omega)];refine fin _ ?_;rw[ba h7,hfs,p9,aQ (n:=16*_) (by omega),aQ (by omega)];omega
     .rw[show((ez l i).1==(7:Int))=false by simp[h7],af,ae];rw[bi h7]at fin;exact fin _ rfl) N 0 (by omega) (by omega);simpa[jQ]using key
def BI{l:List aB}(hl:l.length<=100)(ht:Ac l)(hf:∀i,i<l.length->(ez l i).2.2.2.length<=1000):∀(d N:Nat),d<=10->1200+d<N->D0 N (l,(d:Int))=some (wR l d)|0,N,_,hN=>by obtain⟨N,rfl⟩:∃k,N=k+1:=⟨N-1,by omega⟩;rw[D0.eq_2,show decide (((0:Nat):Int)>0)=false from rfl,Mp (by omega) hl ht hf (QF l.length) (.inl ⟨rfl,rfl⟩)];rfl|d+1,N,hd,hN=>by obtain⟨N,rfl⟩:∃k,N=k+1:=⟨N-1,by omega⟩;rw[D0.eq_2,bo (by omega),aQ (by omega),show((d+1:Nat):Int)-1=(d:Int)by omega,BI hl ht hf d N (by omega) (by omega),ae,Mp (by omega) hl ht hf (EB ht d).1 (.inr ⟨by omega,by omega,rfl,(EB ht d).2⟩)];rfl
def kL(l:List aB):Prop:=l.length<=32/\Ac l/\∀x,x∈wR l 3->x<=5000
def Mq(l:List aB):Prop:=l.length<=100/\∀i,i<l.length->(ez l i).2.2.2.length<=1000/\i64 (ez l i).2.2.1
def Ad{N:Nat}{l:List aB}(hN:1300<N)(hl:Mq l):OK N l=some (if kL l then 0 else 8):=by
 rw[OK.eq_1];by_cases h32:l.length<=32
 .rw[bv (show¬(l.length:Int)>32by omega),af];have key:=gS (n:=l.length) (a:=(.inr l:Int⊕List aB)) (b:=.inl 8) (q:=λi=>!decide (dm l.length i (ez l i))) (Lf:=λk i=>IO N k (l,(l.length:Int),i)) (λk _=>by simp only[IO.eq_2,aO,af]) (λk i hi _=>by
    simp only[IO.eq_2,aN hi,au,YQ (show 1100<N by omega) hi (hl.2 i hi).1 (hl.2 i hi).2,ae,ai (show i<9223372036854775807by omega)];by_cases ht:dm l.length i (ez l i);.rw[aT ht];rfl
    .rw[aM ht];rfl) (k:=N) (by omega);rw[key,sI,ae];by_cases hall:Ac l
  .rw[ba (show∀i,i<l.length->decide (dm l.length i (ez l i))=true fromλi hi=>aT (hall i hi))];simp;rw[SX (by omega) hl.1 hall,ae];have hW:=EB hall 3;have O1:=gw (l:=wR l 3) (a:=(.inr ():Int⊕Unit)) (b:=.inl 8) (p:=λx=>!decide (x<=5000)) (Lf:=λk i=>IR N k (wR l 3,((wR l 3).length:Int),i)) (λk _=>by simp only[IR.eq_2,aO,af]) (λk i x hx hm=>by
     simp only[IR.eq_2,aN (aC hx),au,aE hx,ae,ai (show i<9223372036854775807by have:=aC hx;omega)];by_cases h5:x<=5000;.rw[aM (show¬x>5000by omega),aT h5];rfl
     .rw[aT (show x>5000by omega),aM h5];rfl) (k:=N) (by omega);rw[O1,oM,ae];by_cases h5:∀x,x∈wR l 3->x<=5000;.rw[ba λx hx=>aT (h5 x hx),ba ⟨h32,hall,h5⟩]
   .rw[bi λh=>h5 λx hx=>dv (h x hx),bi λh=>h5 h.2.2]
  .rw[bi λh=>hall λi hi=>dv (h i hi),bi λh=>hall h.2.1]
 .rw[bo (show(l.length:Int)>32by omega),au,bi λh=>h32 h.1]
def O2{N:Nat}{l:List aB}(hN:1300<N)(hl:Mq l):VK N l=some (if kL l then 0 else 8):=by
 rw[VK.eq_1];by_cases h32:l.length<=32
 .rw[bv (show¬(l.length:Int)>32by omega),af];have key:=gS (n:=l.length) (a:=(.inr l:Int⊕List aB)) (b:=.inl 8) (q:=λi=>!decide (dm l.length i (ez l i))) (Lf:=λk i=>Ed N k (l,i)) (λk _=>by simp only[Ed.eq_2,aO,af]) (λk i hi _=>by
    simp only[Ed.eq_2,aN hi,au,SV (show 1200<N by omega) hi (hl.2 i hi).1,ae,ai (show i<9223372036854775807by omega)];by_cases ht:dm l.length i (ez l i);.rw[aT ht];rfl
    .rw[aM ht];rfl) (k:=N) (by omega);rw[key,sI,ae];by_cases hall:Ac l
  .rw[ba (show∀i,i<l.length->decide (dm l.length i (ez l i))=true fromλi hi=>aT (hall i hi))];simp;have hw:=BI hl.1 hall (λi hi=>(hl.2 i hi).1) 3 N (by omega) (by omega);simp at hw;rw[hw,ae];have hW:=EB hall 3;have O1:=gw (l:=wR l 3) (a:=(.inr ():Int⊕Unit)) (b:=.inl 8) (p:=λx=>!decide (x<=5000)) (Lf:=λk i=>Ee N k (l,wR l 3,i)) (λk _=>by simp only[Ee.eq_2,hW.2,aO,af]) (λk i x hx hm=>by
     have:=aC hx;rw[hW.2]at this;simp only[Ee.eq_2,aN this,au,aE hx,ae,ai (show i<9223372036854775807by omega)];by_cases h5:x<=5000;.rw[aM (show¬x>5000by omega),aT h5];rfl
     .rw[aT (show x>5000by omega),aM h5];rfl) (k:=N) (by omega);rw[O1,oM,ae];by_cases h5:∀x,x∈wR l 3->x<=5000;.rw[ba λx hx=>aT (h5 x hx),ba ⟨h32,hall,h5⟩]
   .rw[bi λh=>h5 λx hx=>dv (h x hx),bi λh=>h5 h.2.2]
  .rw[bi λh=>hall λi hi=>dv (h i hi),bi λh=>hall h.2.1]
 .rw[bo (show(l.length:Int)>32by omega),au,bi λh=>h32 h.1]
def up(a s:Int):Int:=(s+a-1)/a*a
def Jo(s:Int):up 1 s=s:=by unfold up;omega
def yR(s:Int):up 8 s=(s+7)/8*8:=by unfold up;omega
def AL(a:Int):Prop:=a=1\/a=8
def pX{a s:Int}(ha:AL a)(hs:0<=s):s<=up a s/\up a s<=s+7:=by
 rcases ha with rfl|rfl;.rw[Jo];omega
 .rw[yR];omega
def Jp{a s C:Int}(ha:AL a)(hC:C%8=0)(hs:s<=C):up a s<=C:=by
 rcases ha with rfl|rfl;.rw[Jo];omega
 .rw[yR];omega
def ab3(n:Nat)(hn:n<18446744073709551616):(BitVec.ofNat 64 n&&&~~~(7#64)).toNat=n/8*8:=by
 have e:n/8*8=(n>>>3)<<<3:=by omega
 rw[e];refine Nat.eq_of_testBit_eq λk=>?_;rw[BitVec.toNat_and,Nat.testBit_and,ph,qr hn,BitVec.testBit_toNat,BitVec.getLsbD_not,Nat.testBit_shiftLeft,Nat.testBit_shiftRight];rcases ii k 64with h|h
 .rw[bo h,f8];by_cases h3:k<3
  .have:k=0\/k=1\/k=2:=by omega
   rcases this with rfl|rfl|rfl<;>simp
  .rw[bo (show k>=3by omega),f8,show 3+(k-3)=k by omega];have:(7#64).getLsbD k=false:=by rw[BitVec.getLsbD_ofNat,te (x:=7) (i:=k) (iv (show 7<2^3by omega) (pm (by omega) (by omega))),io]
   grind
 .have h1:n.testBit k=false:=te (iv hn (by rw[show 18446744073709551616=2^64by decide];exact pm (by omega) h))<;>grind
def sJ{a s:Int}(ha:AL a)(hs:0<=s/\s<=4000000):qm .i64 (av ((av (s+a))-(1:Int))) (av (a-(1:Int)))=up a s:=by
 rcases ha with rfl|rfl
 .rw[aQ (n:=s+1) (by omega),show s+1-1=s by omega,aQ (by omega),show av ((1:Int)-1)=0from by decide,Jo];obtain⟨n,rfl⟩:=dT hs.1;unfold qm;have e:(BitVec.ofInt IntKind.i64.bits ((n:Nat):Int)&&&~~~(BitVec.ofInt IntKind.i64.bits 0)).toNat=n:=by show(BitVec.ofInt 64 ((n:Nat):Int)&&&~~~(BitVec.ofInt 64 0)).toNat=n;rw[show~~~(BitVec.ofInt 64 0)=BitVec.allOnes 64by decide,BitVec.and_allOnes,nz,ph];omega
  rw[e];exact aQ (by omega)
 .rw[aQ (n:=s+8) (by omega),show s+8-1=s+7by omega,aQ (by omega),show av ((8:Int)-1)=7from by decide,yR];obtain⟨n,rfl⟩:=dT hs.1;unfold qm;have e:(BitVec.ofInt IntKind.i64.bits ((n:Int)+7)&&&~~~(BitVec.ofInt IntKind.i64.bits 7)).toNat=(n+7)/8*8:=by show(BitVec.ofInt 64 ((n:Int)+7)&&&~~~(BitVec.ofInt 64 7)).toNat=_;rw[show(n:Int)+7=((n+7:Nat):Int)by omega,nz];exact ab3 _ (by omega)
  rw[e,show IntKind.i64.wrap (((n+7)/8*8:Nat):Int)=(((n+7)/8*8:Nat):Int)from aQ (by omega)];omega
def Cs{N:Nat}{a s:Int}(ha:AL a)(hs:0<=s/\s<=4000000):OA N (s,a)=some (up a s):=by
 rw[OA.eq_1];rcases ha with rfl|rfl;.rw[show(!decide ((1:Int)=0))=true from rfl,aj,aQ (n:=s+1) (by omega),show s+1-1=s by omega,aQ (n:=s) (by omega),Int.tdiv_one,aQ (n:=s) (by omega),aQ (by omega),Jo,Int.mul_one]
 .rw[show(!decide ((8:Int)=0))=true from rfl,aj,aQ (n:=s+8) (by omega),show s+8-1=s+7by omega,aQ (n:=s+7) (by omega),Int.tdiv_eq_ediv_of_nonneg (by omega),aQ (n:=(s+7)/8) (by omega),aQ (by omega),yR]
abbrev Ex:=Int×Int
def fJ(x:List Ex)(i:Int):Ex:=x.getD i.toNat (0,1)
def gy(C:Int)(x:List Ex):Int->Int->List Field->List Int×Int×Int|s,a,[]=>([],s,a)|s,a,f::r=>let q:=gy C x (min C (up (fJ x f.2).2 s+(fJ x f.2).1)) (max a (fJ x f.2).2) r;(up (fJ x f.2).2 s::q.1,q.2.1,q.2.2)
def EX(C:Int)(x:List Ex):Prop:=∀e,e∈x->AL e.2/\0<=e.1/\e.1<=C
def EX.get{C:Int}(hC:0<=C){x:List Ex}(h:EX C x)(i:Int):AL (fJ x i).2/\0<=(fJ x i).1/\(fJ x i).1<=C:=by unfold fJ;rw[da];cases e:x[i.toNat]?with|none=>exact⟨.inl rfl,by show(0:Int)<=0;omega,hC⟩|some y=>exact h y (aX e)
def AL.max{a b:Int}(ha:AL a)(hb:AL b):AL (max a b):=by grind
def qo{C:Int}(hC:0<=C){x:List Ex}(hx:EX C x):∀(fs:List Field)(s a:Int),0<=s->s<=C->AL a->(0<=(gy C x s a fs).2.1/\(gy C x s a fs).2.1<=C)/\AL (gy C x s a fs).2.2/\(gy C x s a fs).1.length=fs.length|[],s,a,h0,hs,ha=>⟨⟨h0,hs⟩,ha,rfl⟩|f::r,s,a,h0,hs,ha=>by obtain⟨e1,e2,e3⟩:=hx.get hC f.2;have hu:=pX e1 h0;obtain⟨g1,g2,g3⟩:=qo hC hx r (min C (up (fJ x f.2).2 s+(fJ x f.2).1)) (max a (fJ x f.2).2) (by omega) (by omega) (ha.max e1);simp only[gy]<;>grind
def sK{x:List Ex}{i:Int}(h:0<=i/\i<x.length):idx x i=some (fJ x i):=by refine pS h.1 ?_;unfold fJ<;>grind
def QH{a b:List Ex}{i:Int}(h:0<=i/\i<a.length):fJ (a++b) i=fJ a i:=EA _ (by omega)
def YV{N:Nat}{x b:List Ex}(hx:EX 1048576 x){fs:List Field}(hl:fs.length<=1000)(c1 c2:Int):∀(r pre:List Field)(os:List Int)(s a:Int)(k:Nat),fs=pre++r->os.length=pre.length->(∀f,f∈r->0<=f.2/\f.2<x.length)->0<=s->s<=1048576->AL a->r.length<k->Kz N k (x++b,fs,(fs.length:Int),(pre.length:Int),c1,c2,os++List.replicate r.length 0,s,a)=some (c1,c2,os++(gy 1048576 x s a r).1,(gy 1048576 x s a r).2.1,(gy 1048576 x s a r).2.2):=by intro r;induction r with|nil=>intro pre os s a k he _ _ _ _ _ hk;obtain⟨k,rfl⟩:∃k',k=k'+1:=⟨k-1,by simp at hk;omega⟩;simp at he;subst he;rw[Kz.eq_2,aO];rfl|cons f r ih=>
 intro pre os s a k he ho hf h0 hs ha hk;obtain⟨k,rfl⟩:∃k',k=k'+1:=⟨k-1,by simp at hk;omega⟩;have hlen:pre.length+(r.length+1)=fs.length:=by rw[he];simp
 have hxf:idx fs (pre.length:Int)=some f:=by rw[he];exact sG _ _ _
 have hf2:=hf f cb;have hif:idx (x++b) f.2=some (fJ x f.2):=by rw[sK (by rw[bb];omega),QH hf2]
 obtain⟨e1,e2,e3⟩:=hx.get (by omega) f.2;have hu:=pX e1 h0;have huc:=Jp (C:=1048576) e1 (by omega) hs;have Io:(os++List.replicate (f::r).length (0:Int)).length=fs.length:=by simp[ho];omega
 have OZ:∀v:Int,(os++List.replicate (f::r).length (0:Int)).set pre.length v=(os++[v])++List.replicate r.length 0:=λv=>by rw[pD _ _ (by omega),fa,pu,show pre.length-os.length=0 by omega,List.set_cons_zero,bj];rfl
 have ih:=ih (pre++[f]) (os++[up (fJ x f.2).2 s]) (min 1048576 (up (fJ x f.2).2 s+(fJ x f.2).1)) (max a (fJ x f.2).2) k (by rw[he];simp) (by simp[ho]) (λg h=>hf g (db _ h)) (by omega) (by omega) (ha.max e1) (by simp at hk;omega);rw[Kz.eq_2,aN (by omega),au,hxf,ae,hif,ae,qn (by rw[Io];omega),aj,sJ e1 ⟨h0,by omega⟩,bd,mo (by rw[Io];omega),ae,OZ,qn (by simp[ho];omega),aj];have hg:(os++[up (fJ x f.2).2 s]++List.replicate r.length (0:Int))[pre.length]?=some (up (fJ x f.2).2 s):=by rw[bj,kw (by omega),ho,px];rfl
 rw[hg,ae,ai (by omega),aQ (by omega)];rw[show((pre++[f]).length:Int)=((pre.length+1:Nat):Int)by simp]at ih;rw[ih];simp only[gy];rw[bj];rfl
def YW{N:Nat}{x b:List Ex}(hN:1100<N)(hx:EX 1048576 x){fs:List Field}(hl:fs.length<=1000)(hf:∀f,f∈fs->0<=f.2/\f.2<x.length):OL N (x++b,fs)=some ((gy 1048576 x 0 1 fs).1,up (gy 1048576 x 0 1 fs).2.2 (gy 1048576 x 0 1 fs).2.1,(gy 1048576 x 0 1 fs).2.2):=by
 have h0:decide (0<=(fs.length:Int))=true:=bo (by omega);have hr:(decide (Int.toNat (fs.length:Int)<=Int.toNat (fs.length:Int))&&room (Int.toNat (fs.length:Int)) 8)=true:=by rw[bo (bc _),ak (by omega) (by omega)];rfl
 have:=YV (N:=N) (b:=b) hx hl 0 0 fs [] [] 0 1 N rfl rfl hf (by omega) (by omega) (.inl rfl) (by omega);simp at this;obtain⟨b1,b2,_⟩:=qo (C:=1048576) (by omega) hx fs 0 1 (by omega) (by omega) (.inl rfl);rw[OL.eq_1,h0,aj,aj,hr,aj,bd,this,ae];rw[sJ b2 ⟨b1.1,by omega⟩]
def yS{α β:Type}{g:α->β}{x:List α}{i:Int}{y:α}(h:idx x i=some y):idx (x.map g) i=some (g y):=by grind[idx]
def YX{N:Nat}{x:List Ex}(hx:EX 1000000 x){fs:List Field}(hl:fs.length<=1000):∀(r pre:List Field)(os:List Int)(s a:Int)(k:Nat),fs=pre++r->os.length=pre.length->(∀f,f∈r->0<=f.2/\f.2<x.length)->0<=s->s<=1000000->AL a->r.length<k->uG N k (x.map (·.1),x.map (·.2),fs,os,s,a,(pre.length:Int))=some (os++(gy 1000000 x s a r).1,(gy 1000000 x s a r).2.1,(gy 1000000 x s a r).2.2):=by intro r;induction r with|nil=>intro pre os s a k he _ _ _ _ _ hk;obtain⟨k,rfl⟩:∃k',k=k'+1:=⟨k-1,by simp at hk;omega⟩;simp at he;subst he;rw[uG.eq_2,aO,af];simp[gy,dt]|cons f r ih=>
 intro pre os s a k he ho hf h0 hs ha hk;obtain⟨k,rfl⟩:∃k',k=k'+1:=⟨k-1,by simp at hk;omega⟩;have hlen:pre.length+(r.length+1)=fs.length:=by rw[he];simp
 have hxf:idx fs (pre.length:Int)=some f:=by rw[he];exact sG _ _ _
 have hf2:=hf f cb;obtain⟨e1,e2,e3⟩:=hx.get (by omega) f.2;have hu:=pX e1 h0;have huc:=Jp (C:=1000000) e1 (by omega) hs;have hi:=sK hf2;have ih:=ih (pre++[f]) (os++[up (fJ x f.2).2 s]) (min 1000000 (up (fJ x f.2).2 s+(fJ x f.2).1)) (max a (fJ x f.2).2) k (by rw[he];simp) (by simp[ho]) (λg h=>hf g (db _ h)) (by omega) (by omega) (ha.max e1) (by simp at hk;omega);rw[uG.eq_2,aN (by omega),au,hxf,ae,yS (g:=λe:Ex=>e.2) hi,ae,Cs e1 ⟨h0,by omega⟩,ae,ak (by omega) (by omega),aj,yS (g:=λe:Ex=>e.1) hi,ae,ae,ai (by omega),aQ (by omega)];rw[show((pre++[f]).length:Int)=((pre.length+1:Nat):Int)by simp]at ih;rw[ih];simp only[gy];rw[bj];rfl
def YY{N:Nat}{x:List Ex}(hN:1100<N)(hx:EX 1000000 x){fs:List Field}(hl:fs.length<=1000)(hf:∀f,f∈fs->0<=f.2/\f.2<x.length):OB N (x.map (·.1),x.map (·.2),fs)=some ((gy 1000000 x 0 1 fs).1,up (gy 1000000 x 0 1 fs).2.2 (gy 1000000 x 0 1 fs).2.1,(gy 1000000 x 0 1 fs).2.2):=by have:=YX (N:=N) hx hl fs [] [] 0 1 N rfl rfl hf (by omega) (by omega) (.inl rfl) (by omega);obtain⟨b1,b2,_⟩:=qo (C:=1000000) (by omega) hx fs 0 1 (by omega) (by omega) (.inl rfl);have:=Jp (C:=1000000) b2 (by omega) b1.2;rw[OB.eq_1,‹uG N N _=_›,ae,Cs b2 ⟨b1.1,by omega⟩,ae]<;>grind
def qp(C:Int)(out:List Ex)(t:aB):Ex:=if t.1=1then(1,1)else if t.1=3then(16,8)else if t.1=7then(24,8)else if t.1=6then(min C (t.2.2.1*(fJ out t.2.1).1),(fJ out t.2.1).2)else if t.1=5then(up (gy C out 0 1 t.2.2.2).2.2 (gy C out 0 1 t.2.2.2).2.1,(gy C out 0 1 t.2.2.2).2.2)else(8,8)
def cS(C:Int)(l:List aB):Nat->List Ex|0=>[]|i+1=>cS C l i++[qp C (cS C l i) (ez l i)]
def fU(C:Int)(l:List aB):∀i,(cS C l i).length=i|0=>rfl|i+1=>by simp[cS,fU C l i]
def EC{a b C:Int}(ha:1<=a/\a<=16)(hb:0<=b/\b<=C)(_hC:0<=C):0<=a*b/\a*b<=16*C:=⟨ut (by omega) hb.1,vd ha.2 hb.2 hb.1 (by omega)⟩
def YZ{C:Int}(hC:1000<=C)(h8:C%8=0){out:List Ex}(ho:EX C out){n i:Nat}{t:aB}(ht:dm n i t):AL (qp C out t).2/\0<=(qp C out t).1/\(qp C out t).1<=C:=by
 unfold qp;have ha:=ho.get (by omega) t.2.1;obtain⟨b1,b2,_⟩:=qo (C:=C) (by omega) ho t.2.2.2 0 1 (by omega) (by omega) (.inl rfl);have hc:=Jp b2 h8 b1.2;have hu:=pX b2 b1.1;split;.exact⟨.inl rfl,by show(0:Int)<=1;omega,by show(1:Int)<=C;omega⟩
 .split;.exact⟨.inr rfl,by show(0:Int)<=16;omega,by show(16:Int)<=C;omega⟩
  .split;.exact⟨.inr rfl,by show(0:Int)<=24;omega,by show(24:Int)<=C;omega⟩
   .split;.rename_i h6;have:=EC (ht.arr h6).2 ha.2 (by omega)<;>grind
    .split;.grind
     .exact⟨.inr rfl,by show(0:Int)<=8;omega,by show(8:Int)<=C;omega⟩
def kM{C:Int}(hC:1000<=C)(h8:C%8=0){l:List aB}(ht:Ac l):∀i,i<=l.length->EX C (cS C l i)
 |0,_=>λe he=>by cases he|i+1,hi=>λe he=>by
  simp[cS,bm,ca]at he;rcases he with he|rfl;.exact kM hC h8 ht i (by omega) e he
  .exact YZ hC h8 (kM hC h8 ht i (by omega)) (ht i (by omega))
def aia{a:List Ex}{n i:Nat}{v:Ex}(ha:a.length=i)(hi:i<n):(a++List.replicate (n-i) (0,0)).set i v=(a++[v])++List.replicate (n-(i+1)) (0,0):=by rw[pD _ _ (by omega),show n-i=(n-(i+1))+1by omega,pu,show i-a.length=0 by omega,bj];rfl
def BJ{n i:Nat}{t:aB}(h:dm n i t):t.1=1\/t.1=2\/t.1=3\/t.1=4\/t.1=5\/t.1=6\/t.1=7:=by unfold dm at h<;>grind
def ED{N:Nat}{l:List aB}(hN:1100<N)(hl:l.length<=100)(ht:Ac l):SD N l=some (cS 1048576 l l.length):=by
 have h0:decide (0<=(l.length:Int))=true:=bo (by omega);have hr:(decide (Int.toNat (l.length:Int)<=Int.toNat (l.length:Int))&&room (Int.toNat (l.length:Int)) 16)=true:=by rw[bo (bc _),ak (by omega) (by omega)];rfl
 rw[SD.eq_1,h0,aj,hr,aj,bd];have key:=kK (n:=l.length) (Lf:=λk i=>bN N k (l,(l.length:Int),i,cS 1048576 l i.toNat++List.replicate (l.length-i.toNat) (0,0))) (g:=λ_=>some (cS 1048576 l l.length)) (λk=>by simp only[bN.eq_2,aO,af,bd,px,rh,dt]) (λk i hi ih=>by
   have e:idx l (i:Int)=some (ez l i):=cE _ hi;have ht':=ht i hi;have hff:=ht'.fields;have hE:=kM (C:=1048576) (by omega) (by omega) ht i (by omega);have Io:=fU 1048576 l i;have hnl:(cS 1048576 l i++List.replicate (l.length-i) ((0:Int),(0:Int))).length=l.length:=by simp[Io];omega
   have OZ:∀v:Ex,(cS 1048576 l i++List.replicate (l.length-i) (0,0)).set i v=(cS 1048576 l i++[v])++List.replicate (l.length-(i+1)) (0,0):=λv=>aia Io hi;obtain⟨w,hw⟩:=jq (l:=cS 1048576 l i++List.replicate (l.length-i) ((0:Int),(0:Int))) (i:=i) (by omega);simp only[bd]at ih⊢;rw[cS]at ih;have fin:∀v:Ex,v=qp 1048576 (cS 1048576 l i) (ez l i)->bN N k (l,(l.length:Int),((i+1:Nat):Int),(cS 1048576 l i++[v])++List.replicate (l.length-(i+1)) (0,0))=some (cS 1048576 l l.length):=by rintro _ rfl;exact ih
   have hin:gB (i:Int) (cS 1048576 l i++List.replicate (l.length-i) ((0:Int),(0:Int))).length=true:=by rw[hnl];exact cB hi
   simp only[bN.eq_2,aN hi,au,e,ae,bd,hin,hw,OZ,aj,ai (show i<9223372036854775807by omega),dL];unfold qp at fin;rcases BJ ht' with h|h|h|h|h|h|h;.rw[h];exact fin _ (by rw[ba h])
   .rw[h];exact fin _ (by rw[h];rfl)
   .rw[h];exact fin _ (by rw[h];rfl)
   .rw[h];exact fin _ (by rw[h];rfl)
   .rw[h]at fin⊢;have:=YW (N:=N) (b:=List.replicate (l.length-i) (0,0)) hN hE (fs:=(ez l i).2.2.2) (by omega) (λf hf=>by rw[Io];exact hff.2.2 f hf);have hq:(Option.bind (OL N (cS 1048576 l i++List.replicate (l.length-i) (0,0),(ez l i).2.2.2)) λy12=>bN N k (l,(l.length:Int),((i+1:Nat):Int),(cS 1048576 l i++[y12.2])++List.replicate (l.length-(i+1)) (0,0)))=some (cS 1048576 l l.length):=by rw[this,ae];exact fin _ rfl
    exact hq
   .have hp:=ht'.arr h;have ha:=hE.get (by omega) (ez l i).2.1;have hm:=EC hp.2 ha.2 (by omega);have hx:(cS 1048576 l i++List.replicate (l.length-i) ((0:Int),(0:Int)))[(ez l i).2.1.toNat]?=some (fJ (cS 1048576 l i) (ez l i).2.1):=by have:=(uv (sK (x:=cS 1048576 l i++List.replicate (l.length-i) ((0:Int),(0:Int))) (i:=(ez l i).2.1) (by rw[hnl];omega))).2;rw[this,QH (by rw[Io];exact hp.1)]
    have hq:(aK (gB (ez l i).2.1 (cS 1048576 l i++List.replicate (l.length-i) ((0:Int),(0:Int))).length) (Option.bind ((cS 1048576 l i++List.replicate (l.length-i) ((0:Int),(0:Int)))[(Int.toNat (ez l i).2.1)]?) λx10=>bN N k (l,(l.length:Int),((i+1:Nat):Int),(cS 1048576 l i++[((min (1048576:Int) (av ((ez l i).2.2.1*x10.1))),x10.2)])++List.replicate (l.length-(i+1)) (0,0))))=some (cS 1048576 l l.length):=by rw[qn (by rw[hnl];omega),aj,hx,ae];refine fin _ ?_;rw[aQ (by omega),h];rfl
    rw[h];exact hq
   .rw[h];exact fin _ (by rw[h];rfl)) N 0 (by omega) (by omega);have:bN N N (l,(l.length:Int),(0:Int),List.replicate l.length (0,0))=some (cS 1048576 l l.length):=by simpa[cS]using key
 rw[this];rfl
def EE{N:Nat}{l:List aB}(hN:1100<N)(hl:l.length<=100)(ht:Ac l):OC N l=some ((cS 1000000 l l.length).map (·.1),(cS 1000000 l l.length).map (·.2)):=by
 rw[OC.eq_1];have key:=kK (n:=l.length) (Lf:=λk i=>bO N k (l,(cS 1000000 l i.toNat).map (·.1),(cS 1000000 l i.toNat).map (·.2),i)) (g:=λ_=>some ((cS 1000000 l l.length).map (·.1),(cS 1000000 l l.length).map (·.2))) (λk=>by simp only[bO.eq_2,aO,af,bd]) (λk i hi ih=>by
   have e:idx l (i:Int)=some (ez l i):=cE _ hi;have ht':=ht i hi;have hff:=ht'.fields;have hE:=kM (C:=1000000) (by omega) (by omega) ht i (by omega);have Io:=fU 1000000 l i;simp only[bd]at ih⊢;rw[cS,gc,gc,f2,f2,lx,lx]at ih;have fin:∀a b:Int,(a,b)=qp 1000000 (cS 1000000 l i) (ez l i)->bO N k (l,(cS 1000000 l i).map (·.1)++[a],(cS 1000000 l i).map (·.2)++[b],((i+1:Nat):Int))=some ((cS 1000000 l l.length).map (·.1),(cS 1000000 l l.length).map (·.2)):=by intro a b h;rw[<-h]at ih;exact ih
   have r1:room (((cS 1000000 l i).map (·.1)).length+1) 8=true:=ak (by rw[lj];omega) (by omega);have r2:room (((cS 1000000 l i).map (·.2)).length+1) 8=true:=ak (by rw[lj];omega) (by omega);simp only[bO.eq_2,aN hi,au,e,ae,r1,r2,aj,ai (show i<9223372036854775807by omega)];unfold qp at fin;rcases BJ ht' with h|h|h|h|h|h|h;.rw[h];exact fin _ _ (by rw[ba h])
   .rw[h];exact fin _ _ (by rw[h];rfl)
   .rw[h];exact fin _ _ (by rw[h];rfl)
   .rw[h];exact fin _ _ (by rw[h];rfl)
   .have:=YY (N:=N) hN hE (fs:=(ez l i).2.2.2) (by omega) (λf hf=>by rw[Io];exact hff.2.2 f hf);have hq:(Option.bind (OB N ((cS 1000000 l i).map (·.1),(cS 1000000 l i).map (·.2),(ez l i).2.2.2)) λy11=>bO N k (l,(cS 1000000 l i).map (·.1)++[y11.2.1],(cS 1000000 l i).map (·.2)++[y11.2.2],((i+1:Nat):Int)))=some ((cS 1000000 l l.length).map (·.1),(cS 1000000 l l.length).map (·.2)):=by rw[this,ae];exact fin _ _ (by rw[h];rfl)
    rw[h];exact hq
   .have hp:=ht'.arr h;have ha:=hE.get (by omega) (ez l i).2.1;have hm:=EC hp.2 ha.2 (by omega);have hi2:idx (cS 1000000 l i) (ez l i).2.1=some (fJ (cS 1000000 l i) (ez l i).2.1):=sK (by rw[Io];exact hp.1);have hq:(Option.bind (idx ((cS 1000000 l i).map (·.1)) (ez l i).2.1) λx7=>(Option.bind (idx ((cS 1000000 l i).map (·.2)) (ez l i).2.1) λx9=>bO N k (l,(cS 1000000 l i).map (·.1)++[(min (1000000:Int) (av ((ez l i).2.2.1*x7)))],(cS 1000000 l i).map (·.2)++[x9],((i+1:Nat):Int))))=some ((cS 1000000 l l.length).map (·.1),(cS 1000000 l l.length).map (·.2)):=by rw[yS (g:=λe:Ex=>e.1) hi2,ae,yS (g:=λe:Ex=>e.2) hi2,ae,aQ (by omega)];exact fin _ _ (by rw[h];rfl)
    rw[h];exact hq
   .rw[h];exact fin _ _ (by rw[h];rfl)) N 0 (by omega) (by omega);have:bO N N (l,[],[],(0:Int))=some ((cS 1000000 l l.length).map (·.1),(cS 1000000 l l.length).map (·.2)):=by simpa[cS]using key
 grind
def Rel(a b:Ex):Prop:=(a.1=b.1\/(256<a.1/\256<b.1))/\a.2=b.2
def Mr{x y:List Ex}(hx:EX 1048576 x)(hy:EX 1000000 y)(h:∀i:Int,Rel (fJ x i) (fJ y i)):∀(fs:List Field)(s s' a:Int),(s=s'\/(256<s/\256<s'))->0<=s->0<=s'->s<=1048576->s'<=1000000->AL a->((gy 1048576 x s a fs).2.1=(gy 1000000 y s' a fs).2.1\/(256<(gy 1048576 x s a fs).2.1/\256<(gy 1000000 y s' a fs).2.1))/\(gy 1048576 x s a fs).2.2=(gy 1000000 y s' a fs).2.2|[],s,s',a,hs,_,_,_,_,_=>⟨hs,rfl⟩|f::r,s,s',a,hs,h0,h0',hc,Fl,ha=>by obtain⟨e1,e2,e3⟩:=hx.get (by omega) f.2;obtain⟨g1,g2,g3⟩:=hy.get (by omega) f.2;obtain⟨r1,r2⟩:=h f.2;simp[gy];rw[<-r2]at g1⊢;have u1:=pX e1 h0;have u2:=pX e1 h0';refine Mr hx hy h r _ _ _ ?_ (by omega) (by omega) (by omega) (by omega) (ha.max e1)<;>grind
def SY{x y:List Ex}(hx:EX 1048576 x)(hy:EX 1000000 y)(h:∀i:Int,Rel (fJ x i) (fJ y i)){n i:Nat}{t:aB}(ht:dm n i t):Rel (qp 1048576 x t) (qp 1000000 y t):=by
 unfold qp;split;.exact⟨.inl rfl,rfl⟩
 .split;.exact⟨.inl rfl,rfl⟩
  .split;.exact⟨.inl rfl,rfl⟩
   .split
    .rename_i h6;obtain⟨r1,r2⟩:=h t.2.1;have e:=hx.get (by omega) t.2.1;have g:=hy.get (by omega) t.2.1;have hl:=(ht.arr h6).2;have k1:(fJ x t.2.1).1<=t.2.2.1*(fJ x t.2.1).1:=by have:=Int.mul_le_mul_of_nonneg_right hl.1 e.2.1<;>omega
     have k2:(fJ y t.2.1).1<=t.2.2.1*(fJ y t.2.1).1:=by have:=Int.mul_le_mul_of_nonneg_right hl.1 g.2.1<;>omega
     refine⟨?_,r2⟩<;>grind
    .split
     .obtain⟨q1,q2⟩:=Mr hx hy h t.2.2.2 0 0 1 (.inl rfl) (by omega) (by omega) (by omega) (by omega) (.inl rfl);obtain⟨b1,b2,_⟩:=qo (C:=1048576) (by omega) hx t.2.2.2 0 1 (by omega) (by omega) (.inl rfl);obtain⟨c1,c2,_⟩:=qo (C:=1000000) (by omega) hy t.2.2.2 0 1 (by omega) (by omega) (.inl rfl);refine⟨?_,q2⟩;rcases q1 with q1|q1;.grind
      .have:=pX b2 b1.1;have:=pX c2 c1.1<;>grind
     .exact⟨.inl rfl,rfl⟩
def EF{a:List Ex}{v:Ex}(i:Int):fJ (a++[v]) i=if i.toNat<a.length then fJ a i else if i.toNat=a.length then v else(0,1):=by unfold fJ<;>grind
def u6{l:List aB}(ht:Ac l):∀i,i<=l.length->∀j:Int,Rel (fJ (cS 1048576 l i) j) (fJ (cS 1000000 l i) j)
 |0,_,j=>⟨.inl rfl,rfl⟩|i+1,hi,j=>by
  rw[cS,cS,EF,EF,fU,fU];split;.exact u6 ht i (by omega) j
  .split;.exact SY (kM (by omega) (by omega) ht i (by omega)) (kM (by omega) (by omega) ht i (by omega)) (u6 ht i (by omega)) (ht i (by omega))
   .exact⟨.inl rfl,rfl⟩
def exs(l:List aB):List Ex:=cS 1048576 l l.length
def sM(l:List aB):Prop:=∀i:Nat,i<l.length->(fJ (exs l) i).1<=256
def QI(l:List aB):(exs l).length=l.length:=fU _ _ _
def QJ{N:Nat}{l:List aB}(hN:1300<N)(hl:Mq l)(ht:kL l){i:Int}(hi:0<=i/\i<l.length):SE N (l,i)=some (if(fJ (exs l) i).1<=256then((fJ (exs l) i).1,(fJ (exs l) i).2,0)else(0,0,16)):=by have e:idx (exs l) i=some (fJ (exs l) i):=sK (by rw[QI];exact hi);rw[SE.eq_1,abP.eq_1,Ad hN hl,ba ht,ae,gT,af,bv (show¬i<0 by omega),af,ae,bv (show¬i>=(l.length:Int)by omega),af,ED (by omega) hl.1 ht.2.1,ae,show cS 1048576 l l.length=exs l from rfl,e,ae]<;>grind
def kj(l:List Field)(n:Nat):Prop:=∀f,f∈l->0<=f.2/\f.2<n
def fG(n:Nat)(f:Func):Prop:=mD f.1=true/\f.2.2.2.1.length<=16/\cF f.2.2.2.1/\(0<=f.2.1/\f.2.1<=f.2.2.2.1.length)/\(-1<=f.2.2.1/\f.2.2.1<n)/\kj f.2.2.2.1 n/\(1<=f.2.2.2.2.1.length/\f.2.2.2.2.1.length<=200)/\(∀x,x∈f.2.2.2.2.1->e8 x=true)/\ee f.2.2.2.2.2.1 f.2.2.2.2.1.length/\ee f.2.2.2.2.2.2 f.2.2.2.2.1.length
def u7(f:Func):Prop:=f.2.2.2.1.length<=300/\f.2.2.2.2.1.length<=1000/\f.2.2.2.2.2.1.length<=1000/\f.2.2.2.2.2.2.length<=1000/\(∀x,x∈f.2.2.2.2.1->okI x)/\CB f.2.2.2.2.2.1/\CB f.2.2.2.2.2.2
def Y0{N:Nat}{l:List Field}{ts:List aB}(hN:l.length<N)(hl:l.length<=1000)(a:List UInt8)(b c:Int)(d:List Field)(e:List Instr)(f g:List fA):wW N N (ts,l,(l.length:Int),(0:Int),a,b,c,d,e,f,g)=some (if kj l ts.length then .inr (a,b,c,d,e,f,g)else .inl false):=by
 have key:=gw (l:=l) (a:=(.inr (a,b,c,d,e,f,g):Bool⊕(List UInt8×Int×Int×List Field×List Instr×List fA×List fA))) (b:=.inl false) (p:=λx=>!decide (0<=x.2/\x.2<(ts.length:Int))) (Lf:=λk i=>wW N k (ts,l,(l.length:Int),i,a,b,c,d,e,f,g)) (λk _=>by simp only[wW.eq_2,aO,af]) (λk i x hx hm=>by
   simp only[wW.eq_2,aN (aC hx),au,aE hx,ae,ai (show i<9223372036854775807by have:=aC hx;omega),dL];by_cases h:0<=x.2/\x.2<(ts.length:Int);.rw[aT h,aM (show¬x.2<0 by omega),aM (show¬x.2>=(ts.length:Int)by omega)];rfl
   .rw[aM h];by_cases h1:x.2<0;.rw[aT h1];rfl
    .rw[aT (show x.2>=(ts.length:Int)by omega),pB];rfl) (k:=N) hN;rw[key,oM];simp only[dk];exact kv some (QB zt)
def O3{N:Nat}{l:List Field}{ts:List aB}(hN:l.length<N)(hl:l.length<=1000)(a:List UInt8)(b c:Int)(e:List Instr)(f g:List fA):uH N N (ts,(0:Int),a,b,c,l,e,f,g)=some (if kj l ts.length then .inr (a,b,c,l,e,f,g)else .inl false):=by
 have key:=gw (l:=l) (a:=(.inr (a,b,c,l,e,f,g):Bool⊕(List UInt8×Int×Int×List Field×List Instr×List fA×List fA))) (b:=.inl false) (p:=λx=>!decide (0<=x.2/\x.2<(ts.length:Int))) (Lf:=λk i=>uH N k (ts,i,a,b,c,l,e,f,g)) (λk _=>by simp only[uH.eq_2,aO,af]) (λk i x hx hm=>by
   simp only[uH.eq_2,aN (aC hx),au,aE hx,ae,ai (show i<9223372036854775807by have:=aC hx;omega),dL];by_cases h:0<=x.2/\x.2<(ts.length:Int);.rw[aT h,aM (show¬x.2<0 by omega),aM (show¬x.2>=(ts.length:Int)by omega)];rfl
   .rw[aM h];by_cases h1:x.2<0;.rw[aT h1];rfl
    .rw[aT (show x.2>=(ts.length:Int)by omega),pB];rfl) (k:=N) hN;rw[key,oM];simp only[dk];exact kv some (QB zt)
def ab4{N:Nat}{l:List Instr}(hN:l.length<N)(hl:l.length<=1000)(a:List UInt8)(b c:Int)(d:List Field)(e:List Instr)(f g:List fA):wX N N (l,(l.length:Int),(0:Int),a,b,c,d,e,f,g)=some (if∀x,x∈l->e8 x=true then .inr (a,b,c,d,e,f,g)else .inl false):=by
 have key:=gw (l:=l) (a:=(.inr (a,b,c,d,e,f,g):Bool⊕(List UInt8×Int×Int×List Field×List Instr×List fA×List fA))) (b:=.inl false) (p:=λx=>!e8 x) (Lf:=λk i=>wX N k (l,(l.length:Int),i,a,b,c,d,e,f,g)) (λk _=>by simp only[wX.eq_2,aO,af]) (λk i x hx hm=>by
  simp only[wX.eq_2,aN (aC hx),au,aE hx,ae,ai (show i<9223372036854775807by have:=aC hx;omega),vB];by_cases h:e8 x=true;.simp[h]
  .simp[h]) (k:=N) hN;rw[key,oM]
def SZ{N:Nat}{l:List Instr}(hN:l.length<N)(hl:l.length<=1000)(hx:∀x,x∈l->okI x)(a:List UInt8)(b c:Int)(d:List Field)(f g:List fA):uI N N ((0:Int),a,b,c,d,l,f,g)=some (if∀x,x∈l->e8 x=true then .inr (a,b,c,d,l,f,g)else .inl false):=by
 have key:=gw (l:=l) (a:=(.inr (a,b,c,d,l,f,g):Bool⊕(List UInt8×Int×Int×List Field×List Instr×List fA×List fA))) (b:=.inl false) (p:=λx=>!e8 x) (Lf:=λk i=>uI N k (i,a,b,c,d,l,f,g)) (λk _=>by simp only[uI.eq_2,aO,af]) (λk i x hx' hm=>by
  simp only[uI.eq_2,aN (aC hx'),au,aE hx',ae,ai (show i<9223372036854775807by have:=aC hx';omega),Er N (hx x hm)];by_cases h:e8 x=true;.simp[h]
  .simp[h]) (k:=N) hN;rw[key,oM]
def Ms{N:Nat}{ts:List aB}{f:Func}(hN:1300<N)(hf:u7 f):Xk N (ts,f.1,f.2.1,f.2.2.1,f.2.2.2.1,f.2.2.2.2.1,f.2.2.2.2.2.1,f.2.2.2.2.2.2)=some (decide (fG ts.length f)):=by
 obtain⟨nm,pa,re,sl,co,si,li⟩:=f;obtain⟨g1,g2,g3,g4,g5,g6,g7⟩:=hf;simp only at g1 g2 g3 g4 g5 g6 g7⊢;rw[Xk.eq_1,Ew (by omega),Mm (by omega) (by omega)];simp only[ae,dL];have no:∀{p:Prop},(fG ts.length (nm,pa,re,sl,co,si,li)->p)->¬p->decide (fG ts.length (nm,pa,re,sl,co,si,li))=false:=λh hp=>aM λh'=>hp (h h');by_cases hA:mD nm=true/\sl.length<=16/\cF sl/\(0<=pa/\pa<=sl.length)/\-1<=re/\re<ts.length
 .obtain⟨a1,a2,a3,a4,a5,a6⟩:=hA;rw[a1,aM (show¬(sl.length:Int)>16by omega),aT a3,aM (show¬pa<0 by omega),aM (show¬pa>(sl.length:Int)by omega),aM (show¬re< -1by omega),aM (show¬re>=(ts.length:Int)by omega),show(!true||(false||(!true||(false||(false||(false||false))))))=false from rfl,af,Y0 (by omega) (by omega),ae];by_cases hr:kj sl ts.length
  .rw[ba hr];simp only;rw[ab4 (by omega) (by omega),ae];by_cases hc:∀x,x∈co->e8 x=true
   .rw[ba hc];simp only;rw[vC (by omega) (by omega),vC (by omega) (by omega),ae,ae];by_cases hn:co.length<1\/co.length>200;.rw[ba hn,no (p:=1<=co.length/\co.length<=200) (λh=>h.2.2.2.2.2.2.1) (by omega)];rfl
    .rw[bi hn,bi hn];by_cases hs:ee si co.length
     .rw[ba hs];by_cases hv:ee li co.length;.rw[ba hv,aT (show fG ts.length (nm,pa,re,sl,co,si,li)from⟨a1,a2,a3,a4,⟨a5,a6⟩,hr,by simp only;omega,hc,hs,hv⟩)];rfl
      .rw[bi hv,no (λh=>h.2.2.2.2.2.2.2.2.2) hv];rfl
     .rw[bi hs,no (λh=>h.2.2.2.2.2.2.2.2.1) hs];rfl
   .rw[bi hc,no (λh=>h.2.2.2.2.2.2.2.1) hc]
  .rw[bi hr,no (λh=>h.2.2.2.2.2.1) hr]
 .rw[no (λh=>⟨h.1,h.2.1,h.2.2.1,h.2.2.2.1,h.2.2.2.2.1.1,h.2.2.2.2.1.2⟩) hA];have:(!mD nm||(decide ((sl.length:Int)>16)||(!decide (cF sl)||(decide (pa<0)||(decide (pa>(sl.length:Int))||(decide (re< -1)||decide (re>=(ts.length:Int))))))))=true:=by false_or_by_contra;rename_i h;apply hA;simp only[rb,jp,ll,mr,dk]at h;obtain⟨k1,k2,k3,k4,k5,k6,k7⟩:=h;exact⟨k1,by omega,k3,by omega,by omega,by omega⟩
  rw[this,au]
def FJ{N:Nat}{ts:List aB}{f:Func}(hN:1300<N)(hf:u7 f):VS N (ts,f.1,f.2.1,f.2.2.1,f.2.2.2.1,f.2.2.2.2.1,f.2.2.2.2.2.1,f.2.2.2.2.2.2)=some (decide (fG ts.length f)):=by
 obtain⟨nm,pa,re,sl,co,si,li⟩:=f;obtain⟨g1,g2,g3,g4,g5,g6,g7⟩:=hf;simp only at g1 g2 g3 g4 g5 g6 g7⊢;rw[VS.eq_1,Ey (by omega),uZ (by omega) (by omega)];simp only[ae,dL];have no:∀{p:Prop},(fG ts.length (nm,pa,re,sl,co,si,li)->p)->¬p->decide (fG ts.length (nm,pa,re,sl,co,si,li))=false:=λh hp=>aM λh'=>hp (h h');by_cases hA:mD nm=true/\((sl.length:Int)<=16/\cF sl)/\(0<=pa/\pa<=sl.length)/\(-1<=re/\re<ts.length)/\1<=co.length/\co.length<=200
 .obtain⟨a1,a3,a4,a5,a6⟩:=hA;rw[a1,aT a3,aM (show¬pa<0 by omega),aM (show¬pa>(sl.length:Int)by omega),aM (show¬re< -1by omega),aM (show¬re>=(ts.length:Int)by omega),aM (show¬(co.length:Int)<1by omega),aM (show¬(co.length:Int)>200by omega),show(!true||(!true||(false||(false||(false||(false||(false||false)))))))=false from rfl,af,O3 (by omega) (by omega),ae];by_cases hr:kj sl ts.length
  .rw[ba hr];simp only;rw[SZ (by omega) (by omega) g5,ae];by_cases hc:∀x,x∈co->e8 x=true
   .rw[ba hc];simp only;rw[HA (by omega) (by omega),HA (by omega) (by omega),ae,ae];by_cases hs:ee si co.length
    .rw[aT hs];by_cases hv:ee li co.length;.rw[aT hv,aT (show fG ts.length (nm,pa,re,sl,co,si,li)from⟨a1,by simp only;omega,a3.2,a4,a5,hr,a6,hc,hs,hv⟩)];rfl
     .rw[aM hv,no (λh=>h.2.2.2.2.2.2.2.2.2) hv];rfl
    .rw[aM hs,no (λh=>h.2.2.2.2.2.2.2.2.1) hs];rfl
   .rw[bi hc,no (λh=>h.2.2.2.2.2.2.2.1) hc]
  .rw[bi hr,no (λh=>h.2.2.2.2.2.1) hr]
 .rw[no (λh=>⟨h.1,⟨by have:=h.2.1;simp only at this;omega,h.2.2.1⟩,h.2.2.2.1,h.2.2.2.2.1,h.2.2.2.2.2.2.1⟩) hA];have:(!mD nm||(!decide ((sl.length:Int)<=16/\cF sl)||(decide (pa<0)||(decide (pa>(sl.length:Int))||(decide (re< -1)||(decide (re>=(ts.length:Int))||(decide ((co.length:Int)<1)||decide ((co.length:Int)>200))))))))=true:=by false_or_by_contra;rename_i h;apply hA;simp only[rb,jp,ll,mr,dk]at h;obtain⟨k1,k2,k3,k4,k5,k6,k7,k8⟩:=h;exact⟨k1,k2,by omega,by omega,by omega⟩
  rw[this,au]
def fn0:Func:=([],0,0,[],[],[],[])
def gW(l:List Func)(i:Nat):Func:=l.getD i fn0
def S0(l:List Func)(i:Nat):Prop:=∃j,j<i/\(gW l j).1=(gW l i).1
def Jq(n:Nat)(l:List Func)(i:Nat):Bool:=decide (fG n (gW l i))&&!decide (S0 l i)
def eN(ts:List aB)(xs:List (List UInt8))(fs:List Func):Prop:=kL ts/\xs.length<=32/\(1<=fs.length/\fs.length<=32)/\sM ts/\(∀s,s∈xs->s.length<=64)/\∀i,i<fs.length->Jq ts.length fs i=true
def O4(ts:List aB)(xs:List (List UInt8))(fs:List Func):Prop:=Mq ts/\xs.length<=50/\(∀s,s∈xs->s.length<=1000)/\fs.length<=50/\∀f,f∈fs->u7 f
def EG{l:List Func}{i:Nat}(hi:i<l.length):hasB ((l.take i).map (·.1)) (gW l i).1=decide (S0 l i):=by
 unfold hasB;by_cases h:S0 l i;.rw[bo h,ml];obtain⟨j,h1,h2⟩:=h;refine⟨(gW l j).1,i5.2 ⟨gW l j,?_,rfl⟩,bo h2.symm⟩;rw[gW,da,aw (by omega)];exact pr.2 ⟨j,by omega,rfl⟩
 .rw[bv h];cases ha:((l.take i).map (·.1)).any λq=>decide ((gW l i).1=q)with|false=>rfl|true=>exfalso;obtain⟨q,h1,h2⟩:=ml.1 ha;obtain⟨f,h3,rfl⟩:=i5.1 h1;obtain⟨j,h4,rfl⟩:=pr.1 h3;refine h ⟨j,by omega,?_⟩;rw[dv h2];rw[gW,da,aw (by omega)];rfl
def ab5{l:List Func}{i:Nat}(hi:i<l.length):l[i]?=some (gW l i):=by rw[gW,da,aw hi];rfl
def O5{l:List Func}{i:Nat}(hi:i<l.length)(h:¬S0 l i):tI ((l.take i).map (·.1)) (gW l i).1=(l.take (i+1)).map (·.1):=by unfold tI;rw[EG hi,bv h,take_succ (ab5 hi),gc];rfl
def ab6{N:Nat}{ts:List aB}{xs:List (List UInt8)}{fs:List Func}(hN:1300<N)(hm:O4 ts xs fs):Xq N (ts,xs,fs)=some (decide (eN ts xs fs)):=by
 obtain⟨m1,m2,m3,m4,m5⟩:=hm;have no:∀{p:Prop},(eN ts xs fs->p)->¬p->decide (eN ts xs fs)=false:=λh hp=>aM λh'=>hp (h h');have htl:=m1.1;rw[Xq.eq_1,Ad hN m1];simp[ae,dL];by_cases hA:kL ts/\xs.length<=32/\1<=fs.length/\fs.length<=32
 .obtain⟨a1,a2,a3,a4⟩:=hA;rw[ba a1,gT,aM (show¬(xs.length:Int)>32by omega),Jm (show¬fs.length=0 by omega),aM (show¬(fs.length:Int)>32by omega),show(false||(false||(false||false)))=false from rfl,af];have key:=gS (n:=ts.length) (a:=(.inr (ts,xs,fs):Bool⊕(List aB×List (List UInt8)×List Func))) (b:=.inl false) (q:=λi=>!decide ((fJ (exs ts) i).1<=256)) (Lf:=λk i=>K6 N k ((ts.length:Int),i,ts,xs,fs)) (λk _=>by simp only[K6.eq_2,aO,af]) (λk i hi _=>by
    simp only[K6.eq_2,aN hi,au,QJ hN m1 a1 (show 0<=(i:Int)/\(i:Int)<ts.length by omega),ae,ai (show i<9223372036854775807by omega)];by_cases h:(fJ (exs ts) i).1<=256;.rw[ba h,aT h];rfl
    .rw[bi h,aM h];rfl) (k:=N) (by omega);rw[key,sI,ae];by_cases hs:sM ts
  .rw[ba λi hi=>aT (hs i hi)];simp;have O1:=gw (l:=xs) (a:=(.inr (ts,xs,fs):Bool⊕(List aB×List (List UInt8)×List Func))) (b:=.inl false) (p:=λs=>!decide (s.length<=64)) (Lf:=λk i=>K7 N k (xs,(xs.length:Int),i,ts,xs,fs)) (λk _=>by simp only[K7.eq_2,aO,af]) (λk i x hx hm=>by
     simp only[K7.eq_2,aN (aC hx),au,aE hx,ae,ai (show i<9223372036854775807by have:=aC hx;omega)];by_cases h:x.length<=64;.rw[aT h,aM (show¬(x.length:Int)>64by omega)];rfl
     .rw[aM h,aT (show(x.length:Int)>64by omega)];rfl) (k:=N) (by omega);rw[O1,oM,ae];by_cases hx:∀s,s∈xs->s.length<=64
   .rw[ba λs h=>aT (hx s h)];simp;have ab7:=gS (n:=fs.length) (a:=(.inr ():Bool⊕Unit)) (b:=.inl false) (q:=λi=>!Jq ts.length fs i) (Lf:=λk i=>K8 N k (fs,(fs.length:Int),i,ts,xs,fs,(fs.take i.toNat).map (·.1))) (λk _=>by simp only[K8.eq_2,aO,af]) (λk i hi _=>by
      have e:idx fs (i:Int)=some (gW fs i):=cE _ hi;simp only[K8.eq_2,aN hi,au,e,ae,bd,EG hi,ai (show i<9223372036854775807by omega)];have hfk:=Ms (ts:=ts) hN (m5 _ (n6 fn0 hi));rw[show fs.getD i fn0=gW fs i from rfl]at hfk;rw[hfk,ae];unfold Jq;by_cases hd:S0 fs i;.rw[aT hd,dj,io];rfl
      .rw[O5 hi hd,aM hd];by_cases hk:fG ts.length (gW fs i);.rw[aT hk];rfl
       .rw[aM hk];rfl) (k:=N) (by omega);rw[show(0:Int).toNat=0from rfl,List.take_zero,lx]at ab7;rw[ab7,sI,ae];by_cases hf:∀i,i<fs.length->Jq ts.length fs i=true;.rw[ba hf,aT (show eN ts xs fs from⟨a1,a2,⟨a3,a4⟩,hs,hx,hf⟩)]
    .rw[bi hf,no (λh=>h.2.2.2.2.2) hf]
   .rw[bi λh=>hx λs hs=>dv (h s hs),no (λh=>h.2.2.2.2.1) hx]
  .rw[bi λh=>hs λi hi=>dv (h i hi),no (λh=>h.2.2.2.1) hs]
 .rw[no (λh=>⟨h.1,h.2.1,h.2.2.1⟩) hA]<;>grind
def ab8{x:List Ex}{i:Nat}(h:i<x.length):(x.map (·.1))[i]?=some (fJ x i).1:=by rw[fi,fJ,bd,da,aw h];rfl
def S1{N:Nat}{ts:List aB}{xs:List (List UInt8)}{fs:List Func}(hN:1300<N)(hm:O4 ts xs fs):VX N (ts,xs,fs)=some (decide (eN ts xs fs)):=by
 obtain⟨m1,m2,m3,m4,m5⟩:=hm;have no:∀{p:Prop},(eN ts xs fs->p)->¬p->decide (eN ts xs fs)=false:=λh hp=>aM λh'=>hp (h h');have htl:=m1.1;rw[VX.eq_1,O2 hN m1];simp[ae,dL];by_cases hA:kL ts/\xs.length<=32/\1<=fs.length/\fs.length<=32
 .obtain⟨a1,a2,a3,a4⟩:=hA;rw[ba a1,gT,aM (show¬(xs.length:Int)>32by omega),aM (show¬(fs.length:Int)<1by omega),aM (show¬(fs.length:Int)>32by omega),show(false||(false||(false||false)))=false from rfl,af,EE (by omega) htl a1.2.1,ae];have hlen:((cS 1000000 ts ts.length).map (·.1)).length=ts.length:=by rw[lj,fU]
  have key:=gS (n:=ts.length) (a:=(.inr (ts,xs,fs):Bool⊕(List aB×List (List UInt8)×List Func))) (b:=.inl false) (q:=λi=>!decide ((fJ (exs ts) i).1<=256)) (Lf:=λk i=>Eg N k ((cS 1000000 ts ts.length).map (·.1),i,ts,xs,fs)) (λk _=>by simp only[Eg.eq_2,hlen,aO,af]) (λk i hi _=>by
    have e:idx ((cS 1000000 ts ts.length).map (·.1)) (i:Int)=some (fJ (cS 1000000 ts ts.length) i).1:=aE (ab8 (by rw[fU];exact hi));simp only[Eg.eq_2,hlen,aN hi,au,e,ae,ai (show i<9223372036854775807by omega)];obtain⟨r1,_⟩:=u6 a1.2.1 ts.length (bc _) (i:Int);rw[show cS 1048576 ts ts.length=exs ts from rfl]at r1;by_cases h:(fJ (exs ts) i).1<=256;.rw[aM (show¬(fJ (cS 1000000 ts ts.length) i).1>256by omega),aT h];rfl
    .rw[aT (show(fJ (cS 1000000 ts ts.length) i).1>256by omega),aM h];rfl) (k:=N) (by omega);rw[key,sI,ae];by_cases hs:sM ts
  .rw[ba λi hi=>aT (hs i hi)];simp;have O1:=gw (l:=xs) (a:=(.inr (ts,xs,fs):Bool⊕(List aB×List (List UInt8)×List Func))) (b:=.inl false) (p:=λs=>!decide (s.length<=64)) (Lf:=λk i=>Eh N k (i,ts,xs,fs)) (λk _=>by simp only[Eh.eq_2,aO,af]) (λk i x hx hm=>by
     simp only[Eh.eq_2,aN (aC hx),au,aE hx,ae,ai (show i<9223372036854775807by have:=aC hx;omega)];by_cases h:x.length<=64;.rw[aT h,aM (show¬(x.length:Int)>64by omega)];rfl
     .rw[aM h,aT (show(x.length:Int)>64by omega)];rfl) (k:=N) (by omega);rw[O1,oM,ae];by_cases hx:∀s,s∈xs->s.length<=64
   .rw[ba λs h=>aT (hx s h)];simp;have ab7:=gS (n:=fs.length) (a:=(.inr ():Bool⊕Unit)) (b:=.inl false) (q:=λi=>!Jq ts.length fs i) (Lf:=λk i=>uJ N k (i,ts,xs,fs)) (λk _=>by simp only[uJ.eq_2,aO,af]) (λk i hi _=>by
      have e:idx fs (i:Int)=some (gW fs i):=cE _ hi;have hfk:=FJ (ts:=ts) hN (m5 _ (n6 fn0 hi));rw[show fs.getD i fn0=gW fs i from rfl]at hfk;simp only[uJ.eq_2,aN hi,au,e,ae,hfk];unfold Jq;by_cases hk:fG ts.length (gW fs i)
      .rw[aT hk,dj,af,f8];have inner:=gS (n:=i) (a:=(.inr ((i:Int),ts,xs,fs):Bool⊕(Int×List aB×List (List UInt8)×List Func))) (b:=.inl false) (q:=λj=>(gW fs j).1==(gW fs i).1) (Lf:=λk j=>Eq N k ((i:Int),j,ts,xs,fs)) (λk _=>by simp only[Eq.eq_2,aO,af]) (λk j hj _=>by have ej:idx fs (j:Int)=some (gW fs j):=cE _ (by omega);simp only[Eq.eq_2,aN hj,au,e,ej,ae,ai (show j<9223372036854775807by omega)];by_cases hb:((gW fs j).1==(gW fs i).1)=true<;>simp[hb]) (k:=N) (by omega);rw[inner,ae];by_cases hd:S0 fs i
       .rw[ba,aT hd];.rfl
        .obtain⟨j,h1,h2⟩:=hd;exact⟨j,h1,by simpa using h2⟩
       .rw[bi,aM hd];.simp only;rw[ai (by omega)];rfl
        .rintro⟨j,h1,h2⟩;exact hd ⟨j,h1,by simpa using h2⟩
      .rw[aM hk];rfl) (k:=N) (by omega);rw[ab7,sI,ae];by_cases hf:∀i,i<fs.length->Jq ts.length fs i=true;.rw[ba hf,aT (show eN ts xs fs from⟨a1,a2,⟨a3,a4⟩,hs,hx,hf⟩)]
    .rw[bi hf,no (λh=>h.2.2.2.2.2) hf]
   .rw[bi λh=>hx λs hs=>dv (h s hs),no (λh=>h.2.2.2.2.1) hx]
  .rw[bi λh=>hs λi hi=>dv (h i hi),no (λh=>h.2.2.2.1) hs]
 .rw[no (λh=>⟨h.1,h.2.1,h.2.2.1⟩) hA]<;>grind
def nc(f:Field):List Int:=said f.1++V f.2.toNat
def oN(l:List Field):List Int:=V l.length++l.flatMap nc
def tj(t:aB):List Int:=[t.1]++if t.1=4\/t.1=7then V t.2.1.toNat else if t.1=6then V t.2.1.toNat++V t.2.2.1.toNat else if t.1=5then oN t.2.2.2else[]
def tn(f:Func):List Int:=said f.1++(V f.2.1.toNat++(V (JP f.2.2.1)++(oN f.2.2.2.1++(V f.2.2.2.2.1.length++(f.2.2.2.2.1.flatMap encI++(th f.2.2.2.2.2.1++th f.2.2.2.2.2.2))))))
def xg(ts:List aB)(xs:List (List UInt8))(fs:List Func):List Int:=V ts.length++(ts.flatMap tj++(V xs.length++(xs.flatMap said++(V fs.length++fs.flatMap tn))))
def kF{N n:Nat}(hN:20<N)(hn:n<=1000000):iD N (aS (n:Int))=some (V n):=by rw[nZ (by omega),yO hN (by omega)]
def pY{f:Field}(h:mD f.1=true):(nc f).length<=40:=by have:=mZ h;have:=n4 f.1;have:=dg f.2.toNat;rw[nc,bb];omega
def FW(l:List Field):Prop:=l.length<=16/\∀f,f∈l->mD f.1=true/\0<=f.2/\f.2<=1000
def yT{l:List Field}(h:cF l):∀f,f∈l->mD f.1=true:=λf hf=>by obtain⟨i,hi,rfl⟩:=pV ([],0) hf;have:=h i hi;unfold okF at this;simp at this;exact this.1
def qq{l:List Field}(h:FW l):(oN l).length<=700:=by have:=dg l.length;have:=iI (l:=l) (enc:=nc) (m:=40) λf hf=>pY (h.2 f hf).1;have:=h.1;rw[oN,bb];omega
def dm.FW{n i:Nat}{t:aB}(h:dm n i t)(hi:i<=32)(h5:t.1=5):FW t.2.2.2:=by have hf:=h.fields;unfold dm at h;rw[bi (by omega),bi (by omega),bi (by omega),ba h5]at h;have hn:=yT h.2.2.2.1;exact⟨by omega,λf hm=>⟨hn f hm,by have:=hf.2.2 f hm;omega⟩⟩
def Ae{n i:Nat}{t:aB}(h:dm n i t)(hi:i<=32):(tj t).length<=800:=by
 have:=dg t.2.1.toNat;have:=dg t.2.2.1.toNat;unfold tj;rw[bb,dq];split;.omega
 .split;.grind
  .split;.have:=qq (h.FW hi ‹_›);omega
   .simp
def fG.FW{n:Nat}{f:Func}(h:fG n f)(hn:n<=32):FW f.2.2.2.1:=⟨h.2.1,λg hg=>⟨yT h.2.2.1 g hg,by have:=h.2.2.2.2.2.1 g hg;omega⟩⟩
def Af{n:Nat}{f:Func}(h:fG n f)(hn:n<=32)(hf:u7 f):(tn f).length<=30000:=by have:=dg f.2.1.toNat;have:=dg (JP f.2.2.1);have:=dg f.2.2.2.2.1.length;have:=qq (h.FW hn);have:=n4 f.1;have:=mZ h.1;have Jr:=h.2.2.2.2.2.2.1;have:=iI (l:=f.2.2.2.2.1) (enc:=encI) (m:=31) λx _=>pU x;have:=oU f.2.2.2.2.2.1;have:=oU f.2.2.2.2.2.2;have:=pW h.2.2.2.2.2.2.2.2.1;have:=pW h.2.2.2.2.2.2.2.2.2;simp only[tn,bb];omega
section
variable{N:Nat}
def S3(hN:1300<N){l:List Field}(hl:FW l){s:List Int}(hs:s.length<=4000000)(a:List aB)(b:List (List UInt8))(c:List Func):wY N N (l,(l.length:Int),(0:Int),s,a,b,c)=some (s++l.flatMap nc,a,b,c):=by have FK:=hl.1;refine iC (l:=l) (enc:=nc) (g:=λs=>(s,a,b,c)) (B:=5000000) (m:=40) (Lf:=λk i s=>wY N k (l,(l.length:Int),i,s,a,b,c)) (λk s=>by simp only[wY.eq_2,aO,af]) (λk i x s hx hm hB=>?_) (λx hx=>pY (hl.2 x hx).1) (by omega) (by omega);have hx2:=hl.2 x hm;have hnl:=mZ hx2.1;have v1:=dg x.1.length;have v2:=dg x.2.toNat;simp only[wY.eq_2,aN (aC hx),au,aE hx,ae,kF (show 20<N by omega) (show x.1.length<=1000000by omega),n5 (show 20<N by omega) (show 0<=x.2/\x.2<=9223372036854775807by omega),ak (show s.length+(V x.1.length).length<=10000000by omega) (show 1<=1000by omega),ak (show(s++V x.1.length).length+(bP x.1).length<=10000000by grind[bP,V]) (show 1<=1000by omega),ak (show((s++V x.1.length)++bP x.1).length+(V x.2.toNat).length<=10000000by grind[bP,V]) (show 1<=1000by omega),aj,ai (show i<9223372036854775807by grind)];simp[nc,said,bj]
def Y1(hN:1300<N){l:List Field}(hl:FW l){s:List Int}(hs:s.length<=4000000)(nm:List UInt8)(pa re:Int)(sl:List Field)(co:List Instr)(si li:List fA):w8 N N (l,(l.length:Int),(0:Int),s,nm,pa,re,sl,co,si,li)=some (s++l.flatMap nc,nm,pa,re,sl,co,si,li):=by have FK:=hl.1;refine iC (l:=l) (enc:=nc) (g:=λs=>(s,nm,pa,re,sl,co,si,li)) (B:=5000000) (m:=40) (Lf:=λk i s=>w8 N k (l,(l.length:Int),i,s,nm,pa,re,sl,co,si,li)) (λk s=>by simp only[w8.eq_2,aO,af]) (λk i x s hx hm hB=>?_) (λx hx=>pY (hl.2 x hx).1) (by omega) (by omega);have hx2:=hl.2 x hm;have hnl:=mZ hx2.1;have v1:=dg x.1.length;have v2:=dg x.2.toNat;simp only[w8.eq_2,aN (aC hx),au,aE hx,ae,kF (show 20<N by omega) (show x.1.length<=1000000by omega),n5 (show 20<N by omega) (show 0<=x.2/\x.2<=9223372036854775807by omega),ak (show s.length+(V x.1.length).length<=10000000by omega) (show 1<=1000by omega),ak (show(s++V x.1.length).length+(bP x.1).length<=10000000by grind[bP,V]) (show 1<=1000by omega),ak (show((s++V x.1.length)++bP x.1).length+(V x.2.toNat).length<=10000000by grind[bP,V]) (show 1<=1000by omega),aj,ai (show i<9223372036854775807by grind)];simp[nc,said,bj]
def EH(hN:1300<N){l:List Field}(hl:FW l):Sp N l=some (oN l):=by have FK:=hl.1;have v0:=dg l.length;rw[Sp.eq_1,oT (by omega) (by omega),ae];have:=iC (l:=l) (enc:=nc) (g:=id) (B:=5000000) (m:=40) (Lf:=λk i s=>Fd N k (l,i,s)) (λk s=>by simp only[Fd.eq_2,aO,af];rfl) (λk i x s hx hm hB=>by have hx2:=hl.2 x hm;have hnl:=mZ hx2.1;have v1:=n4 x.1;have v2:=dg x.2.toNat;simp only[Fd.eq_2,aN (aC hx),au,aE hx,ae,Jk (show 20<N by omega) (show x.1.length<=1000000by omega),pT (show 20<N by omega) (show 0<=x.2/\x.2<=9223372036854775807by omega),ak (show s.length+(said x.1).length<=10000000by omega) (show 1<=1000by omega),ak (show(s++said x.1).length+(V x.2.toNat).length<=10000000by rw[bb];omega) (show 1<=1000by omega),aj,ai (show i<9223372036854775807by have:=aC hx;omega)];simp only[nc,bj]) (λx hx=>pY (hl.2 x hx).1) (k:=N) (s:=V l.length) (by omega) (by omega);rw[this];rfl
def TW(ts:List aB):Prop:=ts.length<=32/\∀t,t∈ts->∃n i,i<=32/\n<=32/\dm n i t
def kL.TW{ts:List aB}(h:kL ts):TW ts:=⟨h.1,λt ht=>by obtain⟨i,hi,rfl⟩:=pV ty0 ht;exact⟨ts.length,i,by have:=h.1;omega,h.1,h.2.1 i hi⟩⟩
def Y2(hN:1300<N){l:List aB}(hl:TW l){s:List Int}(hs:s.length<=1000000)(a:List aB)(b:List (List UInt8))(c:List Func):eL N N (l,(l.length:Int),(0:Int),s,a,b,c)=some (a,b,c,s++l.flatMap tj):=by
 have FK:=hl.1;refine iC (l:=l) (enc:=tj) (g:=λs=>(a,b,c,s)) (B:=2000000) (m:=800) (Lf:=λk i s=>eL N k (l,(l.length:Int),i,s,a,b,c)) (λk s=>by simp only[eL.eq_2,aO,af]) (λk i t s hx hm hB=>?_) (λx hx=>by obtain⟨n,i,hi,_,ht⟩:=hl.2 x hx;exact Ae ht hi) (by omega) (by omega);obtain⟨n,j,hj,hn,ht⟩:=hl.2 t hm;have v1:=dg t.2.1.toNat;have v2:=dg t.2.2.1.toNat;have v3:=dg t.2.2.2.length;have r0:room (s.length+1) 1=true:=ak (by omega) (by omega);have r1:room ((s++[t.1]).length+(V t.2.1.toNat).length) 1=true:=ak (by simp only[bb,dq];omega) (by omega);have r2:room (((s++[t.1])++V t.2.1.toNat).length+(V t.2.2.1.toNat).length) 1=true:=ak (by simp only[bb,dq];omega) (by omega);have r3:room ((s++[t.1]).length+(V t.2.2.2.length).length) 1=true:=ak (by simp only[bb,dq];omega) (by omega);simp only[eL.eq_2,aN (aC hx),au,aE hx,ae,r0,aj,ai (show i<9223372036854775807by grind),dL,Cq];unfold tj;by_cases Y3:t.1=4\/t.1=7;.have hp:=ht.ptr Y3;rw[ba Y3,show(decide (t.1=4)||decide (t.1=7))=true by simpa using Y3,au,n5 (by omega) (by omega),ae,r1,aj,bj]
 .rw[bi Y3,show(decide (t.1=4)||decide (t.1=7))=false by simpa using Y3,af];by_cases h6:t.1=6;.have hp:=ht.arr h6;rw[ba h6,bo h6,au,n5 (by omega) (by omega),ae,r1,aj,n5 (by omega) (by omega),ae,r2,aj,bj,bj]
  .rw[bi h6,bv h6,af];by_cases h5:t.1=5;.have hw:=ht.FW hj h5;rw[ba h5,bo h5,au,kF (by omega) (by have:=hw.1;omega),ae,r3,aj,S3 hN hw (by simp[bb,dq];omega),ae,oN,bj,bj]
   grind
def S4(hN:1300<N){l:List aB}(hl:TW l){s:List Int}(hs:s.length<=1000000)(b:List (List UInt8))(c:List Func):iS N N ((0:Int),l,b,c,s)=some (l,b,c,s++l.flatMap tj):=by
 have FK:=hl.1;refine iC (l:=l) (enc:=tj) (g:=λs=>(l,b,c,s)) (B:=2000000) (m:=800) (Lf:=λk i s=>iS N k (i,l,b,c,s)) (λk s=>by simp only[iS.eq_2,aO,af]) (λk i t s hx hm hB=>?_) (λx hx=>by obtain⟨n,i,hi,_,ht⟩:=hl.2 x hx;exact Ae ht hi) (by omega) (by omega);obtain⟨n,j,hj,hn,ht⟩:=hl.2 t hm;have v1:=dg t.2.1.toNat;have v2:=dg t.2.2.1.toNat;have r0:room (s.length+1) 1=true:=ak (by omega) (by omega);have r1:room ((s++[t.1]).length+(V t.2.1.toNat).length) 1=true:=ak (by simp only[bb,dq];omega) (by omega);have r2:room (((s++[t.1])++V t.2.1.toNat).length+(V t.2.2.1.toNat).length) 1=true:=ak (by simp only[bb,dq];omega) (by omega);simp only[iS.eq_2,aN (aC hx),au,aE hx,ae,r0,aj,ai (show i<9223372036854775807by grind),dL,Cq];unfold tj;by_cases Y3:t.1=4\/t.1=7;.have hp:=ht.ptr Y3;rw[ba Y3,show(decide (t.1=4)||decide (t.1=7))=true by simpa using Y3,au,pT (by omega) (by omega),ae,r1,aj,bj]
 .rw[bi Y3,show(decide (t.1=4)||decide (t.1=7))=false by simpa using Y3,af];by_cases h6:t.1=6;.have hp:=ht.arr h6;rw[ba h6,bo h6,au,pT (by omega) (by omega),ae,r1,aj,pT (by omega) (by omega),ae,r2,aj,bj,bj]
  .rw[bi h6,bv h6,af];by_cases h5:t.1=5;.have hw:=ht.FW hj h5;have hfl:=qq hw;rw[ba h5,bo h5,au,EH hN hw,ae,ak (by simp[bb,dq];omega) (by omega),aj,bj]
   grind
def XW(xs:List (List UInt8)):Prop:=xs.length<=32/\∀s,s∈xs->s.length<=64
def Y4(hN:1300<N){l:List (List UInt8)}(hl:XW l){s:List Int}(hs:s.length<=1000000)(a:List aB)(b:List (List UInt8))(c:List Func):wZ N N (l,(l.length:Int),(0:Int),a,b,c,s)=some (a,b,c,s++l.flatMap said):=by have FK:=hl.1;refine iC (l:=l) (enc:=said) (g:=λs=>(a,b,c,s)) (B:=2000000) (m:=100) (Lf:=λk i s=>wZ N k (l,(l.length:Int),i,a,b,c,s)) (λk s=>by simp only[wZ.eq_2,aO,af]) (λk i x s hx hm hB=>?_) (λx hx=>by have:=n4 x;have:=hl.2 x hx;omega) (by omega) (by omega);have h64:=hl.2 x hm;have v1:=dg x.length;simp only[wZ.eq_2,aN (aC hx),au,aE hx,ae,kF (show 20<N by omega) (show x.length<=1000000by omega),ak (show s.length+(V x.length).length<=10000000by omega) (show 1<=1000by omega),ak (show(s++V x.length).length+(bP x).length<=10000000by grind[bP,V]) (show 1<=1000by omega),aj,ai (show i<9223372036854775807by grind)];simp[said,bj]
def S5(hN:1300<N){l:List (List UInt8)}(hl:XW l){s:List Int}(hs:s.length<=1000000)(a:List aB)(c:List Func):uK N N ((0:Int),a,l,c,s)=some (a,l,c,s++l.flatMap said):=by have FK:=hl.1;refine iC (l:=l) (enc:=said) (g:=λs=>(a,l,c,s)) (B:=2000000) (m:=100) (Lf:=λk i s=>uK N k (i,a,l,c,s)) (λk s=>by simp only[uK.eq_2,aO,af]) (λk i x s hx hm hB=>?_) (λx hx=>by have:=n4 x;have:=hl.2 x hx;omega) (by omega) (by omega);have h64:=hl.2 x hm;have v1:=n4 x;simp only[uK.eq_2,aN (aC hx),au,aE hx,ae,Jk (show 20<N by omega) (show x.length<=1000000by omega),ak (show s.length+(said x).length<=10000000by omega) (show 1<=1000by omega),aj,ai (show i<9223372036854775807by grind)]
def CW(l:List Instr):Prop:=l.length<=200/\∀x,x∈l->e8 x=true/\okI x
def ab9(hN:1300<N){l:List Instr}(hl:CW l){s:List Int}(hs:s.length<=4000000)(nm:List UInt8)(pa re:Int)(sl:List Field)(co:List Instr)(si li:List fA):w9 N N (l,(l.length:Int),(0:Int),s,nm,pa,re,sl,co,si,li)=some (.inr (s++l.flatMap encI,nm,pa,re,sl,co,si,li)):=by have FK:=hl.1;refine iC (l:=l) (enc:=encI) (g:=λs=>(.inr (s,nm,pa,re,sl,co,si,li):(Int×List Int)⊕(List Int×List UInt8×Int×Int×List Field×List Instr×List fA×List fA))) (B:=5000000) (m:=31) (Lf:=λk i s=>w9 N k (l,(l.length:Int),i,s,nm,pa,re,sl,co,si,li)) (λk s=>by simp only[w9.eq_2,aO,af]) (λk i x s hx hm hB=>?_) (λx hx=>pU x) (by omega) (by omega);have hx2:=hl.2 x hm;have v1:=pU x;simp only[w9.eq_2,aN (aC hx),au,aE hx,ae,ab1 (N:=N) (by omega) hx2.2 hx2.1,gT,af,ak (show s.length+(encI x).length<=10000000by omega) (show 1<=1000by omega),aj,ai (show i<9223372036854775807by grind)]
def Y5(hN:1300<N){l:List Instr}(hl:CW l){s:List Int}(hs:s.length<=4000000)(i0:Int)(a:List aB)(b:List (List UInt8))(c:List Func)(nm:List UInt8)(pa re:Int)(sl:List Field)(si li:List fA):uL N N (i0,(0:Int),a,b,c,s,nm,pa,re,sl,l,si,li)=some (i0,a,b,c,s++l.flatMap encI,nm,pa,re,sl,l,si,li):=by have FK:=hl.1;refine iC (l:=l) (enc:=encI) (g:=λs=>(i0,a,b,c,s,nm,pa,re,sl,l,si,li)) (B:=5000000) (m:=31) (Lf:=λk i s=>uL N k (i0,i,a,b,c,s,nm,pa,re,sl,l,si,li)) (λk s=>by simp only[uL.eq_2,aO,af]) (λk i x s hx hm hB=>?_) (λx hx=>pU x) (by omega) (by omega);have hx2:=hl.2 x hm;have v1:=pU x;simp only[uL.eq_2,aN (aC hx),au,aE hx,ae,OX (N:=N) (by omega) hx2.2 hx2.1,ak (show s.length+(encI x).length<=10000000by omega) (show 1<=1000by omega),aj,ai (show i<9223372036854775807by grind)]
def FnW(l:List Func):Prop:=l.length<=32/\∀f,f∈l->u7 f/\i64 f.2.2.1/\∃n,n<=32/\fG n f
def HF{x:List fA}{j:Int}{l2:List (List fA)}(hN:1300<N){n:Nat}(h1:ee x n)(g1:x.length<=1000)(o1:CB x){s:List Int}(hs:s.length<=4500000){co:List Instr}(hc:co.length=n)(hn:1<=n/\n<=200)(nm:List UInt8)(pa re:Int)(sl:List Field)(si li:List fA)(hj:decide (j<2)=true)(hx:idx l2 j=some x){j2:Int}(hj2:av (j+1)=j2)(k:Nat):jf N (k+1) (l2,(2:Int),j,s,nm,pa,re,sl,co,si,li)=jf N k (l2,(2:Int),j2,s++th x,nm,pa,re,sl,co,si,li):=by subst hc;have e1:=ab2 (N:=N) (by omega) g1 h1 hn.1 hn.2 o1;have l1:=oU x;rw[jf.eq_2,hj,au,hx,ae,e1,ae];simp[gT,af,ak (show s.length+(th x).length<=10000000by omega) (show 1<=1000by omega),aj,hj2]
def acd(hN:1300<N){si li:List fA}{n:Nat}(h1:ee si n)(h2:ee li n)(g1:si.length<=1000)(g2:li.length<=1000)(o1:CB si)(o2:CB li){s:List Int}(hs:s.length<=4000000){co:List Instr}(hc:co.length=n)(hn:1<=n/\n<=200)(nm:List UInt8)(pa re:Int)(sl:List Field):jf N N ([si,li],(2:Int),(0:Int),s,nm,pa,re,sl,co,si,li)=some (.inr (s++(th si++th li))):=by
 have l1:=oU si;have key:∀k,jf N (k+1+1+1) ([si,li],(2:Int),(0:Int),s,nm,pa,re,sl,co,si,li)=some (.inr (s++(th si++th li))):=λk=>by rw[HF hN h1 g1 o1 (by omega) hc hn nm pa re sl si li rfl rfl (j2:=1) (by decide),HF hN h2 g2 o2 (by rw[bb];omega) hc hn nm pa re sl si li rfl rfl (j2:=2) (by decide),jf.eq_2,show decide ((2:Int)<2)=false from rfl,af,bj]
 have:=key (N-3)<;>grind
def Y6(hN:1300<N){l:List Func}(hl:FnW l){s:List Int}(hs:s.length<=1000000):iU N N (l,(l.length:Int),(0:Int),s)=some (.inr (s++l.flatMap tn)):=by have FK:=hl.1;refine iC (l:=l) (enc:=tn) (g:=λs=>(.inr s:Int⊕List Int)) (B:=2500000) (m:=30000) (Lf:=λk i s=>iU N k (l,(l.length:Int),i,s)) (λk s=>by simp only[iU.eq_2,aO,af]) (λk i x s hx hm hB=>?_) (λx hx=>by obtain⟨hf,_,n,hn,ho⟩:=hl.2 x hx;exact Af ho hn hf) (by omega) (by omega);obtain⟨⟨g1,g2,g3,g4,g5,g6,g7⟩,h64,n,hn,ho⟩:=hl.2 x hm;have hw:=ho.FW hn;have hnl:=mZ ho.1;have hp:=ho.2.2.2.1;have Jr:=ho.2.2.2.2.2.2.1;have hcw:CW x.2.2.2.2.1:=⟨Jr.2,λy hy=>⟨ho.2.2.2.2.2.2.2.1 y hy,g5 y hy⟩⟩;have cy:=hw.1;have v1:=dg x.1.length;have v2:=dg x.2.1.toNat;have v3:=dg (JP x.2.2.1);have v4:=dg x.2.2.2.1.length;have v5:=dg x.2.2.2.2.1.length;have v6:=iI (l:=x.2.2.2.1) (enc:=nc) (m:=40) λf hf=>pY (hw.2 f hf).1;have v7:=iI (l:=x.2.2.2.2.1) (enc:=encI) (m:=31) λy _=>pU y;have r1:room (s.length+(V x.1.length).length) 1=true:=ak (by omega) (by omega);have r2:room ((s++V x.1.length).length+(bP x.1).length) 1=true:=ak (by simp only[bb,di];omega) (by omega);have r3:room (((s++V x.1.length)++bP x.1).length+(V x.2.1.toNat).length) 1=true:=ak (by simp only[bb,di];omega) (by omega);have r4:room ((((s++V x.1.length)++bP x.1)++V x.2.1.toNat).length+(V (JP x.2.2.1)).length) 1=true:=ak (by simp only[bb,di];omega) (by omega);have r5:room (((((s++V x.1.length)++bP x.1)++V x.2.1.toNat)++V (JP x.2.2.1)).length+(V x.2.2.2.1.length).length) 1=true:=ak (by simp only[bb,di];omega) (by omega);simp only[iU.eq_2,aN (aC hx),au,aE hx,ae,kF (show 20<N by omega) (show x.1.length<=1000000by omega),n5 (show 20<N by omega) (show 0<=x.2.1/\x.2.1<=9223372036854775807by omega),Hy (show 20<N by omega) h64,kF (show 20<N by omega) (show x.2.2.2.1.length<=1000000by omega),r1,r2,r3,r4,r5,aj,ai (show i<9223372036854775807by have:=aC hx;omega)];have e1:=Y1 hN hw (s:=((((s++V x.1.length)++bP x.1)++V x.2.1.toNat)++V (JP x.2.2.1))++V x.2.2.2.1.length) (by simp only[bb,di];omega) x.1 x.2.1 x.2.2.1 x.2.2.2.1 x.2.2.2.2.1 x.2.2.2.2.2.1 x.2.2.2.2.2.2;rw[e1,ae];simp only;rw[kF (by omega) (by omega),ae,ak (by simp only[bb,di];omega) (by omega),aj,ab9 hN hcw (by simp only[bb,di];omega),ae];simp only;rw[acd hN ho.2.2.2.2.2.2.2.2.1 ho.2.2.2.2.2.2.2.2.2 g3 g4 g6 g7 (by simp only[bb,di];omega) rfl Jr,ae];simp only[tn,oN,said,bj]
def S6(hN:1300<N){l:List Func}(hl:FnW l){s:List Int}(hs:s.length<=1000000)(a:List aB)(b:List (List UInt8)):jh N N ((0:Int),a,b,l,s)=some (s++l.flatMap tn):=by have FK:=hl.1;refine iC (l:=l) (enc:=tn) (g:=id) (B:=2500000) (m:=30000) (Lf:=λk i s=>jh N k (i,a,b,l,s)) (λk s=>by simp only[jh.eq_2,aO,af];rfl) (λk i x s hx hm hB=>?_) (λx hx=>by obtain⟨hf,_,n,hn,ho⟩:=hl.2 x hx;exact Af ho hn hf) (by omega) (by omega);obtain⟨⟨g1,g2,g3,g4,g5,g6,g7⟩,h64,n,hn,ho⟩:=hl.2 x hm;have hw:=ho.FW hn;have hnl:=mZ ho.1;have hp:=ho.2.2.2.1;have Jr:=ho.2.2.2.2.2.2.1;have hcw:CW x.2.2.2.2.1:=⟨Jr.2,λy hy=>⟨ho.2.2.2.2.2.2.2.1 y hy,g5 y hy⟩⟩;have cy:=hw.1;have v1:=n4 x.1;have v2:=dg x.2.1.toNat;have v3:=dg (JP x.2.2.1);have v4:=qq hw;have v5:=dg x.2.2.2.2.1.length;have v7:=iI (l:=x.2.2.2.2.1) (enc:=encI) (m:=31) λy _=>pU y;have v8:=oU x.2.2.2.2.2.1;have v9:=oU x.2.2.2.2.2.2;have r1:room (s.length+(said x.1).length) 1=true:=ak (by omega) (by omega);have r2:room ((s++said x.1).length+(V x.2.1.toNat).length) 1=true:=ak (by simp only[bb];omega) (by omega);have r3:room (((s++said x.1)++V x.2.1.toNat).length+(V (JP x.2.2.1)).length) 1=true:=ak (by simp only[bb];omega) (by omega);have r4:room ((((s++said x.1)++V x.2.1.toNat)++V (JP x.2.2.1)).length+(oN x.2.2.2.1).length) 1=true:=ak (by simp only[bb];omega) (by omega);have r5:room (((((s++said x.1)++V x.2.1.toNat)++V (JP x.2.2.1))++oN x.2.2.2.1).length+(V x.2.2.2.2.1.length).length) 1=true:=ak (by simp only[bb];omega) (by omega);simp only[jh.eq_2,aN (aC hx),au,aE hx,ae,Jk (show 20<N by omega) (show x.1.length<=1000000by omega),pT (show 20<N by omega) (show 0<=x.2.1/\x.2.1<=9223372036854775807by omega),Hz (N:=N) h64,kX (show 20<N by omega) (OW h64),EH hN hw,oT (n:=x.2.2.2.2.1.length) (show 20<N by omega) (show x.2.2.2.2.1.length<18446744073709551616by omega),r1,r2,r3,r4,r5,aj];rw[Y5 hN hcw (by simp only[bb];omega),ae];simp only;rw[Eu (N:=N) (by omega) g3 ho.2.2.2.2.2.2.2.2.1 Jr.2 g6,ae,ak (by simp only[bb];omega) (by omega),aj,Eu (N:=N) (by omega) g4 ho.2.2.2.2.2.2.2.2.2 Jr.2 g7,ae,ak (by simp only[bb];omega) (by omega),aj,ai (by have:=aC hx;omega)];simp only[tn,bj]
end
def ig(ts:List aB)(xs:List (List UInt8))(fs:List Func):Prop:=O4 ts xs fs/\∀f,f∈fs->i64 f.2.2.1
def eN.XW{ts:List aB}{xs:List (List UInt8)}{fs:List Func}(h:eN ts xs fs):XW xs:=⟨h.2.1,h.2.2.2.2.1⟩
def eN.func{ts:List aB}{xs:List (List UInt8)}{fs:List Func}(h:eN ts xs fs){i:Nat}(hi:i<fs.length):fG ts.length (gW fs i):=by have:=h.2.2.2.2.2 i hi;unfold Jq at this<;>grind
def eN.FnW{ts:List aB}{xs:List (List UInt8)}{fs:List Func}(h:eN ts xs fs)(hm:ig ts xs fs):FnW fs:=⟨h.2.2.1.2,λf hf=>by refine⟨hm.1.2.2.2.2 f hf,hm.2 f hf,ts.length,h.1.1,?_⟩;obtain⟨i,hi,rfl⟩:=pV fn0 hf;exact h.func hi⟩
def j0(ts:List aB)(xs:List (List UInt8))(fs:List Func):Int:=if eN ts xs fs then(if(xg ts xs fs).length<=20000then 0 else 4)else 8
section
variable{N:Nat}{ts:List aB}{xs:List (List UInt8)}{fs:List Func}
def HG(h:eN ts xs fs)(hm:ig ts xs fs):(ts.flatMap tj).length<=25600/\(xs.flatMap said).length<=3200/\(fs.flatMap tn).length<=960000:=by
 have hT:=h.1.TW;have hX:=h.XW;have hF:=h.FnW hm;have h1:=iI (l:=ts) (enc:=tj) (m:=800) λx hx=>by obtain⟨n,i,hi,_,ht⟩:=hT.2 x hx;exact Ae ht hi
 have h2:=iI (l:=xs) (enc:=said) (m:=100) λx hx=>by have:=n4 x;have:=hX.2 x hx;omega
 have h3:=iI (l:=fs) (enc:=tn) (m:=30000) λx hx=>by obtain⟨hf,_,n,hn,ho⟩:=hF.2 x hx;exact Af ho hn hf
 have a1:=hT.1;have a2:=hX.1;have a3:=hF.1<;>grind
def S7(hN:1300<N)(hm:ig ts xs fs):XC N (ts,xs,fs)=some (if j0 ts xs fs=0then xg ts xs fs else[],j0 ts xs fs):=by
 rw[XC.eq_1,ab6 hN hm.1,ae];unfold j0;by_cases h:eN ts xs fs
 .rw[aT h,dj,af,ba h];obtain⟨b1,b2,b3⟩:=HG h hm;have c1:=dg ts.length;have c2:=dg xs.length;have c3:=dg fs.length;have d1:=hm.1.1.1;have d2:=hm.1.2.1;have d3:=hm.1.2.2.2.1;rw[kF (by omega) (by omega),ae,ak (by omega) (by omega),aj,Y2 hN h.1.TW (by omega),ae];simp only;rw[kF (by omega) (by omega),ae,ak (by simp only[bb];omega) (by omega),aj,Y4 hN h.XW (by simp only[bb];omega),ae];simp only;rw[kF (by omega) (by omega),ae,ak (by simp only[bb];omega) (by omega),aj,Y6 hN (h.FnW hm) (by simp only[bb];omega),ae];have e:(((((V ts.length++ts.flatMap tj)++V xs.length)++xs.flatMap said)++V fs.length)++fs.flatMap tn)=xg ts xs fs:=by simp[xg,bj]
  grind
 grind
def Y7(hN:1300<N)(hm:ig ts xs fs)(h:eN ts xs fs):V8 N (ts,xs,fs)=some (xg ts xs fs):=by obtain⟨b1,b2,b3⟩:=HG h hm;have c1:=dg ts.length;have c2:=dg xs.length;have c3:=dg fs.length;have d1:=hm.1.1.1;have d2:=hm.1.2.1;have d3:=hm.1.2.2.2.1;rw[V8.eq_1,oT (by omega) (by omega),ae,S4 hN h.1.TW (by omega),ae];simp only;rw[oT (by omega) (by omega),ae,ak (by simp only[bb];omega) (by omega),aj,S5 hN h.XW (by simp only[bb];omega),ae];simp only;rw[oT (by omega) (by omega),ae,ak (by simp only[bb];omega) (by omega),aj,S6 hN (h.FnW hm) (by simp only[bb];omega),ae];simp[xg,bj]
def O6(hN:1300<N)(hm:ig ts xs fs):F79 N (ts,xs,fs)=some (j0 ts xs fs):=by
 rw[F79.eq_1,S1 hN hm.1,ae];unfold j0;by_cases h:eN ts xs fs;.rw[aT h,dj,af,ba h,Y7 hN hm h,ae]<;>grind
 grind
def Ag(h:j0 ts xs fs=0):eN ts xs fs/\(xg ts xs fs).length<=20000:=by unfold j0 at h<;>grind
def EI(hN:1300<N)(hm:ig ts xs fs):F97 N (ts,xs,fs)=some (j0 ts xs fs):=by rw[F97.eq_1,S7 hN hm,ae]
def aic(fs:List Func)(f i:Int):Prop:=0<=f/\f<fs.length/\0<=i/\i<(gW fs f.toNat).2.2.2.2.1.length
def azI(ts:List aB)(xs:List (List UInt8))(fs:List Func)(f i:Int):Int×Int:=if j0 ts xs fs=0then(if aic fs f i then(256*(f+1)+i,0)else(0,2))else(0,j0 ts xs fs)
def aid(a i:Nat)(hi:i<256):256*a|||i=256*a+i:=by have:=Nat.two_pow_add_eq_or_of_lt (i:=8) (b:=i) (by omega) a<;>grind
def tB(fs:List Func)(a:Nat):Prop:=1<=a/256/\a/256<=fs.length/\a%256<(gW fs (a/256-1)).2.2.2.2.1.length
def vW(ts:List aB)(xs:List (List UInt8))(fs:List Func)(a:Nat):Int×Int×Int:=if j0 ts xs fs=0then(if tB fs a then(((a/256-1:Nat):Int),((a%256:Nat):Int),0)else(0,0,6))else(0,0,j0 ts xs fs)
def ace{a:Nat}(h:a<18446744073709551616):vI .u64 (a:Int) (255:Int)=((a%256:Nat):Int):=by
 unfold vI;have e:(BitVec.ofInt IntKind.u64.bits (a:Int)&&&BitVec.ofInt IntKind.u64.bits 255).toNat=a%256:=by show(BitVec.ofInt 64 (a:Int)&&&BitVec.ofInt 64 255).toNat=_;rw[nz,show BitVec.ofInt 64 255=BitVec.ofNat 64 255from rfl,BitVec.toNat_and,ph,qr h];exact Nat.and_two_pow_sub_one_eq_mod a 8
 rw[e];exact aZ (by omega)
def QK(hN:1300<N)(hm:ig ts xs fs){a:Nat}(ha:a<18446744073709551616):F98 N (ts,xs,fs,(a:Int))=some (vW ts xs fs a):=by
 rw[F98.eq_1,EI hN hm,ae];unfold vW;have hfl:=hm.1.2.2.2.1;by_cases hc:j0 ts xs fs=0
 .rw[hc,gT,af,ba rfl,show(256:Int)=((256:Nat):Int)from rfl,yN,ace ha,aQ (n:=((a%256:Nat):Int)) (by omega),aZ (n:=(fs.length:Int)) (by omega)];have Gu:(bif(((a/256:Nat):Int)==(0:Int))then some true else(bif(decide (((a/256:Nat):Int)>(fs.length:Int)))then some true else(Option.bind (idx fs (aS (((a/256:Nat):Int)-(1:Int)))) λx1=>some (decide (((a%256:Nat):Int)>=(x1.2.2.2.2.1.length:Int))))))=some (!decide (tB fs a)):=by
   by_cases h1:a/256=0;.rw[h1,aM (show¬tB fs a fromλh=>by have:=h.1;omega)];rfl
   .rw[show(((a/256:Nat):Int)==(0:Int))=false by rw[ma];omega];by_cases h2:a/256>fs.length;.rw[aT (show((a/256:Nat):Int)>(fs.length:Int)by omega),aM (show¬tB fs a fromλh=>by have:=h.2.1;omega)];rfl
    .have e:idx fs (aS (((a/256:Nat):Int)-1))=some (gW fs (a/256-1)):=by rw[aZ (by omega),show((a/256:Nat):Int)-1=((a/256-1:Nat):Int)by omega];exact cE _ (by omega)
     rw[aM (show¬((a/256:Nat):Int)>(fs.length:Int)by omega),e,ae];by_cases h3:a%256<(gW fs (a/256-1)).2.2.2.2.1.length;.rw[aM (show¬((a%256:Nat):Int)>=((gW fs (a/256-1)).2.2.2.2.1.length:Int)by omega),aT (show tB fs a from⟨by omega,by omega,h3⟩)];rfl
     .rw[aT (show((a%256:Nat):Int)>=((gW fs (a/256-1)).2.2.2.2.1.length:Int)by omega),aM (show¬tB fs a fromλh=>h3 h.2.2)];rfl
  rw[Gu,ae];by_cases hA:tB fs a;.have h1:=hA.1;rw[aT hA,dj,af,ba hA,aQ (n:=((a/256:Nat):Int)) (by omega),aQ (by omega)]<;>grind
  grind
 grind
def Y8(hfl:fs.length<=50){a:Nat}(ha:a<18446744073709551616):F47 N (ts,xs,fs,(a:Int))=some (if tB fs a then(((a/256-1:Nat):Int),((a%256:Nat):Int),true)else(0,0,false)):=by
 have eM:aS (av ((256:Int)*av ((fs.length:Int)+1)))=((256*(fs.length+1):Nat):Int):=by rw[aQ (n:=(fs.length:Int)+1) (by omega),aQ (by omega),aZ (by omega)];omega
 rw[F47.eq_1,eM];by_cases h1:a<256;.rw[aT (show(a:Int)<256by omega),bi (show¬tB fs a fromλh=>by have:=h.1;omega)];rfl
 .rw[aM (show¬(a:Int)<256by omega),af];by_cases h2:a>=256*(fs.length+1);.rw[aT (show(a:Int)>=((256*(fs.length+1):Nat):Int)by omega),bi (show¬tB fs a fromλh=>by have:=h.2.1;omega)];rfl
  .have e0:av (av (aS (Int.tdiv (a:Int) (256:Int)))-1)=((a/256-1:Nat):Int):=by rw[show(256:Int)=((256:Nat):Int)from rfl,Mg,aZ (by omega),aQ (n:=((a/256:Nat):Int)) (by omega),aQ (by omega)];omega
   have e1:av (Int.tmod (a:Int) (256:Int))=((a%256:Nat):Int):=by rw[show(256:Int)=((256:Nat):Int)from rfl,Mh,aQ (by omega)]
   have e2:idx fs ((a/256-1:Nat):Int)=some (gW fs (a/256-1)):=cE _ (by omega);rw[aM (show¬(a:Int)>=((256*(fs.length+1):Nat):Int)by omega),ae,af,e0,e1,e2,ae];by_cases h3:a%256<(gW fs (a/256-1)).2.2.2.2.1.length;.rw[aM (show¬((a%256:Nat):Int)>=((gW fs (a/256-1)).2.2.2.2.1.length:Int)by omega),af,ba (show tB fs a from⟨by omega,by omega,h3⟩)]
   .rw[aT (show((a%256:Nat):Int)>=((gW fs (a/256-1)).2.2.2.2.1.length:Int)by omega),au,bi (show¬tB fs a fromλh=>h3 h.2.2)]
end
def QL(ts:List aB)(fs:List Func):Prop:=(∀t,t∈ts->i64 t.2.2.1)/\∀f,f∈fs->i64 f.2.2.1/\(∀x,x∈f.2.2.2.2.1->okI x)/\CB f.2.2.2.2.2.1/\CB f.2.2.2.2.2.2
section
variable{N:Nat}{ts:List aB}{xs:List (List UInt8)}{fs:List Func}
def FL(hN:1300<N){i:Nat}(hi:i<ts.length)(hf:(ez ts i).2.2.2.length<=20):sB N N (ts,(i:Int),(0:Int))=some (.inl true)\/sB N N (ts,(i:Int),(0:Int))=some (.inr (ts,(i:Int))):=by
 have e:idx ts (i:Int)=some (ez ts i):=cE _ hi;rcases vA (l:=(ez ts i).2.2.2) (a:=(.inr (ts,(i:Int)):Bool⊕(List aB×Int))) (b:=.inl true) (P:=λ_=>True) (n:=(ez ts i).2.2.2.length) (Lf:=λk j=>sB N k (ts,(i:Int),j)) (bc _) (λk=>by simp only[sB.eq_2,e,ae,aO,af]) (λk j x hj _ hx=>by
  simp only[sB.eq_2,e,ae,aN hj,au,aE hx,ai (show j<9223372036854775807by omega)];by_cases h:(x.1.length:Int)>100;.rw[aT h];exact .inl rfl
  .rw[aM h];exact .inr ⟨trivial,rfl⟩) N (by omega)with h|⟨h,_⟩;.grind
 grind
def O7(hN:1300<N):F41 N ts=some true\/(F41 N ts=some false/\ts.length<=40/\∀i,i<ts.length->(ez ts i).2.2.2.length<=20):=by
 rw[F41.eq_1];by_cases h40:ts.length<=40
 .rw[aM (show¬(ts.length:Int)>40by omega)];rcases vA (l:=ts) (a:=(.inr ():Bool⊕Unit)) (b:=.inl true) (P:=λt=>t.2.2.2.length<=20) (n:=ts.length) (Lf:=λk i=>D6 N k (ts,i)) (bc _) (λk=>by simp only[D6.eq_2,aO,af]) (λk i x hi _ hx=>by
    have Gi:x=ez ts i:=by rw[ez,da,hx];rfl
    simp only[D6.eq_2,aN hi,au,aE hx,ae];by_cases h:(x.2.2.2.length:Int)>20;.rw[aT h];exact .inl rfl
    .rw[aM h,af];rcases FL hN hi (by rw[<-Gi];omega)with h2|h2;.rw[h2];exact .inl rfl
     .rw[h2,ae];exact .inr ⟨by omega,by simp only;rw[ai (by omega)]⟩) N (by omega)with h|⟨h,h2⟩;.grind
  .rw[h];refine .inr ⟨rfl,h40,λi hi=>h2 i _ hi ?_⟩;rw[ez,da,aw hi];rfl
 grind
def Mt(hN:1300<N)(n i:Int)(nm:List UInt8)(pa re:Int){sl:List Field}(hs:sl.length<=20)(co:List Instr)(si li:List fA):s5 N N (n,i,(0:Int),ts,xs,fs,nm,pa,re,sl,co,si,li)=some (.inl true)\/s5 N N (n,i,(0:Int),ts,xs,fs,nm,pa,re,sl,co,si,li)=some (.inr (n,i,ts,xs,fs)):=by
 rcases vA (l:=sl) (a:=(.inr (n,i,ts,xs,fs):Bool⊕(Int×Int×List aB×List (List UInt8)×List Func))) (b:=.inl true) (P:=λ_=>True) (n:=sl.length) (Lf:=λk j=>s5 N k (n,i,j,ts,xs,fs,nm,pa,re,sl,co,si,li)) (bc _) (λk=>by simp only[s5.eq_2,aO,af]) (λk j x hj _ hx=>by
  simp only[s5.eq_2,ae,aN hj,au,aE hx,ai (show j<9223372036854775807by omega)];by_cases h:(x.1.length:Int)>100;.rw[aT h];exact .inl rfl
  .rw[aM h];exact .inr ⟨trivial,rfl⟩) N (by omega)with h|⟨h,_⟩;.grind
 grind
def Y9(hN:1300<N)(ht:QL ts fs):F16 N (ts,xs,fs)=some true\/(F16 N (ts,xs,fs)=some false/\ig ts xs fs):=by
 rw[F16.eq_1];rcases O7 (N:=N) (ts:=ts) hN with h|⟨h,hl,hf⟩;.rw[h];exact .inl rfl
 .rw[h,ae,af];by_cases hx:xs.length<=40
  .by_cases aB7:fs.length<=40
   .rw[aM (show¬(xs.length:Int)>40by omega),aM (show¬(fs.length:Int)>40by omega),af,ae,af];rcases vA (l:=xs) (a:=(.inr (ts,xs,fs):Bool⊕(List aB×List (List UInt8)×List Func))) (b:=.inl true) (P:=λs=>s.length<=100) (n:=xs.length) (Lf:=λk i=>QR N k (i,ts,xs,fs)) (bc _) (λk=>by simp only[QR.eq_2,aO,af]) (λk i x hi _ hxx=>by
      simp only[QR.eq_2,aN hi,au,aE hxx,ae,ai (show i<9223372036854775807by omega)];by_cases h:(x.length:Int)>100;.rw[aT h];exact .inl rfl
      .rw[aM h];exact .inr ⟨by omega,rfl⟩) N (by omega)with h1|⟨h1,hxs⟩;.rw[h1];exact .inl rfl
    .rw[h1,ae];simp only;rcases dM (l:=fs) (Lf:=λk i(n:Int)=>D8 N k (n,i,ts,xs,fs)) (Inv:=λi _=>∀j,j<i->u7 (gW fs j)) (Out:=λr=>r=.inl true) (g:=λ_=>(.inr ():Bool⊕Unit)) (λk s _=>by simp only[D8.eq_2,aO,af]) (λk i x n hxx hI=>by
       have hi:=aC hxx;have Gi:x=gW fs i:=by rw[gW,da,hxx];rfl
       simp only[D8.eq_2,aN hi,au,aE hxx,ae,dL];cases hb:(decide ((x.1.length:Int)>100)||(decide ((x.2.2.2.1.length:Int)>20)||(decide ((x.2.2.2.2.1.length:Int)>210)||(decide ((x.2.2.2.2.2.1.length:Int)>210)||(decide ((x.2.2.2.2.2.2.length:Int)>210)||decide (av (n+(x.2.2.2.2.1.length:Int))>1000))))))
       .simp only[jp,mr]at hb;obtain⟨k1,k2,k3,k4,k5,_⟩:=hb;rw[af];rcases Mt (N:=N) (ts:=ts) (xs:=xs) (fs:=fs) hN (av (n+(x.2.2.2.2.1.length:Int))) (i:Int) x.1 x.2.1 x.2.2.1 (sl:=x.2.2.2.1) (by omega) x.2.2.2.2.1 x.2.2.2.2.2.1 x.2.2.2.2.2.2with h2|h2;.rw[h2];exact .inl ⟨_,rfl,rfl⟩
        .rw[h2,ae];refine .inr ⟨av (n+(x.2.2.2.2.1.length:Int)),λj hj=>?_,by simp only;rw[ai (by omega)]⟩;by_cases hji:j=i;.subst hji;obtain⟨_,t2,t3,t4⟩:=ht.2 x (aX hxx);rw[<-Gi];exact⟨by omega,by omega,by omega,by omega,t2,t3,t4⟩
         .exact hI j (by omega)
       .exact .inl ⟨_,rfl,rfl⟩) (k:=N) (s:=0) (λj hj=>by omega) (by omega)with⟨r,rfl,h2⟩|⟨s,hI,h2⟩;.rw[h2];exact .inl rfl
     .rw[h2];refine .inr ⟨rfl,⟨⟨by omega,λi hi=>⟨by have:=hf i hi;omega,ht.1 _ (n6 ty0 hi)⟩⟩,by omega,λs hs=>?_,by omega,λf hf=>?_⟩,λf hf=>(ht.2 f hf).1⟩;.obtain⟨i,hi,rfl⟩:=im.1 hs;have:=hxs i _ hi (aw hi);omega
      .obtain⟨i,hi,rfl⟩:=pV fn0 hf;exact hI i hi
   .rw[aM (show¬(xs.length:Int)>40by omega),aT (show(fs.length:Int)>40by omega)];exact .inl rfl
  .rw[aT (show(xs.length:Int)>40by omega)];exact .inl rfl
def S8{α:Type}(l:List α):l.flatMap (λx=>[x])=l:=(u5 id l).trans (List.map_id l)
def u9{α β:Type}{l:List α}{m:List β}:((l.length:Int)!=(m.length:Int))=!decide (l.length=m.length):=by grind
def acf(a b:Int):(a !=b)=!decide (a=b):=by grind
def Za(x y:Field):(x.1==y.1&&(x.2==y.2&&true))=decide (x=y):=by grind
def run_eq(x y:fA):(x.1==y.1&&(x.2==y.2&&true))=decide (x=y):=by grind
def instr_eq(x y:Instr):(x.1==y.1&&(x.2.1==y.2.1&&(x.2.2.1==y.2.2.1&&(x.2.2.2==y.2.2.2&&true))))=decide (x=y):=by grind
def Mu{l m:List Field}(hl:l.length<=1000)(hN:1300<N):SA N (l,m)=some (decide (l=m)):=by
 rw[SA.eq_1,u9];by_cases h:l.length=m.length;.rw[aT h,dj,af,oL (l:=l) (m:=m) (a:=(.inr ():Bool⊕Unit)) (b:=.inl false) (Lf:=λk i=>H0 N k (l,m,i)) h (λk=>by simp only[H0.eq_2,aO,af]) (λk i x y hx hy h1 h2=>by simp only[H0.eq_2,aN (aC h1),au,aE h1,aE h2,ae,Za,ai (show i<9223372036854775807by have:=aC h1;omega)];by_cases he:x=y<;>simp[he]) N (by omega),ae];grind
 .rw[aM h,fj,au,aM λe=>h (by rw[e])]
def Mv{l m:List fA}(hl:l.length<=1000)(hN:1300<N):SB N (l,m)=some (decide (l=m)):=by
 rw[SB.eq_1,u9];by_cases h:l.length=m.length;.rw[aT h,dj,af,oL (l:=l) (m:=m) (a:=(.inr ():Bool⊕Unit)) (b:=.inl false) (Lf:=λk i=>H2 N k (l,m,i)) h (λk=>by simp only[H2.eq_2,aO,af]) (λk i x y hx hy h1 h2=>by simp only[H2.eq_2,aN (aC h1),au,aE h1,aE h2,ae,run_eq,ai (show i<9223372036854775807by have:=aC h1;omega)];by_cases he:x=y<;>simp[he]) N (by omega),ae];grind
 .rw[aM h,fj,au,aM λe=>h (by rw[e])]
def Zb{l m:List Instr}(hl:l.length<=1000)(hN:1300<N):WR N (l,m)=some (decide (l=m)):=by
 rw[WR.eq_1,u9];by_cases h:l.length=m.length;.rw[aT h,dj,af,oL (l:=l) (m:=m) (a:=(.inr ():Bool⊕Unit)) (b:=.inl false) (Lf:=λk i=>H1 N k (l,m,i)) h (λk=>by simp only[H1.eq_2,aO,af]) (λk i x y hx hy h1 h2=>by simp only[H1.eq_2,aN (aC h1),au,aE h1,aE h2,ae,instr_eq,ai (show i<9223372036854775807by have:=aC h1;omega)];by_cases he:x=y<;>simp[he]) N (by omega),ae];grind
 .rw[aM h,fj,au,aM λe=>h (by rw[e])]
def Zc{l m:List aB}(hl:l.length<=1000)(hf:∀t,t∈l->t.2.2.2.length<=1000)(hN:1300<N):F65 N (l,m)=some (decide (l=m)):=by
 rw[F65.eq_1,u9];by_cases h:l.length=m.length;.rw[aT h,dj,af,oL (l:=l) (m:=m) (a:=(.inr ():Bool⊕Unit)) (b:=.inl false) (Lf:=λk i=>So N k (l,m,i)) h (λk=>by simp only[So.eq_2,aO,af]) (λk i x y hx hy h1 h2=>by simp only[So.eq_2,aN (aC h1),au,aE h1,aE h2,ae,Mu (hf x hx) hN,dL,acf,ai (show i<9223372036854775807by have:=aC h1;omega)];obtain⟨a,b,c,d⟩:=x;obtain⟨a',b',c',d'⟩:=y;by_cases e1:a=a'<;>by_cases e2:b=b'<;>by_cases e3:c=c'<;>by_cases e4:d=d'<;>simp[e1,e2,e3,e4]) N (by omega),ae];grind
 .rw[aM h,fj,au,aM λe=>h (by rw[e])]
def HH{f g:Func}(hf:u7 f)(hN:1300<N):F66 N (f.1,f.2.1,f.2.2.1,f.2.2.2.1,f.2.2.2.2.1,f.2.2.2.2.2.1,f.2.2.2.2.2.2,g.1,g.2.1,g.2.2.1,g.2.2.2.1,g.2.2.2.2.1,g.2.2.2.2.2.1,g.2.2.2.2.2.2)=some (decide (f=g)):=by
 obtain⟨g1,g2,g3,g4,_⟩:=hf;rw[F66.eq_1];simp only[Mu (N:=N) (show f.2.2.2.1.length<=1000by omega) hN,Zb (N:=N) (show f.2.2.2.2.1.length<=1000by omega) hN,Mv (N:=N) (show f.2.2.2.2.2.1.length<=1000by omega) hN,Mv (N:=N) (show f.2.2.2.2.2.2.length<=1000by omega) hN,ae,gE];obtain⟨a,b,c,d,e,i,j⟩:=f;obtain⟨a',b',c',d',e',i',j'⟩:=g;simp only;congr 1;by_cases e1:a=a'
 .by_cases e2:b=b'
  .by_cases e3:c=c'
   .by_cases e4:d=d'
    .by_cases e5:e=e';.by_cases e6:i=i'<;>by_cases e7:j=j'<;>simp[e1,e2,e3,e4,e5,e6,e7]
     .simp[e5]
    .simp[e4]
   .simp[e3]
  .simp[e2]
 .simp[e1]
def acg{ts':List aB}{xs':List (List UInt8)}{fs':List Func}(hN:1300<N)(hm:ig ts xs fs):F33 N (ts,xs,fs,ts',xs',fs')=some (decide (ts=ts'/\xs=xs'/\fs=fs')):=by
 obtain⟨⟨m1,m2,m3,m4,m5⟩,_⟩:=hm;have htl:=m1.1;have htf:∀t,t∈ts->t.2.2.2.length<=1000:=λt h=>by obtain⟨j,hj,rfl⟩:=pV ty0 h;exact(m1.2 j hj).1
 rw[F33.eq_1,Zc (by omega) htf hN,u9,u9];simp only[ae,dL];by_cases ht:ts=ts'
 .by_cases hx:xs.length=xs'.length
  .by_cases hf:fs.length=fs'.length
   .rw[aT ht,aT hx,aT hf,show(!true||(!true||!true))=false from rfl,af,oL (l:=xs) (m:=xs') (a:=(.inr (ts,xs,fs,ts',xs',fs'):Bool⊕(List aB×List (List UInt8)×List Func×List aB×List (List UInt8)×List Func))) (b:=.inl false) (Lf:=λk i=>ST N k (i,ts,xs,fs,ts',xs',fs')) hx (λk=>by simp only[ST.eq_2,aO,af]) (λk i x y hx hy h1 h2=>by
     simp only[ST.eq_2,aN (aC h1),au,aE h1,aE h2,ae,ai (show i<9223372036854775807by have:=aC h1;omega)];by_cases he:x=y;.simp[he]
     .rw[show(x==y)=false by simpa using he,bi he];rfl) N (by omega),ae];by_cases Gi:xs=xs'
    .rw[ba Gi];simp only;rw[oL (l:=fs) (m:=fs') (a:=(.inr ():Bool⊕Unit)) (b:=.inl false) (Lf:=λk i=>UV N k (i,ts,xs,fs,ts',xs',fs')) hf (λk=>by simp only[UV.eq_2,aO,af]) (λk i x y hx hy h1 h2=>by simp only[UV.eq_2,aN (aC h1),au,aE h1,aE h2,ae,HH (m5 x hx) hN,ai (show i<9223372036854775807by have:=aC h1;omega)];by_cases he:x=y<;>simp[he]) N (by omega),ae];by_cases hfe:fs=fs';.rw[ba hfe,aT ⟨ht,Gi,hfe⟩]
     .rw[bi hfe,aM λh=>hfe h.2.2]
    .rw[bi Gi,aM λh=>Gi h.2.1]
   .rw[aM hf,fj,pB,pB,au,aM λh=>hf (by rw[h.2.2])]
  .rw[aM hx,fj,Bool.true_or,pB,au,aM λh=>hx (by rw[h.2.1])]
 .rw[aM ht,fj,Bool.true_or,au,aM λh=>ht h.1]
end
def lay(ts:List aB)(sl:List Field):List Int×Int×Int:=gy 1048576 (exs ts) 0 1 sl
def vX(ts:List aB)(sl:List Field):Int:=up 8 (up (lay ts sl).2.2 (lay ts sl).2.1)
def QM{x y:List Ex}:∀(fs:List Field)(s a:Int),(∀f,f∈fs->fJ x f.2=fJ y f.2/\AL (fJ x f.2).2/\0<=(fJ x f.2).1/\(fJ x f.2).1<=256)->0<=s->s+fs.length*263<=10000->gy 1048576 x s a fs=gy 1000000 y s a fs/\(gy 1048576 x s a fs).2.1<=s+fs.length*263|[],s,a,_,_,_=>⟨rfl,by simp[gy]⟩|f::r,s,a,h,h0,hs=>by obtain⟨e1,e2,e3,e4⟩:=h f (cb ..);have hu:=pX e2 h0;simp at hs;obtain⟨g1,g2⟩:=QM r (up (fJ x f.2).2 s+(fJ x f.2).1) (max a (fJ x f.2).2) (λg hg=>h g (db _ hg)) (by omega) (by omega);simp only[gy]<;>grind
section
variable{N:Nat}{ts:List aB}{xs:List (List UInt8)}{fs:List Func}
def O8(hT:kL ts)(hS:sM ts){i:Int}(hi:0<=i/\i<ts.length):fJ (exs ts) i=fJ (cS 1000000 ts ts.length) i/\AL (fJ (exs ts) i).2/\0<=(fJ (exs ts) i).1/\(fJ (exs ts) i).1<=256:=by
 obtain⟨n,rfl⟩:=dT hi.1;have h:=hS n (by omega);have hr:=u6 hT.2.1 ts.length (bc _) (n:Int);obtain⟨e1,e2,e3⟩:=(kM (C:=1048576) (by omega) (by omega) hT.2.1 ts.length (bc _)).get (by omega) (n:Int);refine⟨?_,e1,e2,h⟩;rcases hr with⟨hr|hr,hq⟩;.exact Prod.ext hr hq
 .have:(fJ (exs ts) (n:Int)).1=(fJ (cS 1048576 ts ts.length) (n:Int)).1:=rfl;omega
def Ah(hT:kL ts)(hS:sM ts){sl:List Field}(FK:sl.length<=16)(hr:kj sl ts.length):lay ts sl=gy 1000000 (cS 1000000 ts ts.length) 0 1 sl/\(0<=(lay ts sl).2.1/\(lay ts sl).2.1<=4208)/\AL (lay ts sl).2.2/\(lay ts sl).1.length=sl.length:=by obtain⟨g1,g2⟩:=QM (x:=exs ts) (y:=cS 1000000 ts ts.length) sl 0 1 (λf hf=>O8 hT hS (hr f hf)) (by omega) (by omega);obtain⟨b1,b2,b3⟩:=qo (C:=1048576) (by omega) (kM (by omega) (by omega) hT.2.1 ts.length (bc _)) sl 0 1 (by omega) (by omega) (.inl rfl);exact⟨g1,⟨b1.1,by unfold lay;omega⟩,b2,b3⟩
def va(hT:kL ts)(hS:sM ts){sl:List Field}(FK:sl.length<=16)(hr:kj sl ts.length):(0<=up (lay ts sl).2.2 (lay ts sl).2.1/\up (lay ts sl).2.2 (lay ts sl).2.1<=4215)/\0<=vX ts sl/\vX ts sl<=4222:=by obtain⟨_,b1,b2,_⟩:=Ah hT hS FK hr;have h1:=pX b2 b1.1;have h2:=pX (a:=8) (s:=up (lay ts sl).2.2 (lay ts sl).2.1) (.inr rfl) (by omega);unfold vX;omega
def O9(hN:1300<N)(hl:Mq ts)(hT:kL ts)(hS:sM ts){sl:List Field}(FK:sl.length<=16)(hr:kj sl ts.length):Yv N (ts,sl)=some ((lay ts sl).1,up (lay ts sl).2.2 (lay ts sl).2.1,(lay ts sl).2.2,0):=by
 have hE:=kM (C:=1048576) (by omega) (by omega) hT.2.1 ts.length (bc _);have l1:D1 N N (ts,sl,exs ts,sl,(sl.length:Int),0)=some (.inr (sl,exs ts)):=by have:=kK (n:=sl.length) (Lf:=λk i=>D1 N k (ts,sl,exs ts,sl,(sl.length:Int),i)) (g:=λ_=>some (.inr (sl,exs ts))) (λk=>by simp only[D1.eq_2,aO,af]) (λk i hi ih=>by have hm:=aw hi;have hh:=hr _ (i9 hi);simp only[D1.eq_2,aN hi,au,aE hm,ae,aM (show¬(sl[i]).2<0 by omega),af,aM (show¬(sl[i]).2>=(ts.length:Int)by omega),ai (show i<9223372036854775807by omega)];exact ih) N 0 (by omega) (by omega);omega
 have l2:D2 N N (sl,exs ts,sl,(sl.length:Int),0)=some (.inr (sl,exs ts)):=by have:=kK (n:=sl.length) (Lf:=λk i=>D2 N k (sl,exs ts,sl,(sl.length:Int),i)) (g:=λ_=>some (.inr (sl,exs ts))) (λk=>by simp only[D2.eq_2,aO,af]) (λk i hi ih=>by have hm:=aw hi;have hh:=hr _ (i9 hi);have he:=(O8 hT hS hh).2.2.2;simp only[D2.eq_2,aN hi,au,aE hm,ae,sK (x:=exs ts) (show 0<=(sl[i]).2/\(sl[i]).2<(exs ts).length by rw[QI];exact hh),aM (show¬(fJ (exs ts) (sl[i]).2).1>256by omega),af,ai (show i<9223372036854775807by omega)];exact ih) N 0 (by omega) (by omega);omega
 have l3:=YW (N:=N) (b:=[]) (by omega) hE (fs:=sl) (by omega) (λf hf=>by rw[fU];exact hr f hf);simp at l3;rw[Yv.eq_1,Ad hN hl,ba hT,ae,gT,af,aM (show¬(sl.length:Int)>16by omega),ED (by omega) hl.1 hT.2.1,ae,show cS 1048576 ts ts.length=exs ts from rfl,l1,ae];simp;rw[l2,ae];simp;rw[show exs ts=cS 1048576 ts ts.length from rfl,l3];rfl
def Zd{n:Int}(h:0<=n/\n<=4000000):L7 N n=some (up 8 n,0):=by have e:=sJ (a:=8) (s:=n) (.inr rfl) h;rw[aQ (n:=n+8) (by omega),show n+8-1=n+7by omega,aQ (n:=(8:Int)-1) (by decide)]at e;rw[L7.eq_1,aM (show¬n<0 by omega),af,ae,aM (show¬n>1073741824by omega),af]<;>grind
def Ct{i:Nat}(hi:i<fs.length):idx fs (i:Int)=some (gW fs i):=cE _ hi
def ach(hN:1300<N)(hm:ig ts xs fs)(h:eN ts xs fs){f:Nat}(hf:f<fs.length):Yw N (ts,xs,fs,(f:Int))=some ((lay ts (gW fs f).2.2.2.1).1,vX ts (gW fs f).2.2.2.1):=by have hF:=h.func hf;have hb:=(va h.1 h.2.2.2.1 hF.2.1 hF.2.2.2.2.2.1).1;rw[Yw.eq_1,Ct hf,ae,O9 hN hm.1.1 h.1 h.2.2.2.1 hF.2.1 hF.2.2.2.2.2.1,ae];rw[Zd ⟨hb.1,by omega⟩];rfl
def Mw(hN:1300<N)(hm:ig ts xs fs)(h:eN ts xs fs){sl:List Field}(FK:sl.length<=16)(hr:kj sl ts.length):WY N (ts,sl)=some ((lay ts sl).1,up (lay ts sl).2.2 (lay ts sl).2.1,(lay ts sl).2.2):=by have hT:=h.1;have hE:=kM (C:=1000000) (by omega) (by omega) hT.2.1 ts.length (bc _);have l3:=YY (N:=N) (by omega) hE (fs:=sl) (by omega) (λf hf=>by rw[fU];exact hr f hf);rw[WY.eq_1,EE (by omega) hm.1.1.1 hT.2.1,ae];rw[l3,ae,(Ah hT h.2.2.2.1 FK hr).1]
def Pa{n:Int}(h:0<=n/\n<=4000000):F76 N n=some (up 8 n):=by rw[F76.eq_1,Cs (.inr rfl) h];rfl
def Mx{l:List Int}(c:Int)(hl:l.length<=1000)(hN:1300<N)(hb:∀x,x∈l->0<=x/\x<=100000):uV N N (l,c,0,List.replicate l.length 0)=some (c,l.map λx=>24+x):=by
 have:=kK (n:=l.length) (Lf:=λk i=>uV N k (l,c,i,(l.take i.toNat).map (λx=>24+x)++List.replicate (l.length-i.toNat) 0)) (g:=λ_=>some (c,l.map λx=>24+x)) (λk=>by simp only[uV.eq_2,aO,af,bd,f4,px,rh,dt]) (λk i hi ih=>by
  have hm:=aw hi;have hlen:((l.take i).map (λx=>24+x)).length=i:=by simp;omega
  have hx:=hb _ (i9 hi);have hg:((l.take i).map (λx=>24+x)++List.replicate (l.length-i) (0:Int))[i]?=some 0:=by rw[kw (by omega),hlen,px,ol,ba (by omega)]
  have hir:gB (i:Int) ((l.take i).map (λx=>24+x)++List.replicate (l.length-i) (0:Int)).length=true:=qn (by simp;omega);simp only[bd]at ih⊢;simp only[uV.eq_2,aN hi,au,aE hm,ae,hir,aj,bd,hg,ai (show i<9223372036854775807by omega)];have e:(l.take (i+1)).map (λx=>24+x)=(l.take i).map (λx=>24+x)++[24+l[i]]:=by rw[List.take_add_one,hm,gc];rfl
  rw[QG hlen hi,aQ (by omega),<-ih,e]) N 0 (by omega) (by omega);grind
def QN{x:List Ex}(hx:EX 1048576 x):∀(fs:List Field)(s a:Int),0<=s->(∀f,f∈fs->(fJ x f.2).1<=256)->s+fs.length*263<=10000->∀o,o∈(gy 1048576 x s a fs).1->0<=o/\o<=10000
 |[],_,_,_,_,_,o,h=>by cases h|f::r,s,a,h0,hf,hs,o,h=>by
  obtain⟨e1,e2,e3⟩:=hx.get (by omega) f.2;have av4:=hf f (cb ..);have hu:=pX e1 h0;simp at hs;rcases dl.1 h with rfl|h;.omega
  .exact QN hx r (min 1048576 (up (fJ x f.2).2 s+(fJ x f.2).1)) (max a (fJ x f.2).2) (by omega) (λg hg=>hf g (db _ hg)) (by omega) o h
def aie(h:eN ts xs fs){sl:List Field}(FK:sl.length<=16)(hr:kj sl ts.length):∀o,o∈(lay ts sl).1->0<=o/\o<=10000:=QN (kM (C:=1048576) (by omega) (by omega) h.1.2.1 ts.length (bc _)) sl 0 1 (by omega) (λf hf=>(O8 h.1 h.2.2.2.1 (hr f hf)).2.2.2) (by omega)
def S9(hN:1300<N)(hm:ig ts xs fs)(h:eN ts xs fs){f:Nat}(hf:f<fs.length):F73 N (ts,xs,fs,(f:Int))=some ((lay ts (gW fs f).2.2.2.1).1.map (λx=>24+x),24+vX ts (gW fs f).2.2.2.1):=by
 have hF:=h.func hf;obtain⟨hb,tv⟩:=va h.1 h.2.2.2.1 hF.2.1 hF.2.2.2.2.2.1;have hlen:=(Ah h.1 h.2.2.2.1 hF.2.1 hF.2.2.2.2.2.1).2.2.2;have h0:decide (0<=((lay ts (gW fs f).2.2.2.1).1.length:Int))=true:=bo (by omega);have hro:(decide (Int.toNat ((lay ts (gW fs f).2.2.2.1).1.length:Int)<=Int.toNat ((lay ts (gW fs f).2.2.2.1).1.length:Int))&&room (Int.toNat ((lay ts (gW fs f).2.2.2.1).1.length:Int)) 8)=true:=by rw[bo (bc _),ak (by have:=hF.2.1;omega) (by omega)];rfl
 rw[F73.eq_1,Ct hf,ae,Mw hN hm h hF.2.1 hF.2.2.2.2.2.1,ae];simp only;rw[h0,aj,aj,hro,aj,bd,Mx _ (by have:=hF.2.1;omega) hN (λx hx=>by have:=aie h hF.2.1 hF.2.2.2.2.2.1 x hx;omega),ae];rw[Pa ⟨hb.1,by omega⟩,ae,show up 8 (up (lay ts (gW fs f).2.2.2.1).2.2 (lay ts (gW fs f).2.2.2.1).2.1)=vX ts (gW fs f).2.2.2.1from rfl,aQ (by omega)]
def aif(fs:List Func)(f s:Int):Prop:=0<=f/\f<fs.length/\0<=s/\s<(gW fs f.toNat).2.2.2.1.length
def azJ(ts:List aB)(xs:List (List UInt8))(fs:List Func)(f s:Int):Int×Int×Int:=if j0 ts xs fs=0then(if aif fs f s then(24+(lay ts (gW fs f.toNat).2.2.2.1).1.getD s.toNat 0,(fl (gW fs f.toNat).2.2.2.1 s.toNat).2,0)else(0,0,2))else(0,0,j0 ts xs fs)
def yU(i:Int):Int->List fA->Int|a,[]=>a|a,x::r=>yU i (if x.1<=i then x.2else a) r
def Js(i:Int):∀(l:List fA)(a:Int)(b:Nat),b<=l.length->(∀j,j<b->(rn l j).1<=i)->(∀j,b<=j->j<l.length->i<(rn l j).1)->yU i a l=if b=0then a else(rn l (b-1)).2
 |[],a,b,hb,_,_=>by
  have:b=0:=by grind
  rw[ba this];rfl|x::r,a,0,hb,_,h2=>by have h0:i<x.1:=h2 0 (bc _) (by simp);rw[ba rfl,yU,bi (by omega),Js i r a 0 (by omega) (λj hj=>by omega) (λj _ hj=>h2 (j+1) (by omega) (by simp;omega)),ba rfl]|x::r,a,b+1,hb,h1,h2=>by have h0:x.1<=i:=h1 0 (by omega);rw[yU,ba h0,Js i r x.2 b (by simpa using hb) (λj hj=>h1 (j+1) (by omega)) (λj hj hl=>h2 (j+1) (by omega) (by simp;omega))];cases b with|zero=>rfl|succ b=>rfl
def Ze{l:List fA}(hl:l.length<=1000)(hN:1300<N)(i:Int):F85 N (l,i)=some (yU i 0 l):=by
 have key:∀(r pre:List fA)(a:Int)(k:Nat),l=pre++r->r.length<k->QP N k (l,i,a,(pre.length:Int))=some (yU i a r):=by intro r;induction r with|nil=>intro pre a k h hk;obtain⟨k,rfl⟩:∃m,k=m+1:=⟨k-1,by simp at hk;omega⟩;simp at h;subst h;simp[QP.eq_2,aO,af,yU]|cons x r ih=>
  intro pre a k h hk;obtain⟨k,rfl⟩:∃m,k=m+1:=⟨k-1,by simp at hk;omega⟩;have hlt:pre.length<l.length:=by rw[h];simp
  have ix:idx l (pre.length:Int)=some x:=nY h rfl;have:=ih (pre++[x]) (if x.1<=i then x.2else a) k (by rw[h];simp) (by simpa using hk);rw[bb,dq]at this;simp only[QP.eq_2,aN hlt,au,ix,ae,zY,ai (show pre.length<9223372036854775807by omega)];rw[yU,<-this];by_cases hx:x.1<=i;.rw[aT hx,ba hx];rfl
  .rw[aM hx,bi hx];rfl
 have:=key l [] 0 N rfl (by omega);simp at this;rw[F85.eq_1,this];rfl
def Ai{l:List fA}{n:Int}(hr:ee l n)(hl:l.length<=1000){i:Int}:∀(k lo hi:Nat),hi-lo<k->lo<=hi->hi<=l.length->(∀j,j<lo->(rn l j).1<=i)->(∀j,hi<=j->j<l.length->i<(rn l j).1)->∃b:Nat,b<=l.length/\(∀j,j<b->(rn l j).1<=i)/\(∀j,b<=j->j<l.length->i<(rn l j).1)/\D3 N k ((lo:Int),(hi:Int),l,i)=some ((b:Int),l)
 |0,_,_,h,_,_,_,_=>by omega|k+1,lo,hi,hk,hle,hhl,h1,h2=>by
  rw[D3.eq_2];by_cases he:lo=hi;.subst he;rw[aO,af];exact⟨lo,hhl,h1,h2,rfl⟩
  .have hm:av (Int.fdiv (aS (av ((lo:Int)+(hi:Int)))) 2)=(((lo+hi)/2:Nat):Int):=by rw[aQ (n:=(lo:Int)+(hi:Int)) (by omega),aZ (by omega),rt _ (by omega),aQ (by omega)];omega
   have hx:idx l (((lo+hi)/2:Nat):Int)=some (rn l ((lo+hi)/2)):=cE _ (by omega);rw[aN (show lo<hi by omega),au,hm,hx,ae];by_cases hc:(rn l ((lo+hi)/2)).1>i;.rw[aT hc,dj,af];exact Ai hr hl k lo ((lo+hi)/2) (by omega) (by omega) (by omega) h1 (λj hj hjl=>by have:=hr.mono hj hjl;omega)
   .rw[aM hc,fj,au,ai (show(lo+hi)/2<9223372036854775807by omega)];exact Ai hr hl k ((lo+hi)/2+1) hi (by omega) (by omega) hhl (λj hj=>by have:=hr.mono (i:=j) (j:=(lo+hi)/2) (by omega) (by omega);omega) h2
def ap6{l:List fA}{n i:Nat}(hN:1300<N)(hl:l.length<=300)(h:ee l n)(h1:1<=n)(h2:n<=200)(hi:i<n):Yy N (l,(n:Int),(i:Int))=some (yU i 0 l,0):=by
 obtain⟨b,hb,b1,b2,e⟩:=Ai (N:=N) h (by omega) (i:=(i:Int)) N 0 l.length (by omega) (by omega) (bc _) (λj hj=>by omega) (λj hj hjl=>by omega);have e':D3 N N (0,(l.length:Int),l,(i:Int))=some ((b:Int),l):=e;have hb0:b≠0:=λe0=>by have:=b2 0 (by omega) h.1;have:=h.2.1;omega
 have hx:idx l (((b-1:Nat)):Int)=some (rn l (b-1)):=cE _ (by omega);rw[Yy.eq_1,vC (by omega) (by omega),bi (by omega),ba h,ae,gT,af,aM (show¬(i:Int)<0 by omega),af,ae,aM (show¬(i:Int)>=(n:Int)by omega),af,e',ae];rw[Aa (by omega) (by omega),hx,ae,Js i l 0 b hb b1 b2,bi hb0]
def aci{l:List fA}(h:CB l)(i:Int):∀a,0<=a/\a<=18446744073709551615->0<=yU i a l/\yU i a l<=18446744073709551615:=by induction l with|nil=>intro a ha;exact ha|cons x r ih=>
 intro a ha;refine ih (λy hy=>h y (db _ hy)) _ ?_;split;.exact h x (cb ..)
 omega
def EJ(fs:List Func)(f i:Nat):Int:=yU i 0 (gW fs f).2.2.2.2.2.1
def mq(ts:List aB)(fs:List Func)(f i:Nat):Int:=24+vX ts (gW fs f).2.2.2.1+EJ fs f i
def QO(ts:List aB)(xs:List (List UInt8))(fs:List Func)(a:Nat):Int×Int:=if(vW ts xs fs a).2.2=0then(if mq ts fs (a/256-1) (a%256)>4096then(0,16)else(mq ts fs (a/256-1) (a%256),0))else(0,(vW ts xs fs a).2.2)
def Pb{a:Nat}(h:(vW ts xs fs a).2.2=0):eN ts xs fs/\tB fs a/\vW ts xs fs a=(((a/256-1:Nat):Int),((a%256:Nat):Int),0):=by
 unfold vW at h⊢;by_cases hc:j0 ts xs fs=0
 .rw[ba hc]at h⊢;by_cases ha:tB fs a;.rw[ba ha];exact⟨(Ag hc).1,ha,rfl⟩
  grind
 grind
def Aj(hm:ig ts xs fs){f i:Nat}(hf:f<fs.length):0<=EJ fs f i/\EJ fs f i<=18446744073709551615:=aci (hm.1.2.2.2.2 _ (n6 fn0 hf)).2.2.2.2.2.1 _ 0 (by omega)
def Ta(hN:1300<N)(hm:ig ts xs fs){a:Nat}(ha:a<18446744073709551616):F99 N (ts,xs,fs,(a:Int))=some (QO ts xs fs a):=by
 rw[F99.eq_1,QK hN hm ha,ae,QO];by_cases h0:(vW ts xs fs a).2.2=0
 .obtain⟨TM,⟨a1,a2,a3⟩,e⟩:=Pb h0;rw[ba h0,e];have hF:=TM.func (i:=a/256-1) (by omega);obtain⟨_,hb⟩:=va TM.1 TM.2.2.2.1 hF.2.1 hF.2.2.2.2.2.1;have hs:=Aj hm (f:=a/256-1) (i:=a%256) (by omega);have hn:=hF.2.2.2.2.2.2.1;rw[gT,af,ach hN hm TM (by omega),ae,Ct (by omega),ae,ae,ap6 hN (by have:=pW hF.2.2.2.2.2.2.2.2.1;omega) hF.2.2.2.2.2.2.2.2.1 hn.1 hn.2 a3,ae];rw[show yU ((a%256:Nat):Int) 0 (gW fs (a/256-1)).2.2.2.2.2.1=EJ fs (a/256-1) (a%256)from rfl];by_cases hx:EJ fs (a/256-1) (a%256)>4096;.rw[aT hx,au,ae,au,ba (show mq ts fs (a/256-1) (a%256)>4096by unfold mq;omega)]
  .have e2:av (av (24+vX ts (gW fs (a/256-1)).2.2.2.1)+av (EJ fs (a/256-1) (a%256)))=mq ts fs (a/256-1) (a%256):=by rw[aQ (n:=24+_) (by omega),aQ (n:=EJ _ _ _) (by omega),aQ (by omega)];rfl
   grind
 grind
end
def mw{d:fW}{r:List fW}(h:okD (d::r)):d.t.ok d.v/\okD r:=YD.1 h
def Zf{ts:List aB}{fs:List Func}(h1:(Ty.sl bK).ok ts)(h3:(Ty.sl dQ).ok fs):QL ts fs:=by
 refine⟨λt ht=>(h1.2 t ht).2.2.1,λf hf=>?_⟩;obtain⟨_,_,g3,_,g5,g6,g7⟩:=h3.2 f hf;refine⟨g3,λx hx=>?_,λx hx=>?_,λx hx=>?_⟩;.have:=g5.2 x hx;exact⟨this.2.1,this.2.2.1,this.2.2.2⟩
 .exact(g6.2 x hx).2
 .exact(g7.2 x hx).2
end Go.Proofs.YtgdkmdochlhhlaaGreat
end
