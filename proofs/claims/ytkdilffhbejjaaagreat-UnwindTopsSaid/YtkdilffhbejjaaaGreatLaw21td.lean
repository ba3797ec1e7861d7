/- Runs: what is valid, and their bytes. -/
import Derived.Test.YtkdilffhbejjaaaGreatLaw21tc
set_option linter.unusedVariables false
set_option linter.unusedSimpArgs false
namespace Go.Proofs.YtkdilffhbejjaaaGreat
open Go Go.bM Go.Sym
open Classical
theorem cq{α:Type}{l:List α}{i:Nat}(d:α)(h:i<l.length):idx l (i:Int)=some (l.getD i d):=by grind[idx]
theorem ny{α:Type}{l:List α}{i:Nat}(d:α)(h:i<l.length):l.getD i d∈l:=by grind
theorem qx{α:Type}{l:List α}{x:α}(d:α)(h:x∈l):∃i,i<l.length/\l.getD i d=x:=by obtain⟨i,hi,rfl⟩:=f8.1 h;exact⟨i,hi,by rw[ci,al hi];rfl⟩
theorem yt{i:Nat}(h0:0<i)(h:i<=9223372036854775807):av ((i:Int)-1)=((i-1:Nat):Int):=by rw[aI (by omega)];omega
theorem Ho{α:Type}{l:List α}(h:¬l.length=0):((l.length:Int)==(0:Int))=false:=by grind
noncomputable def rn(l:List eN)(i:Nat):eN:=l.getD i (0,0)
noncomputable def dF(l:List eN)(n:Int):Prop:=0<l.length/\(rn l 0).1=0/\(∀i,i+1<l.length->(rn l i).1<(rn l (i+1)).1/\(rn l i).2≠(rn l (i+1)).2)/\∀i,i<l.length->(rn l i).1<n
theorem dF.mono{l:List eN}{n:Int}(h:dF l n){i:Nat}:∀{j:Nat},i<=j->j<l.length->(rn l i).1<=(rn l j).1
 |0,h1,_=>by grind|j+1,h1,h2=>by
  by_cases e:i=j+1;.grind
  .have:=h.mono (i:=i) (j:=j) (by omega) (by omega);have:=(h.2.2.1 j h2).1;omega
theorem VB{N:Nat}{l:List eN}{n:Int}(hN:l.length<N)(hl:l.length<=1000000):S6 N (l,n)=some (decide (dF l n)):=by
 rw[S6.eq_1];by_cases h0:l.length=0;.rw[show((l.length:Int)==(0:Int))=true by rw[h0];rfl,aq,ae,aq,bv λh=>by have:=h.1;omega]
 .have e0:idx l (0:Int)=some (rn l 0):=cq (i:=0) (0,0) (by omega);have e1:idx l (av ((l.length:Int)-1))=some (rn l (l.length-1)):=by rw[yt (by omega) (by omega)];exact cq _ (by omega)
  rw[Ho h0,af,e0,ae,e1,ae];by_cases h1:(rn l 0).1=0
  .rw[show((rn l 0).1!=(0:Int))=false by simp[h1],af,ae];by_cases h2:(rn l (l.length-1)).1>=n;.rw[bm h2,aq,bv λh=>by have:=h.2.2.2 (l.length-1) (by omega);omega]
   .rw[bv h2,af,ae,bm (show 1<=l.length by omega),aj];have hd:(l.drop 1).length=l.length-1:=by simp
    have key:=gx (n:=(l.drop 1).length) (a:=(.inr ():Bool⊕Unit)) (b:=.inl false) (q:=λi=>decide ((rn l (i+1)).1<=(rn l i).1)||((rn l (i+1)).2==(rn l i).2)) (Lf:=λk i=>f126.cI N k (l.drop 1,((l.drop 1).length:Int),i,(rn l i.toNat).1,(rn l i.toNat).2)) (λk _=>by simp only[f126.cI.eq_2,aJ,af]) (λk i hi _=>by
      have e:idx (l.drop 1) (i:Int)=some (rn l (i+1)):=by refine aD ?_;rw[sT,rn,ci,Nat.add_comm 1 i,al (by omega)];rfl
      simp only[f126.cI.eq_2,aG hi,aq,e,ae,ai (show i<9223372036854775807by omega),bd,i9,fr,kp];by_cases ha:(rn l (i+1)).1<=(rn l i).1;.simp[ha]
      .cases hb:((rn l (i+1)).2==(rn l i).2)<;>simp[ha]) (k:=N) (by omega);simp only[Int.toNat_zero]at key;rw[key,ae];by_cases hex:∃i,i<(l.drop 1).length/\(decide ((rn l (i+1)).1<=(rn l i).1)||((rn l (i+1)).2==(rn l i).2))=true
    .rw[bb hex,bv];rintro⟨_,_,h3,_⟩;obtain⟨i,hi,hq⟩:=hex;obtain⟨g1,g2⟩:=h3 i (by omega);rw[f5,db,kv]at hq;rcases hq with hq|hq;.omega
     .exact g2 hq.symm
    .rw[be hex,bm];have h3:∀i,i+1<l.length->(rn l i).1<(rn l (i+1)).1/\(rn l i).2≠(rn l (i+1)).2:=λi hi=>by have:¬(decide ((rn l (i+1)).1<=(rn l i).1)||((rn l (i+1)).2==(rn l i).2))=true:=λh=>hex ⟨i,by omega,h⟩;rw[f5,db,kv,rh]at this;exact⟨by omega,λh=>this.2 h.symm⟩
     have m:∀j,j<l.length->∀i,i<=j->(rn l i).1<=(rn l j).1:=by intro j;induction j with|zero=>intro _ i hi;rw[Nat.le_zero.1 hi];exact vx _|succ j ih=>
       intro hj i hi;by_cases e:i=j+1;.rw[e];exact vx _
       .have:=ih (by omega) i (by omega);have:=(h3 j hj).1;omega
     exact⟨by omega,h1,h3,λi hi=>by have:=m (l.length-1) (by omega) i (by omega);omega⟩
  .rw[show((rn l 0).1!=(0:Int))=true by simp[h1],aq,ae,aq,bv λh=>h1 h.2.1]
theorem uq{N:Nat}{l:List eN}{n:Nat}(hN:l.length<N)(hl:l.length<=1000000):Z3 N (l,(n:Int))=some (if n<1\/n>200then 2 else if dF l n then 0 else 8):=by rw[Z3.eq_1,Pw.eq_1,VB hN hl]<;>grind
theorem FA{N:Nat}{l:List eN}{n:Int}(hN:l.length<N)(hl:l.length<=1000000):PK N (l,n)=some (decide (dF l n)):=by
 rw[PK.eq_1];by_cases h0:l.length=0;.rw[show decide ((l.length:Int)<1)=true by rw[h0];rfl,aq,ae,aq,bv λh=>by have:=h.1;omega]
 .have e0:idx l (0:Int)=some (rn l 0):=cq (i:=0) (0,0) (by omega);rw[bv (show¬(l.length:Int)<1by omega),af,e0,ae,ae];by_cases h1:(rn l 0).1=0
  .rw[show((rn l 0).1!=(0:Int))=false by simp[h1],af];have key:=gx (n:=l.length) (a:=(.inr ():Bool⊕Unit)) (b:=.inl false) (q:=λi=>decide ((rn l i).1>=n\/0<i/\((rn l (i-1)).1>=(rn l i).1\/(rn l (i-1)).2=(rn l i).2))) (Lf:=λk i=>f205.aP N k (l,n,i)) (λk _=>by simp only[f205.aP.eq_2,aJ,af]) (λk i hi _=>by
     have e:idx l (i:Int)=some (rn l i):=cq _ hi;simp only[f205.aP.eq_2,aG hi,aq,e,ae,ai (show i<9223372036854775807by omega)];by_cases ha:(rn l i).1>=n;.simp[ha]
     .by_cases hz:0<i
      .have e':idx l (av ((i:Int)-1))=some (rn l (i-1)):=by rw[yt hz (by omega)];exact cq _ (by omega)
       simp only[ha,e',rl,af,bm (show(i:Int)>0 by omega),aq,ae,hz,true_and,false_or];by_cases hb:(rn l (i-1)).1>=(rn l i).1;.simp[hb]
       .by_cases hd:(rn l (i-1)).2=(rn l i).2;.simp[hb,hd]
        .rw[show((rn l (i-1)).2==(rn l i).2)=false by simpa using hd];simp[hb,hd]
      .simp only[ha,rl,af,bv (show¬(i:Int)>0 by omega),ae,hz,false_and,or_self];simp) (k:=N) hN;rw[key,ae];by_cases hex:∃i,i<l.length/\decide ((rn l i).1>=n\/0<i/\((rn l (i-1)).1>=(rn l i).1\/(rn l (i-1)).2=(rn l i).2))=true
   .rw[bb hex,bv];rintro⟨_,_,h3,h4⟩;obtain⟨i,hi,hq⟩:=hex;rcases dv hq with hq|⟨hz,hq⟩;.have:=h4 i hi;omega
    .obtain⟨g1,g2⟩:=h3 (i-1) (by omega);rw[show i-1+1=i by omega]at g1 g2;rcases hq with hq|hq;.omega
     .exact g2 hq
   .rw[be hex,bm];have hno:∀i,i<l.length->¬((rn l i).1>=n\/0<i/\((rn l (i-1)).1>=(rn l i).1\/(rn l (i-1)).2=(rn l i).2)):=λi hi h=>hex ⟨i,hi,bm h⟩;refine⟨by omega,h1,λi hi=>?_,λi hi=>?_⟩;.have:=hno (i+1) hi;simp only[Nat.add_sub_cancel,rh,not_and]at this;have:=this.2 (by omega);exact⟨by omega,this.2⟩
    .have:=hno i hi;simp only[rh]at this;omega
  .rw[show((rn l 0).1!=(0:Int))=true by simp[h1],aq,bv λh=>h1 h.2.1]
theorem oJ{l:List eN}{n:Nat}(h:dF l n):l.length<=n:=by
 have key:∀i:Nat,i<l.length->(i:Int)<=(rn l i).1:=by intro i;induction i with|zero=>have:=h.2.1;omega|succ i ih=>intro hi;have:=(h.2.2.1 i hi).1;omega
 have h0:=h.1;have:=key (l.length-1) (by omega);have:=h.2.2.2 (l.length-1) (by omega);omega
noncomputable def C1:Int->List eN->List Int|_,[]=>[]|was,x::r=>V (x.1-was).toNat++(V x.2.toNat++C1 x.1 r)
noncomputable def rU(l:List eN):List Int:=V l.length++C1 0 l
noncomputable def Inc:Int->List eN->Prop|_,[]=>True|was,x::r=>was<=x.1/\x.1<=1000/\(0<=x.2/\x.2<=18446744073709551615)/\Inc x.1 r
noncomputable def Hp(l:List eN):Prop:=∀x∈l,0<=x.2/\x.2<=18446744073709551615
theorem JV:∀(was:Int)(l:List eN),(C1 was l).length<=l.length*20|_,[]=>by simp[C1]|was,x::r=>by have:=cR (x.1-was).toNat;have:=cR x.2.toNat;have:=JV x.1 r;simp[C1,ba,eQ];omega
theorem n8(l:List eN):(rU l).length<=10+l.length*20:=by have:=cR l.length;have:=JV 0 l;rw[rU,ba];omega
theorem dF.inc{l:List eN}{n:Int}(h:dF l n)(hn:n<=1000)(hr:Hp l):Inc 0 l:=by
 have key:∀(m i:Nat)(was:Int),m=l.length-i->was>=0->(i<l.length->was<=(rn l i).1)->Inc was (l.drop i):=by intro m;induction m with|zero=>intro i was hm _ _;rw[List.drop_eq_nil_of_le (by omega)];trivial|succ m ih=>
  intro i was hm hw hle;have hi:i<l.length:=by omega
  have e:l[i]=rn l i:=by rw[rn,ci,al hi];rfl
  rw[ib hi,e];refine⟨hle hi,by have:=h.2.2.2 i hi;omega,hr _ (ny _ hi),ih (i+1) _ (by omega) (by have:=hle hi;omega) λhi'=>?_⟩;have:=(h.2.2.1 i hi').1;omega
 have:=key l.length 0 0 (by omega) (by omega) λ_=>by rw[h.2.1];exact vx _
 grind
theorem VD{a b:Int}(h:0<=b/\b<=a/\a<=1000):av (a-b)=a-b:=aI (by omega)
theorem FB{N:Nat}(hN:20<N){l:List eN}(hl:l.length<=100000):∀(r pre:List eN)(was:Int)(out:List Int)(k:Nat),l=pre++r->Inc was r->0<=was->r.length<k->out.length<=100000+pre.length*20->f122.nV N k (was,l,(l.length:Int),(pre.length:Int),out)=some (out++C1 was r)
 |[],pre,was,out,k+1,he,_,_,_,_=>by simp at he;subst he;rw[f122.nV.eq_2,aJ,af,C1,dt]|x::r,pre,was,out,k+1,he,hi,hw,hk,ho=>by
  obtain⟨i1,i2,i3,i4⟩:=hi;have hlen:pre.length+(r.length+1)=l.length:=by rw[he];simp
  have:=cR (x.1-was).toNat;have:=cR x.2.toNat;have ih:=FB hN hl r (pre++[x]) x.1 (out++V (x.1-was).toNat++V x.2.toNat) k (by rw[he];simp) i4 (by omega) (by simp at hk;omega) (by simp only[ba,dj];omega);obtain⟨v,hv⟩:=du i3.1;rw[f122.nV.eq_2,aG (by omega),aq,he,rz,ae,<-he,VD ⟨hw,i1,i2⟩,nu hN (by omega),ae,ak (by omega) (by omega),aj,hv,w8 hN (by omega),ae,ak (by simp only[ba];have:=cR v;omega) (by omega),aj,ai (by omega)];rw[show((pre++[x]).length:Int)=((pre.length+1:Nat):Int)by simp]at ih;rw[hv]at ih;simp only[bd]at ih;rw[ih,C1,hv];simp[bi]|_,_,_,_,0,_,_,_,h,_=>by omega
theorem C2{N:Nat}(hN:20<N){l:List eN}(hl:l.length<=100000):∀(r pre:List eN)(was:Int)(out:List Int)(k:Nat),l=pre++r->Inc was r->0<=was->r.length<k->out.length<=100000+pre.length*20->f172.cW N k (l,was,(pre.length:Int),out)=some (out++C1 was r)
 |[],pre,was,out,k+1,he,_,_,_,_=>by simp at he;subst he;rw[f172.cW.eq_2,aJ,af,C1,dt]|x::r,pre,was,out,k+1,he,hi,hw,hk,ho=>by
  obtain⟨i1,i2,i3,i4⟩:=hi;have hlen:pre.length+(r.length+1)=l.length:=by rw[he];simp
  have:=cR (x.1-was).toNat;have:=cR x.2.toNat;have ih:=C2 hN hl r (pre++[x]) x.1 (out++V (x.1-was).toNat++V x.2.toNat) k (by rw[he];simp) i4 (by omega) (by simp at hk;omega) (by simp only[ba,dj];omega);obtain⟨v,hv⟩:=du i3.1;have hx:idx l (pre.length:Int)=some x:=by rw[he];exact rz _ _ _
  simp only[f172.cW.eq_2,aG (show pre.length<l.length by omega),aq,hx,ae,VD ⟨hw,i1,i2⟩,Ab hN (show 0<=x.1-was/\x.1-was<=9223372036854775807by omega),ak (show out.length+(V (x.1-was).toNat).length<=10000000by omega) (show 1<=1000by omega),aj,hv,ko hN (show v<18446744073709551616by omega),ak (show(out++V (x.1-was).toNat).length+(V v).length<=10000000by simp only[ba];have:=cR v;omega) (show 1<=1000by omega),ai (show pre.length<9223372036854775807by omega)];rw[show((pre++[x]).length:Int)=((pre.length+1:Nat):Int)by simp]at ih;rw[hv]at ih;simp only[bd]at ih;rw[ih,C1,hv];simp[bi]|_,_,_,_,0,_,_,_,h,_=>by omega
theorem YI{N:Nat}(hN:1000<N){l:List eN}{n:Nat}(hl:l.length<=1000)(h:dF l n)(h1:1<=n)(h2:n<=200)(hr:Hp l):Tg N (l,(n:Int))=some (rU l,0):=by have hi:=h.inc (by omega) hr;have hv:=cR l.length;rw[Tg.eq_1,uq (by omega) (by omega),be (by omega),bb h,ae,gR,nj (by omega),w8 (by omega) (by omega),ae];have:=FB (N:=N) (by omega) (l:=l) (by omega) l [] 0 (V l.length) N rfl hi (by omega) (by omega) (by simp;omega);simp at this;rw[this];rfl
theorem C3{N:Nat}(hN:1000<N){l:List eN}{n:Nat}(hl:l.length<=1000)(h:dF l n)(h2:n<=200)(hr:Hp l):PM N l=some (rU l):=by have hi:=h.inc (by omega) hr;have hv:=cR l.length;rw[PM.eq_1,nj (by omega),ko (by omega) (by omega),ae];have:=C2 (N:=N) (by omega) (l:=l) (by omega) l [] 0 (V l.length) N rfl hi (by omega) (by omega) (by simp;omega);simp at this;rw[this];rfl
end Go.Proofs.YtkdilffhbejjaaaGreat
