/- A part of the proof: Law21tf, Law21tg. -/
import Derived.Test.YtkdilffhbejjaaaGreatLaw21te
set_option linter.unusedVariables false
set_option linter.unusedSimpArgs false
namespace Go.Proofs.YtkdilffhbejjaaaGreat
open Go Go.bM Go.Sym
open Classical
theorem P7{N:Nat}{l:List aA}{i:Nat}(hN:1200<N)(hi:i<l.length)(hf:(dQ l i).2.2.2.length<=1000):T9 N (l,(i:Int))=some (decide (cU l.length i (dQ l i))):=by
 have e:idx l (i:Int)=some (dQ l i):=cq _ hi;rw[T9.eq_1,e,ae];unfold cU;generalize dQ l i=t at hf;obtain⟨k,el,le,fs⟩:=t;simp only at hf⊢;rw[Mh (by omega) (by omega)];simp only[AZ,dg,fP,ae,tK (show fs.length+100<N by omega) (show fs.length<=1000000by omega)];have g0:decide ((fs.length:Int)=0)=decide (fs.length=0):=by rw[ka];omega
 by_cases h1:k=1\/k=2\/k=3;.rw[show(decide (k=1)||(decide (k=2)||decide (k=3)))=true by simpa using h1,aq,bb h1,g0];congr 1;by_cases a1:el=0<;>by_cases a2:le=0<;>by_cases a3:fs.length=0<;>simp[a1,a2,a3];all_goals(intro h;simp[h]at a3)
 .rw[show(decide (k=1)||(decide (k=2)||decide (k=3)))=false by simpa using h1,af,be h1];by_cases h2:k=4\/k=7;.rw[show(decide (k=4)||decide (k=7))=true by simpa using h2,aq,bb h2,g0];congr 1;by_cases b1:0<=el<;>by_cases b2:el<(l.length:Int)<;>by_cases a2:le=0<;>by_cases a3:fs.length=0<;>simp[b1,b2,a2,a3];all_goals(intro h;simp[h]at a3)
  .rw[show(decide (k=4)||decide (k=7))=false by simpa using h2,af,be h2];by_cases h3:k=6;.rw[bm h3,aq,bb h3,g0];congr 1;by_cases b1:0<=el<;>by_cases b2:el<(i:Int)<;>by_cases a1:1<=le<;>by_cases a2:le<=16<;>by_cases a3:fs.length=0<;>simp[b1,b2,a1,a2,a3];all_goals(intro h;simp[h]at a3)
   .rw[bv h3,af,be h3];by_cases h4:k=5
    .rw[bm h4,aq,bb h4];have g3:decide ((fs.length:Int)>0)=decide (0<fs.length):=by rw[ka];omega
     by_cases hq:∀f,f∈fs->0<=f.2/\f.2<(i:Int)
     .rw[bb hq];simp only[g3,tK (show fs.length+100<N by omega) (show fs.length<=1000000by omega),ae,fP];by_cases a5:cr fs;.by_cases a1:el=0<;>by_cases a2:le=0<;>by_cases a3:0<fs.length<;>by_cases a4:fs.length<=8;all_goals first|(rw[aS (p:=el=0/\le=0/\(0<fs.length/\fs.length<=8)/\cr fs/\∀f,f∈fs->0<=f.2/\f.2<(i:Int)) ⟨a1,a2,⟨a3,a4⟩,a5,hq⟩,aS a1,aS a2,aS a3,aS (p:=(fs.length:Int)<=8/\cr fs) ⟨by omega,a5⟩];rfl)|(rw[aM (p:=el=0/\le=0/\(0<fs.length/\fs.length<=8)/\cr fs/\∀f,f∈fs->0<=f.2/\f.2<(i:Int)) λh=>a1 h.1,aM a1,nz];done)|(rw[aM (p:=el=0/\le=0/\(0<fs.length/\fs.length<=8)/\cr fs/\∀f,f∈fs->0<=f.2/\f.2<(i:Int)) λh=>a2 h.2.1,aM a2,nz,f0];done)|(rw[aM (p:=el=0/\le=0/\(0<fs.length/\fs.length<=8)/\cr fs/\∀f,f∈fs->0<=f.2/\f.2<(i:Int)) λh=>a3 h.2.2.1.1,aM a3,nz,f0,f0];done)|(rw[aM (p:=el=0/\le=0/\(0<fs.length/\fs.length<=8)/\cr fs/\∀f,f∈fs->0<=f.2/\f.2<(i:Int)) λh=>a4 h.2.2.1.2,aM (p:=(fs.length:Int)<=8/\cr fs) λh=>a4 (by omega),f0,f0,f0];done)
      .rw[aM (p:=el=0/\le=0/\(0<fs.length/\fs.length<=8)/\cr fs/\∀f,f∈fs->0<=f.2/\f.2<(i:Int)) λh=>a5 h.2.2.2.1,aM (p:=(fs.length:Int)<=8/\cr fs) λh=>a5 h.2,f0,f0,f0]
     .rw[be hq,aM (p:=el=0/\le=0/\(0<fs.length/\fs.length<=8)/\cr fs/\∀f,f∈fs->0<=f.2/\f.2<(i:Int)) λh=>hq h.2.2.2.2]
    .rw[bv h4,af,be h4,aM (p:=False) id]
theorem cU.fields{n i:Nat}{t:aA}(h:cU n i t):(t.1=5\/t.2.2.2=[])/\t.2.2.2.length<=8/\∀f,f∈t.2.2.2->0<=f.2/\f.2<i:=by
 have nil:t.2.2.2.length=0->(t.1=5\/t.2.2.2=[])/\t.2.2.2.length<=8/\∀f,f∈t.2.2.2->0<=f.2/\f.2<i:=λh=>by have e:=d8 h;rw[e];exact⟨.inr rfl,by simp,λf hf=>by cases hf⟩
 unfold cU at h<;>grind
theorem cU.ptr{n i:Nat}{t:aA}(h:cU n i t)(hk:t.1=4\/t.1=7):0<=t.2.1/\t.2.1<n:=by unfold cU at h<;>grind
theorem cU.arr{n i:Nat}{t:aA}(h:cU n i t)(hk:t.1=6):(0<=t.2.1/\t.2.1<i)/\1<=t.2.2.1/\t.2.2.1<=16:=by unfold cU at h<;>grind
noncomputable def oO(out:List Int):List Field->Int|[]=>0|f::r=>out.getD f.2.toNat 0+oO out r
noncomputable def Ac(below out:List Int)(t:aA):Int:=min (1+(if t.1=4then below.getD t.2.1.toNat 0 else if t.1=7then 16*below.getD t.2.1.toNat 0 else if t.1=6then t.2.2.1*out.getD t.2.1.toNat 0 else 0)+oO out t.2.2.2) 5001
noncomputable def jE(below:List Int)(l:List aA):Nat->List Int|0=>[]|i+1=>jE below l i++[Ac below (jE below l i) (dQ l i)]
noncomputable def W(l:List Int):Prop:=∀x,x∈l->0<=x/\x<=5001
theorem tL(below:List Int)(l:List aA):∀i,(jE below l i).length=i|0=>rfl|i+1=>by simp[jE,tL below l i]
theorem W.getD{l:List Int}(h:W l)(i:Nat):0<=l.getD i 0/\l.getD i 0<=5001:=by rw[ci];cases e:l[i]?with|none=>simp|some x=>exact h x (aU e)
theorem A0{out:List Int}(h:W out):∀fs:List Field,0<=oO out fs/\oO out fs<=fs.length*5001|[]=>by simp[oO]|f::r=>by have:=A0 h r;have:=h.getD f.2.toNat;simp only[oO,eQ];omega
theorem VJ{below out:List Int}{n i:Nat}{t:aA}(hb:W below)(ho:W out)(ht:cU n i t):0<=Ac below out t/\Ac below out t<=5001:=by
 unfold Ac;have:=A0 ho t.2.2.2;have h1:=hb.getD t.2.1.toNat;have h2:=ho.getD t.2.1.toNat;have:0<=(if t.1=4then below.getD t.2.1.toNat 0 else if t.1=7then 16*below.getD t.2.1.toNat 0 else if t.1=6then t.2.2.1*out.getD t.2.1.toNat 0 else 0):=by
  split;.omega
  .split;.omega
   .split;.rename_i h6;exact se (by have:=ht.arr h6;omega) h2.1
    .omega
 omega
theorem yu{below:List Int}{l:List aA}(hb:W below):∀i,i<=l.length->(∀j,j<l.length->cU l.length j (dQ l j))->W (jE below l i)
 |0,_,_=>λx hx=>by cases hx|i+1,hi,ht=>λx hx=>by
  simp[jE,bj,bo]at hx;rcases hx with hx|rfl;.exact yu hb i (by omega) ht x hx
  .exact VJ hb (yu hb i (by omega) ht) (ht i (by omega))
theorem C7{α:Type}{a b:List α}{i:Nat}(d:α)(h:i<a.length):(a++b).getD i d=a.getD i d:=by grind
theorem J0{a b:List Int}:∀{fs:List Field},(∀f,f∈fs->0<=f.2/\f.2<a.length)->oO (a++b) fs=oO a fs|[],_=>rfl|f::r,h=>by have:=h f cb;rw[oO,oO,C7 _ (by omega),J0 λg hg=>h g (dl _ hg)]
theorem lC{l:List Int}{i:Nat}(h:i<l.length):l[i]?=some (l.getD i 0):=by grind
theorem pz{x:Int}{n:Nat}(h:0<=x/\x<n):ga x n=true:=by grind[ga]
theorem VK{N:Nat}{fs:List Field}{now below:List Int}(ap1:W now)(a:List aA)(b c:Int)(d:List aA)(e g:Int)(hl:fs.length<=1000):∀(r pre:List Field)(n:Int)(k:Nat),fs=pre++r->(∀f,f∈r->0<=f.2/\f.2<now.length)->0<=n->n<=100000+pre.length*5001->r.length<k->f159.nP N k (a,b,n,c,d,e,g,fs,(fs.length:Int),(pre.length:Int),below,now)=some (a,b,n+oO now r,c,d,e,g,below,now):=by intro r;induction r with|nil=>intro pre n k he _ _ _ hk;obtain⟨k,rfl⟩:∃k',k=k'+1:=⟨k-1,by simp at hk;omega⟩;simp at he;subst he;rw[f159.nP.eq_2,aJ,af,oO,xi]|cons x r ih=>
 intro pre n k he hf h0 hn hk;obtain⟨k,rfl⟩:∃k',k=k'+1:=⟨k-1,by simp at hk;omega⟩;have hlen:pre.length+(r.length+1)=fs.length:=by rw[he];simp
 have hx:idx fs (pre.length:Int)=some x:=by rw[he];exact rz _ _ _
 have hx2:=hf x cb;have hg:=ap1.getD x.2.toNat;have ih:=ih (pre++[x]) (n+now.getD x.2.toNat 0) k (by rw[he];simp) (λf h=>hf f (dl _ h)) (by omega) (by rw[ba,dj];omega) (by simp at hk;omega);rw[f159.nP.eq_2,aG (by omega),aq,hx,ae,pz hx2,aj,lC (by omega),ae,aI (by omega),ai (by omega)];rw[show((pre++[x]).length:Int)=((pre.length+1:Nat):Int)by simp]at ih;rw[ih,oO,Int.add_assoc]
theorem NU(n:Nat):W (List.replicate n 0):=λx hx=>by grind
theorem W.app{a b:List Int}(ha:W a)(hb:W b):W (a++b):=λx hx=>(bj.1 hx).elim (ha x) (hb x)
theorem NV{a:List Int}{n i:Nat}{v:Int}(ha:a.length=i)(hi:i<n):(a++List.replicate (n-i) 0).set i v=(a++[v])++List.replicate (n-(i+1)) 0:=by rw[pr _ _ (by omega),show n-i=(n-(i+1))+1by omega,pb,show i-a.length=0 by omega,bi];rfl
noncomputable def yw(l:List aA):Prop:=∀i,i<l.length->cU l.length i (dQ l i)
theorem aeu{N:Nat}{l:List aA}{below:List Int}(hN:1000<N)(hl:l.length<=100)(ht:yw l)(hb:W below)(Gg:below.length=l.length)(r:Int):
 f159.eE N N (l,r,l,(l.length:Int),(0:Int),below,List.replicate l.length 0)=some (l,r,jE below l l.length):=by have key:=jP (n:=l.length) (Lf:=λk i=>f159.eE N k (l,r,l,(l.length:Int),i,below,jE below l i.toNat++List.replicate (l.length-i.toNat) 0)) (g:=λ_=>some (l,r,jE below l l.length)) (λk=>by simp only[f159.eE.eq_2,aJ,af,bd,pm,px,dt]) (λk i hi ih=>by
   have e:idx l (i:Int)=some (dQ l i):=cq _ hi;have ht':=ht i hi;have hf:=ht'.fields;have hW:=yu (i:=i) (l:=l) hb (by omega) ht;have J1:=tL below l i;have hnl:(jE below l i++List.replicate (l.length-i) (0:Int)).length=l.length:=by simp[J1];omega
   have hWn:W (jE below l i++List.replicate (l.length-i) 0):=hW.app (NU _);have ap2:oO (jE below l i++List.replicate (l.length-i) 0) (dQ l i).2.2.2=oO (jE below l i) (dQ l i).2.2.2:=J0 λf h=>by have:=hf.2.2 f h;rw[J1];exact this
   have Mi:∀v:Int,(jE below l i++List.replicate (l.length-i) 0).set i v=(jE below l i++[v])++List.replicate (l.length-(i+1)) 0:=λv=>NV J1 hi;have fin:∀n:Int,0<=n->n<=100000->1+(if(dQ l i).1=4then below.getD (dQ l i).2.1.toNat 0 else if(dQ l i).1=7then 16*below.getD (dQ l i).2.1.toNat 0 else if(dQ l i).1=6then(dQ l i).2.2.1*(jE below l i).getD (dQ l i).2.1.toNat 0 else 0)=n->(Option.bind (f159.nP N N (l,(i:Int),n,r,l,(l.length:Int),(i:Int),(dQ l i).2.2.2,((dQ l i).2.2.2.length:Int),(0:Int),below,jE below l i++List.replicate (l.length-i) 0)) λP8=>(aF (ga P8.2.1 P8.2.2.2.2.2.2.2.2.length) ((Option.bind (P8.2.2.2.2.2.2.2.2[(Int.toNat P8.2.1)]?) λx32=>f159.eE N k (P8.1,P8.2.2.2.1,P8.2.2.2.2.1,P8.2.2.2.2.2.1,(av (P8.2.2.2.2.2.2.1+(1:Int))),P8.2.2.2.2.2.2.2.1,(P8.2.2.2.2.2.2.2.2.set (Int.toNat P8.2.1) (min P8.2.2.1 (5001:Int))))))))=some (l,r,jE below l l.length):=by intro n h0 hn he;have:=VK (N:=N) (below:=below) hWn l (i:Int) r l (l.length:Int) (i:Int) (fs:=(dQ l i).2.2.2) (by omega) (dQ l i).2.2.2 [] n N rfl (λf h=>by rw[hnl];have:=hf.2.2 f h;omega) h0 (by simp;omega) (by omega);rw[show(([]:List Field).length:Int)=0from rfl]at this;rw[this,ae];simp only[bd];rw[hnl,cl hi,aj,lC (by rw[hnl];exact hi),ae,ai (by omega),Mi,ap2];simp only[bd]at ih;rw[jE,Ac,he]at ih;exact ih
   have hbd:=hb.getD (dQ l i).2.1.toNat;have hod:=hW.getD (dQ l i).2.1.toNat;simp only[f159.eE.eq_2,aG hi,aq,e,ae,bd];by_cases h4:(dQ l i).1=4;.have hp:=ht'.ptr (.inl h4);rw[bb h4]at fin;rw[show((dQ l i).1==(4:Int))=true by simp[h4],aq,pz (by omega),aj,lC (by omega),ae,aI (by omega)];exact fin _ (by omega) (by omega) rfl
   .rw[show((dQ l i).1==(4:Int))=false by simp[h4],af];rw[be h4]at fin;by_cases h7:(dQ l i).1=7;.have hp:=ht'.ptr (.inr h7);rw[bb h7]at fin;rw[show((dQ l i).1==(7:Int))=true by simp[h7],aq,pz (by omega),aj,lC (by omega),ae,aI (n:=16*_) (by omega),aI (by omega)];exact fin _ (by omega) (by omega) rfl
    .rw[show((dQ l i).1==(7:Int))=false by simp[h7],af];rw[be h7]at fin;by_cases h6:(dQ l i).1=6;.have hp:=ht'.arr h6;rw[bb h6]at fin;have hm:0<=(dQ l i).2.2.1*(jE below l i).getD (dQ l i).2.1.toNat 0/\(dQ l i).2.2.1*(jE below l i).getD (dQ l i).2.1.toNat 0<=16*5001:=⟨se (by omega) hod.1,sf (by omega) hod.2 hod.1 (by omega)⟩;rw[show((dQ l i).1==(6:Int))=true by simp[h6],aq,pz (by rw[hnl];omega),aj,lC (by rw[hnl];omega),ae,C7 _ (by rw[J1];omega),aI (n:=(dQ l i).2.2.1*_) (by omega),aI (by omega)];exact fin _ (by omega) (by omega) rfl
     .rw[show((dQ l i).1==(6:Int))=false by simp[h6],af];rw[be h6]at fin;exact fin 1 (by omega) (by omega) rfl) N 0 (by omega) (by omega);simpa[jE]using key
noncomputable def wR(l:List aA):Nat->List Int|0=>jE (List.replicate l.length 0) l l.length|d+1=>jE (wR l d) l l.length
theorem C8{l:List aA}(ht:yw l):∀d,W (wR l d)/\(wR l d).length=l.length|0=>⟨yu (NU _) _ (by omega) ht,tL _ _ _⟩|d+1=>⟨yu (C8 ht d).1 _ (by omega) ht,tL _ _ _⟩
theorem P9{N:Nat}{l:List aA}(hN:1000<N)(hl:l.length<=100)(ht:yw l):SW N l=some (wR l 3):=by
 have hr:(decide (Int.toNat (l.length:Int)<=Int.toNat (l.length:Int))&&room (Int.toNat (l.length:Int)) 8)=true:=by rw[bm (bc _),ak (by omega) (by omega)];rfl
 have h0:decide (0<=(l.length:Int))=true:=bm (by omega);have step:∀(j:Nat)(b:List Int)k,j<4->W b->b.length=l.length->f159.bz N (k+1) (l,(j:Int),b)=f159.bz N k (l,((j+1:Nat):Int),jE b l l.length):=λj b k hj hb Gg=>by rw[f159.bz.eq_2,bm (by omega),aq,h0,aj,aj,hr,aj,bd,aeu hN hl ht hb Gg,ae];simp only;rw[ai (by omega)]
 obtain⟨k,rfl⟩:∃k,N=k+5:=⟨N-5,by omega⟩;rw[SW.eq_1,h0,aj,hr,aj,bd];have s0:=step 0 (List.replicate l.length 0) (k+4) (by omega) (NU _) (by simp);have s1:=step 1 _ (k+3) (by omega) (C8 ht 0).1 (C8 ht 0).2;have s2:=step 2 _ (k+2) (by omega) (C8 ht 1).1 (C8 ht 1).2;have s3:=step 3 _ (k+1) (by omega) (C8 ht 2).1 (C8 ht 2).2;have e:f159.bz (k+5) (k+5) (l,(0:Int),List.replicate l.length 0)=some (wR l 3):=by refine s0.trans (s1.trans (s2.trans (s3.trans ?_)));rfl
 rw[e];rfl
end Go.Proofs.YtkdilffhbejjaaaGreat
namespace Go.Proofs.YtkdilffhbejjaaaGreat
open Go Go.bM Go.Sym
open Classical
noncomputable def partsOf(t:aA):List Int:=(if t.1=6then[t.2.1]else[])++t.2.2.2.map (·.2)
theorem tM{α β:Type}(g:α->β):∀fs:List α,fs.flatMap (λf=>[g f])=fs.map g|[]=>rfl|x::r=>by rw[d7,tM g r];rfl
theorem VL{N:Nat}{t:aA}(hN:1100<N)(hf:t.2.2.2.length<=1000):Ub N (t.1,t.2.1,t.2.2.1,t.2.2.2)=some (partsOf t):=by
 obtain⟨k,el,le,fs⟩:=t;simp at hf⊢;rw[Ub.eq_1];have key:=λs(hs:s.length<=1)=>gO (l:=fs) (enc:=λf:Field=>[f.2]) (g:=id) (B:=10000) (m:=1) (Lf:=λk' i(s:List Int)=>f222.cI N k' (s,i,k,el,le,fs)) (λk' s=>by simp only[f222.cI.eq_2,aJ,af];rfl) (λk' i x s hx hm hs=>by simp only[f222.cI.eq_2,aG (aC hx),aq,aD hx,ae,ak (show s.length+1<=10000000by omega) (show 8<=1000by omega),aj,ai (show i<9223372036854775807by have:=aC hx;omega)]) (λx _=>by simp) (k:=N) (s:=s) (by omega) (by omega);rw[tM]at key;unfold partsOf;by_cases h:k=6;.rw[show(k==(6:Int))=true by simp[h],ak (by omega) (by omega),aj,key [el] (by simp)];simp[h]
 grind
noncomputable def Hq(t:aA):Int:=if t.1=6then t.2.2.1else 1
noncomputable def D2(out:List Int)(t:aA):Int->List Int->Int|n,[]=>n|n,q::r=>D2 out t (min (n+Hq t*out.getD q.toNat 0) 5001) r
theorem ak3{n i:Nat}{t:aA}(h:cU n i t):1<=Hq t/\Hq t<=16:=by
 unfold Hq;split;.exact(h.arr ‹_›).2
 .omega
theorem aev{a b:Int}(ha:1<=a/\a<=16)(hb:0<=b/\b<=5001):0<=a*b/\a*b<=80016:=⟨se (by omega) hb.1,xf (sf ha.2 hb.2 hb.1 (by omega)) (by omega)⟩
theorem Mj{N:Nat}{R:List aA×Int->Option (List Int)}{l:List aA}{i:Nat}(hi:i<l.length)(ht:cU l.length i (dQ l i)){out:List Int}(ho:W out)(d:Int)(below:List Int)(ps:List Int)(hl:ps.length<=1000):∀(r pre:List Int)(n:Int)(k:Nat),ps=pre++r->(∀q,q∈r->0<=q/\q<out.length)->0<=n->n<=5001->r.length<k->f201.jc N R k (l,d,below,out,(i:Int),n,ps,(pre.length:Int))=some (l,d,below,out,(i:Int),D2 out (dQ l i) n r):=by intro r;have e:idx l (i:Int)=some (dQ l i):=cq _ hi;induction r with|nil=>intro pre n k he _ _ _ hk;obtain⟨k,rfl⟩:∃k',k=k'+1:=⟨k-1,by simp at hk;omega⟩;simp at he;subst he;rw[f201.CQ,aJ,af,D2]|cons x r ih=>
 intro pre n k he hf h0 hn hk;obtain⟨k,rfl⟩:∃k',k=k'+1:=⟨k-1,by simp at hk;omega⟩;have hlen:pre.length+(r.length+1)=ps.length:=by rw[he];simp
 have hx:idx ps (pre.length:Int)=some x:=by rw[he];exact rz _ _ _
 have hx2:=hf x cb;have hg:=aev (ak3 ht) (ho.getD x.toNat);have ih:=ih (pre++[x]) (min (n+Hq (dQ l i)*out.getD x.toNat 0) 5001) k (by rw[he];simp) (λf h=>hf f (dl _ h)) (by omega) (by omega) (by simp at hk;omega);have hb:(Option.bind ((bif((dQ l i).1==(6:Int))then(Option.bind (idx l (i:Int)) λx17=>some x17.2.2.1)else some (1:Int))) λb18=>(Option.bind (idx ps (pre.length:Int)) λx19=>(Option.bind (idx out x19) λx20=>f201.jc N R k (l,d,below,out,(i:Int),(min (av (n+(av (b18*x20)))) (5001:Int)),ps,(av ((pre.length:Int)+(1:Int)))))))=f201.jc N R k (l,d,below,out,(i:Int),min (n+Hq (dQ l i)*out.getD x.toNat 0) 5001,ps,((pre.length+1:Nat):Int)):=by
  have ex:idx out x=some (out.getD x.toNat 0):=oG hx2.1 (lC (by omega));unfold Hq at hg⊢;by_cases h6:(dQ l i).1=6;.rw[bb h6]at hg⊢;rw[show((dQ l i).1==(6:Int))=true by simp[h6],aq,e,ae,ae,hx,ae,ex,ae,aI (n:=(dQ l i).2.2.1*_) (by omega),aI (by omega),ai (by omega)]
  .rw[be h6]at hg⊢;rw[show((dQ l i).1==(6:Int))=false by simp[h6],af,ae,hx,ae,ex,ae,aI (n:=1*_) (by omega),aI (by omega),ai (by omega)]
 rw[f201.CQ,aG (by omega),aq,e,ae,<-e,hb];rw[show((pre++[x]).length:Int)=((pre.length+1:Nat):Int)by simp]at ih;rw[ih,D2]
theorem Ad{out:List Int}{t:aA}(ho:W out)(h6:t.1≠6):∀(fs:List Field)(n:Int),0<=n->n<=5001->D2 out t n (fs.map (·.2))=min (n+oO out fs) 5001|[],n,h0,hn=>by rw[kw,D2,oO];omega|f::r,n,h0,hn=>by have hg:=ho.getD f.2.toNat;have hs:=A0 ho r;rw[fj,D2,Hq,be h6,Ad ho h6 r _ (by omega) (by omega),oO];omega
theorem aew{out:List Int}{n i:Nat}{t:aA}(ho:W out)(ht:cU n i t):D2 out t 1 (partsOf t)=min (1+(if t.1=6then t.2.2.1*out.getD t.2.1.toNat 0 else 0)+oO out t.2.2.2) 5001:=by
 unfold partsOf;by_cases h6:t.1=6;.have hf:t.2.2.2=[]:=ht.fields.1.resolve_left (by omega);rw[bb h6,hf,kw,dt,D2,D2,Hq,bb h6,oO];omega
 .rw[be h6,gc,Ad ho h6 _ _ (by omega) (by omega)];omega
theorem VN(n i:Nat):(List.replicate n (0:Int)).getD i 0=0:=by grind
theorem J2{N:Nat}{R:List aA×Int->Option (List Int)}{l:List aA}(hN:1100<N)(hl:l.length<=100)(ht:yw l)(hf:∀i,i<l.length->(dQ l i).2.2.2.length<=1000){d:Nat}{below b':List Int}(hb':W b')(hd:d=0/\b'=List.replicate l.length 0\/0<d/\d<=10/\below=b'/\b'.length=l.length):
 f201.mq N R N (l,(d:Int),below,[],(0:Int))=some (jE b' l l.length):=by have key:=jP (n:=l.length) (Lf:=λk i=>f201.mq N R k (l,(d:Int),below,jE b' l i.toNat,i)) (g:=λ_=>some (jE b' l l.length)) (λk=>by simp only[f201.Ft,aJ,af,bd]) (λk i hi ih=>by
   have e:idx l (i:Int)=some (dQ l i):=cq _ hi;have ht':=ht i hi;have Xn:=ht'.fields;have hW:=yu (i:=i) (l:=l) hb' (by omega) ht;have J1:=tL b' l i;have hps:∀q,q∈partsOf (dQ l i)->0<=q/\q<(jE b' l i).length:=by
    intro q hq;rw[J1];unfold partsOf at hq;rw[bj]at hq;rcases hq with hq|hq
    .split at hq;.rw[bo]at hq;subst hq;exact(ht'.arr ‹_›).1
     .cases hq
    .obtain⟨f,h1,rfl⟩:=im.1 hq;exact Xn.2.2 f h1
   have hpl:(partsOf (dQ l i)).length<=1000:=by
    unfold partsOf;rw[ba,ll];split;.simp;omega
    .simp;omega
   have hin:=Mj (N:=N) (R:=R) hi ht' hW (d:Int) below (partsOf (dQ l i)) hpl (partsOf (dQ l i)) [] 1 N rfl hps (by omega) (by omega) (by omega);rw[show(([]:List Int).length:Int)=0from rfl,aew hW ht']at hin;simp only[bd]at ih⊢;rw[jE]at ih;have hbd:=hb'.getD (dQ l i).2.1.toNat;have hod:=hW.getD (dQ l i).2.1.toNat;have hsb:=A0 hW (dQ l i).2.2.2;have hroom:room ((jE b' l i).length+1) 8=true:=ak (by omega) (by omega);have fin:∀b31:Int,b31=Ac b' (jE b' l i) (dQ l i)->f201.mq N R k (l,(d:Int),below,jE b' l i++[b31],((i+1:Nat):Int))=some (jE b' l l.length):=by rintro _ rfl;exact ih
   simp only[f201.Ft,aG hi,aq,e,ae,VL (t:=dQ l i) hN (hf i hi),hin,hroom,aj,ai (show i<9223372036854775807by omega)];rcases hd with⟨rfl,hd⟩|⟨hd,aww,rfl,Gg⟩;.rw[show decide (((0:Nat):Int)>0)=false from rfl,af,af,ae,af,ae,ae,af,ae];refine fin _ ?_;unfold Ac;rw[hd,VN];split<;>(try split)<;>(try split)<;>first|omega|rfl
   .rw[bm (show(d:Int)>0 by omega),aq,aq,ae];unfold Ac at fin;by_cases h4:(dQ l i).1=4;.have hp:=ht'.ptr (.inl h4);have hfs:(dQ l i).2.2.2=[]:=Xn.1.resolve_left (by omega);rw[show((dQ l i).1==(4:Int))=true by simp[h4],aq,oG hp.1 (lC (by omega)),ae,ae,ae,show((dQ l i).1==(7:Int))=false by simp[h4],af,ae,be (by omega)];refine fin _ ?_;rw[bb h4,hfs,oO,aI (by omega)];omega
    .rw[show((dQ l i).1==(4:Int))=false by simp[h4],af,ae,ae];rw[be h4]at fin;by_cases h7:(dQ l i).1=7;.have hp:=ht'.ptr (.inr h7);have hfs:(dQ l i).2.2.2=[]:=Xn.1.resolve_left (by omega);rw[show((dQ l i).1==(7:Int))=true by simp[h7],aq,oG hp.1 (lC (by omega)),ae,ae,be (by omega)];refine fin _ ?_;rw[bb h7,hfs,oO,aI (n:=16*_) (by omega),aI (by omega)];omega
     .rw[show((dQ l i).1==(7:Int))=false by simp[h7],af,ae];rw[be h7]at fin;exact fin _ rfl) N 0 (by omega) (by omega);simpa[jE]using key
theorem Ae{l:List aA}(hl:l.length<=100)(ht:yw l)(hf:∀i,i<l.length->(dQ l i).2.2.2.length<=1000):∀(d N:Nat),d<=10->1200+d<N->Hg N (l,(d:Int))=some (wR l d)|0,N,_,hN=>by obtain⟨N,rfl⟩:∃k,N=k+1:=⟨N-1,by omega⟩;rw[NK,show decide (((0:Nat):Int)>0)=false from rfl,J2 (by omega) hl ht hf (NU l.length) (.inl ⟨rfl,rfl⟩)];rfl|d+1,N,hd,hN=>by obtain⟨N,rfl⟩:∃k,N=k+1:=⟨N-1,by omega⟩;rw[NK,bm (by omega),aI (by omega),show((d+1:Nat):Int)-1=(d:Int)by omega,Ae hl ht hf d N (by omega) (by omega),ae,J2 (by omega) hl ht hf (C8 ht d).1 (.inr ⟨by omega,by omega,rfl,(C8 ht d).2⟩)];rfl
noncomputable def j9(l:List aA):Prop:=l.length<=32/\yw l/\∀x,x∈wR l 3->x<=5000
noncomputable def J3(l:List aA):Prop:=l.length<=100/\∀i,i<l.length->(dQ l i).2.2.2.length<=1000/\i64 (dQ l i).2.2.1
theorem yy{N:Nat}{l:List aA}(hN:1300<N)(hl:J3 l):LV N l=some (if j9 l then 0 else 8):=by
 rw[LV.eq_1];by_cases h32:l.length<=32
 .rw[bv (show¬(l.length:Int)>32by omega),af];have key:=gx (n:=l.length) (a:=(.inr l:Int⊕List aA)) (b:=.inl 8) (q:=λi=>!decide (cU l.length i (dQ l i))) (Lf:=λk i=>f115.aP N k (l,(l.length:Int),i)) (λk _=>by simp only[f115.aP.eq_2,aJ,af]) (λk i hi _=>by
    simp only[f115.aP.eq_2,aG hi,aq,VI (show 1100<N by omega) hi (hl.2 i hi).1 (hl.2 i hi).2,ae,ai (show i<9223372036854775807by omega)];by_cases ht:cU l.length i (dQ l i);.rw[aS ht];rfl
    .rw[aM ht];rfl) (k:=N) (by omega);rw[key,rB,ae];by_cases hall:yw l
  .rw[bb (show∀i,i<l.length->decide (cU l.length i (dQ l i))=true fromλi hi=>aS (hall i hi))];simp;rw[P9 (by omega) hl.1 hall,ae];have hW:=C8 hall 3;have Mk:=fN (l:=wR l 3) (a:=(.inr ():Int⊕Unit)) (b:=.inl 8) (p:=λx=>!decide (x<=5000)) (Lf:=λk i=>f115.cQ N k (wR l 3,((wR l 3).length:Int),i)) (λk _=>by simp only[f115.cQ.eq_2,aJ,af]) (λk i x hx hm=>by
     simp only[f115.cQ.eq_2,aG (aC hx),aq,aD hx,ae,ai (show i<9223372036854775807by have:=aC hx;omega)];by_cases h5:x<=5000;.rw[aM (show¬x>5000by omega),aS h5];rfl
     .rw[aS (show x>5000by omega),aM h5];rfl) (k:=N) (by omega);rw[Mk,nX,ae];by_cases h5:∀x,x∈wR l 3->x<=5000;.rw[bb λx hx=>aS (h5 x hx),bb ⟨h32,hall,h5⟩]
   .rw[be λh=>h5 λx hx=>dv (h x hx),be λh=>h5 h.2.2]
  .rw[be λh=>hall λi hi=>dv (h i hi),be λh=>hall h.2.1]
 .rw[bm (show(l.length:Int)>32by omega),aq,be λh=>h32 h.1]
theorem Ml{N:Nat}{l:List aA}(hN:1300<N)(hl:J3 l):Uf N l=some (if j9 l then 0 else 8):=by
 rw[Uf.eq_1];by_cases h32:l.length<=32
 .rw[bv (show¬(l.length:Int)>32by omega),af];have key:=gx (n:=l.length) (a:=(.inr l:Int⊕List aA)) (b:=.inl 8) (q:=λi=>!decide (cU l.length i (dQ l i))) (Lf:=λk i=>f164.aP N k (l,i)) (λk _=>by simp only[f164.aP.eq_2,aJ,af]) (λk i hi _=>by
    simp only[f164.aP.eq_2,aG hi,aq,P7 (show 1200<N by omega) hi (hl.2 i hi).1,ae,ai (show i<9223372036854775807by omega)];by_cases ht:cU l.length i (dQ l i);.rw[aS ht];rfl
    .rw[aM ht];rfl) (k:=N) (by omega);rw[key,rB,ae];by_cases hall:yw l
  .rw[bb (show∀i,i<l.length->decide (cU l.length i (dQ l i))=true fromλi hi=>aS (hall i hi))];simp;have hw:=Ae hl.1 hall (λi hi=>(hl.2 i hi).1) 3 N (by omega) (by omega);simp at hw;rw[hw,ae];have hW:=C8 hall 3;have Mk:=fN (l:=wR l 3) (a:=(.inr ():Int⊕Unit)) (b:=.inl 8) (p:=λx=>!decide (x<=5000)) (Lf:=λk i=>f164.cQ N k (l,wR l 3,i)) (λk _=>by simp only[f164.cQ.eq_2,hW.2,aJ,af]) (λk i x hx hm=>by
     have:=aC hx;rw[hW.2]at this;simp only[f164.cQ.eq_2,aG this,aq,aD hx,ae,ai (show i<9223372036854775807by omega)];by_cases h5:x<=5000;.rw[aM (show¬x>5000by omega),aS h5];rfl
     .rw[aS (show x>5000by omega),aM h5];rfl) (k:=N) (by omega);rw[Mk,nX,ae];by_cases h5:∀x,x∈wR l 3->x<=5000;.rw[bb λx hx=>aS (h5 x hx),bb ⟨h32,hall,h5⟩]
   .rw[be λh=>h5 λx hx=>dv (h x hx),be λh=>h5 h.2.2]
  .rw[be λh=>hall λi hi=>dv (h i hi),be λh=>hall h.2.1]
 .rw[bm (show(l.length:Int)>32by omega),aq,be λh=>h32 h.1]
end Go.Proofs.YtkdilffhbejjaaaGreat
