/- A part of the proof: Law12mkf, Law12mkg. -/
import Derived.Test.YtgkllgjmfpjeoaaGreatDoorLaw12mke
set_option linter.unusedVariables false
set_option linter.unusedSimpArgs false
namespace Go.Proofs.YtgkllgjmfpjeoaaGreatDoor
open Go Go.bJ Go.Sym
open Classical
theorem O9{N:Nat}{l:List aB}{i:Nat}(hN:1200<N)(hi:i<l.length)(hf:(dO l i).2.2.2.length<=1000):SW N (l,(i:Int))=some (decide (cK l.length i (dO l i))):=by
 have e:idx l (i:Int)=some (dO l i):=cS _ hi;rw[SW.eq_1,e,Option.bind_some];unfold cK;generalize dO l i=t at hf;obtain⟨k,el,le,fs⟩:=t;simp only at hf⊢;rw[Ll (by omega) (by omega)];simp only[zV,dK,mK,Option.bind_some,sN (show fs.length+100<N by omega) (show fs.length<=1000000by omega)];have g0:decide ((fs.length:Int)=0)=decide (fs.length=0):=by rw[decide_eq_decide];omega
 by_cases h1:k=1\/k=2\/k=3;.rw[show(decide (k=1)||(decide (k=2)||decide (k=3)))=true by simpa using h1,au,if_pos h1,g0];congr 1;by_cases a1:el=0<;>by_cases a2:le=0<;>by_cases a3:fs.length=0<;>simp[a1,a2,a3];all_goals(intro h;simp[h]at a3)
 .rw[show(decide (k=1)||(decide (k=2)||decide (k=3)))=false by simpa using h1,aq,if_neg h1];by_cases h2:k=4\/k=7;.rw[show(decide (k=4)||decide (k=7))=true by simpa using h2,au,if_pos h2,g0];congr 1;by_cases b1:0<=el<;>by_cases b2:el<(l.length:Int)<;>by_cases a2:le=0<;>by_cases a3:fs.length=0<;>simp[b1,b2,a2,a3];all_goals(intro h;simp[h]at a3)
  .rw[show(decide (k=4)||decide (k=7))=false by simpa using h2,aq,if_neg h2];by_cases h3:k=6;.rw[decide_eq_true h3,au,if_pos h3,g0];congr 1;by_cases b1:0<=el<;>by_cases b2:el<(i:Int)<;>by_cases a1:1<=le<;>by_cases a2:le<=16<;>by_cases a3:fs.length=0<;>simp[b1,b2,a1,a2,a3];all_goals(intro h;simp[h]at a3)
   .rw[decide_eq_false h3,aq,if_neg h3];by_cases h4:k=5
    .rw[decide_eq_true h4,au,if_pos h4];have g3:decide ((fs.length:Int)>0)=decide (0<fs.length):=by rw[decide_eq_decide];omega
     by_cases hq:∀f,f∈fs->0<=f.2/\f.2<(i:Int)
     .rw[if_pos hq];simp only[g3,sN (show fs.length+100<N by omega) (show fs.length<=1000000by omega),Option.bind_some,mK];by_cases a5:bV fs;.by_cases a1:el=0<;>by_cases a2:le=0<;>by_cases a3:0<fs.length<;>by_cases a4:fs.length<=8;all_goals first|(rw[bI (p:=el=0/\le=0/\(0<fs.length/\fs.length<=8)/\bV fs/\∀f,f∈fs->0<=f.2/\f.2<(i:Int)) ⟨a1,a2,⟨a3,a4⟩,a5,hq⟩,bI a1,bI a2,bI a3,bI (p:=(fs.length:Int)<=8/\bV fs) ⟨by omega,a5⟩];rfl)|(rw[bE (p:=el=0/\le=0/\(0<fs.length/\fs.length<=8)/\bV fs/\∀f,f∈fs->0<=f.2/\f.2<(i:Int)) λh=>a1 h.1,bE a1,Bool.false_and];done)|(rw[bE (p:=el=0/\le=0/\(0<fs.length/\fs.length<=8)/\bV fs/\∀f,f∈fs->0<=f.2/\f.2<(i:Int)) λh=>a2 h.2.1,bE a2,Bool.false_and,Bool.and_false];done)|(rw[bE (p:=el=0/\le=0/\(0<fs.length/\fs.length<=8)/\bV fs/\∀f,f∈fs->0<=f.2/\f.2<(i:Int)) λh=>a3 h.2.2.1.1,bE a3,Bool.false_and,Bool.and_false,Bool.and_false];done)|(rw[bE (p:=el=0/\le=0/\(0<fs.length/\fs.length<=8)/\bV fs/\∀f,f∈fs->0<=f.2/\f.2<(i:Int)) λh=>a4 h.2.2.1.2,bE (p:=(fs.length:Int)<=8/\bV fs) λh=>a4 (by omega),Bool.and_false,Bool.and_false,Bool.and_false];done)
      .rw[bE (p:=el=0/\le=0/\(0<fs.length/\fs.length<=8)/\bV fs/\∀f,f∈fs->0<=f.2/\f.2<(i:Int)) λh=>a5 h.2.2.2.1,bE (p:=(fs.length:Int)<=8/\bV fs) λh=>a5 h.2,Bool.and_false,Bool.and_false,Bool.and_false]
     .rw[if_neg hq,bE (p:=el=0/\le=0/\(0<fs.length/\fs.length<=8)/\bV fs/\∀f,f∈fs->0<=f.2/\f.2<(i:Int)) λh=>hq h.2.2.2.2]
    .rw[decide_eq_false h4,aq,if_neg h4,bE (p:=False) id]
theorem cK.fields{n i:Nat}{t:aB}(h:cK n i t):(t.1=5\/t.2.2.2=[])/\t.2.2.2.length<=8/\∀f,f∈t.2.2.2->0<=f.2/\f.2<i:=by
 have nil:t.2.2.2.length=0->(t.1=5\/t.2.2.2=[])/\t.2.2.2.length<=8/\∀f,f∈t.2.2.2->0<=f.2/\f.2<i:=λh=>by have e:=List.eq_nil_of_length_eq_zero h;rw[e];exact⟨.inr rfl,by simp,λf hf=>by cases hf⟩
 unfold cK at h<;>grind
theorem cK.ptr{n i:Nat}{t:aB}(h:cK n i t)(hk:t.1=4\/t.1=7):0<=t.2.1/\t.2.1<n:=by unfold cK at h<;>grind
theorem cK.arr{n i:Nat}{t:aB}(h:cK n i t)(hk:t.1=6):(0<=t.2.1/\t.2.1<i)/\1<=t.2.2.1/\t.2.2.1<=16:=by unfold cK at h<;>grind
noncomputable def nV(out:List Int):List Field->Int|[]=>0|f::r=>out.getD f.2.toNat 0+nV out r
noncomputable def ze(below out:List Int)(t:aB):Int:=min (1+(if t.1=4then below.getD t.2.1.toNat 0 else if t.1=7then 16*below.getD t.2.1.toNat 0 else if t.1=6then t.2.2.1*out.getD t.2.1.toNat 0 else 0)+nV out t.2.2.2) 5001
noncomputable def iU(below:List Int)(l:List aB):Nat->List Int|0=>[]|i+1=>iU below l i++[ze below (iU below l i) (dO l i)]
noncomputable def W(l:List Int):Prop:=∀x,x∈l->0<=x/\x<=5001
theorem sO(below:List Int)(l:List aB):∀i,(iU below l i).length=i|0=>rfl|i+1=>by simp[iU,sO below l i]
theorem W.getD{l:List Int}(h:W l)(i:Nat):0<=l.getD i 0/\l.getD i 0<=5001:=by rw[List.getD_eq_getElem?_getD];cases e:l[i]?with|none=>simp|some x=>exact h x (aU e)
theorem zW{out:List Int}(h:W out):∀fs:List Field,0<=nV out fs/\nV out fs<=fs.length*5001|[]=>by simp[nV]|f::r=>by have:=zW h r;have:=h.getD f.2.toNat;simp only[nV,List.length_cons];omega
theorem TU{below out:List Int}{n i:Nat}{t:aB}(hb:W below)(ho:W out)(ht:cK n i t):0<=ze below out t/\ze below out t<=5001:=by
 unfold ze;have:=zW ho t.2.2.2;have h1:=hb.getD t.2.1.toNat;have h2:=ho.getD t.2.1.toNat;have:0<=(if t.1=4then below.getD t.2.1.toNat 0 else if t.1=7then 16*below.getD t.2.1.toNat 0 else if t.1=6then t.2.2.1*out.getD t.2.1.toNat 0 else 0):=by
  split;.omega
  .split;.omega
   .split;.rename_i h6;exact Int.mul_nonneg (by have:=ht.arr h6;omega) h2.1
    .omega
 omega
theorem xI{below:List Int}{l:List aB}(hb:W below):∀i,i<=l.length->(∀j,j<l.length->cK l.length j (dO l j))->W (iU below l i)
 |0,_,_=>λx hx=>by cases hx|i+1,hi,ht=>λx hx=>by
  simp[iU,List.mem_append,List.mem_singleton]at hx;rcases hx with hx|rfl;.exact xI hb i (by omega) ht x hx
  .exact TU hb (xI hb i (by omega) ht) (ht i (by omega))
theorem B3{α:Type}{a b:List α}{i:Nat}(d:α)(h:i<a.length):(a++b).getD i d=a.getD i d:=by grind
theorem Jb{a b:List Int}:∀{fs:List Field},(∀f,f∈fs->0<=f.2/\f.2<a.length)->nV (a++b) fs=nV a fs|[],_=>rfl|f::r,h=>by have:=h f List.mem_cons_self;rw[nV,nV,B3 _ (by omega),Jb λg hg=>h g (List.mem_cons_of_mem _ hg)]
theorem kG{l:List Int}{i:Nat}(h:i<l.length):l[i]?=some (l.getD i 0):=by grind
theorem qw{x:Int}{n:Nat}(h:0<=x/\x<n):fP x n=true:=by grind[fP]
theorem TV{N:Nat}{fs:List Field}{now below:List Int}(alJ:W now)(a:List aB)(b c:Int)(d:List aB)(e g:Int)(hl:fs.length<=1000):∀(r pre:List Field)(n:Int)(k:Nat),fs=pre++r->(∀f,f∈r->0<=f.2/\f.2<now.length)->0<=n->n<=100000+pre.length*5001->r.length<k->f200.mM N k (a,b,n,c,d,e,g,fs,(fs.length:Int),(pre.length:Int),below,now)=some (a,b,n+nV now r,c,d,e,g,below,now):=by intro r;induction r with|nil=>intro pre n k he _ _ _ hk;obtain⟨k,rfl⟩:∃k',k=k'+1:=⟨k-1,by simp at hk;omega⟩;simp at he;subst he;rw[f200.mM.eq_2,aM,aq,nV,Int.add_zero]|cons x r ih=>
 intro pre n k he hf h0 hn hk;obtain⟨k,rfl⟩:∃k',k=k'+1:=⟨k-1,by simp at hk;omega⟩;have hlen:pre.length+(r.length+1)=fs.length:=by rw[he];simp
 have hx:idx fs (pre.length:Int)=some x:=by rw[he];exact qt _ _ _
 have hx2:=hf x List.mem_cons_self;have hg:=alJ.getD x.2.toNat;have ih:=ih (pre++[x]) (n+now.getD x.2.toNat 0) k (by rw[he];simp) (λf h=>hf f (List.mem_cons_of_mem _ h)) (by omega) (by rw[List.length_append,List.length_singleton];omega) (by simp at hk;omega);rw[f200.mM.eq_2,aJ (by omega),au,hx,Option.bind_some,qw hx2,ai,kG (by omega),Option.bind_some,bn (by omega),aj (by omega)];rw[show((pre++[x]).length:Int)=((pre.length+1:Nat):Int)by simp]at ih;rw[ih,nV,Int.add_assoc]
theorem M6(n:Nat):W (List.replicate n 0):=λx hx=>by grind
theorem W.app{a b:List Int}(ha:W a)(hb:W b):W (a++b):=λx hx=>(List.mem_append.1 hx).elim (ha x) (hb x)
theorem WJ{a:List Int}{n i:Nat}{v:Int}(ha:a.length=i)(hi:i<n):(a++List.replicate (n-i) 0).set i v=(a++[v])++List.replicate (n-(i+1)) 0:=by rw[List.set_append_right _ _ (by omega),show n-i=(n-(i+1))+1by omega,List.replicate_succ,show i-a.length=0 by omega,List.append_assoc];rfl
noncomputable def xJ(l:List aB):Prop:=∀i,i<l.length->cK l.length i (dO l i)
theorem ab6{N:Nat}{l:List aB}{below:List Int}(hN:1000<N)(hl:l.length<=100)(ht:xJ l)(hb:W below)(Ff:below.length=l.length)(r:Int):
 f200.gx N N (l,r,l,(l.length:Int),(0:Int),below,List.replicate l.length 0)=some (l,r,iU below l l.length):=by have key:=kE (n:=l.length) (Lf:=λk i=>f200.gx N k (l,r,l,(l.length:Int),i,below,iU below l i.toNat++List.replicate (l.length-i.toNat) 0)) (g:=λ_=>some (l,r,iU below l l.length)) (λk=>by simp only[f200.gx.eq_2,aM,aq,Int.toNat_natCast,Nat.sub_self,List.replicate_zero,List.append_nil]) (λk i hi ih=>by
   have e:idx l (i:Int)=some (dO l i):=cS _ hi;have ht':=ht i hi;have hf:=ht'.fields;have hW:=xI (i:=i) (l:=l) hb (by omega) ht;have hol:=sO below l i;have hnl:(iU below l i++List.replicate (l.length-i) (0:Int)).length=l.length:=by simp[hol];omega
   have hWn:W (iU below l i++List.replicate (l.length-i) 0):=hW.app (M6 _);have hsum:nV (iU below l i++List.replicate (l.length-i) 0) (dO l i).2.2.2=nV (iU below l i) (dO l i).2.2.2:=Jb λf h=>by have:=hf.2.2 f h;rw[hol];exact this
   have TX:∀v:Int,(iU below l i++List.replicate (l.length-i) 0).set i v=(iU below l i++[v])++List.replicate (l.length-(i+1)) 0:=λv=>WJ hol hi;have fin:∀n:Int,0<=n->n<=100000->1+(if(dO l i).1=4then below.getD (dO l i).2.1.toNat 0 else if(dO l i).1=7then 16*below.getD (dO l i).2.1.toNat 0 else if(dO l i).1=6then(dO l i).2.2.1*(iU below l i).getD (dO l i).2.1.toNat 0 else 0)=n->(Option.bind (f200.mM N N (l,(i:Int),n,r,l,(l.length:Int),(i:Int),(dO l i).2.2.2,((dO l i).2.2.2.length:Int),(0:Int),below,iU below l i++List.replicate (l.length-i) 0)) λPa=>(aF (fP Pa.2.1 Pa.2.2.2.2.2.2.2.2.length) ((Option.bind (Pa.2.2.2.2.2.2.2.2[(Int.toNat Pa.2.1)]?) λx32=>f200.gx N k (Pa.1,Pa.2.2.2.1,Pa.2.2.2.2.1,Pa.2.2.2.2.2.1,(av (Pa.2.2.2.2.2.2.1+(1:Int))),Pa.2.2.2.2.2.2.2.1,(Pa.2.2.2.2.2.2.2.2.set (Int.toNat Pa.2.1) (min Pa.2.2.1 (5001:Int))))))))=some (l,r,iU below l l.length):=by intro n h0 hn he;have:=TV (N:=N) (below:=below) hWn l (i:Int) r l (l.length:Int) (i:Int) (fs:=(dO l i).2.2.2) (by omega) (dO l i).2.2.2 [] n N rfl (λf h=>by rw[hnl];have:=hf.2.2 f h;omega) h0 (by simp;omega) (by omega);rw[show(([]:List Field).length:Int)=0from rfl]at this;rw[this,Option.bind_some];simp only[Int.toNat_natCast];rw[hnl,bS hi,ai,kG (by rw[hnl];exact hi),Option.bind_some,aj (by omega),TX,hsum];simp only[Int.toNat_natCast]at ih;rw[iU,ze,he]at ih;exact ih
   have hbd:=hb.getD (dO l i).2.1.toNat;have hod:=hW.getD (dO l i).2.1.toNat;simp only[f200.gx.eq_2,aJ hi,au,e,Option.bind_some,Int.toNat_natCast];by_cases h4:(dO l i).1=4;.have hp:=ht'.ptr (.inl h4);rw[if_pos h4]at fin;rw[show((dO l i).1==(4:Int))=true by simp[h4],au,qw (by omega),ai,kG (by omega),Option.bind_some,bn (by omega)];exact fin _ (by omega) (by omega) rfl
   .rw[show((dO l i).1==(4:Int))=false by simp[h4],aq];rw[if_neg h4]at fin;by_cases h7:(dO l i).1=7;.have hp:=ht'.ptr (.inr h7);rw[if_pos h7]at fin;rw[show((dO l i).1==(7:Int))=true by simp[h7],au,qw (by omega),ai,kG (by omega),Option.bind_some,bn (n:=16*_) (by omega),bn (by omega)];exact fin _ (by omega) (by omega) rfl
    .rw[show((dO l i).1==(7:Int))=false by simp[h7],aq];rw[if_neg h7]at fin;by_cases h6:(dO l i).1=6;.have hp:=ht'.arr h6;rw[if_pos h6]at fin;have hm:0<=(dO l i).2.2.1*(iU below l i).getD (dO l i).2.1.toNat 0/\(dO l i).2.2.1*(iU below l i).getD (dO l i).2.1.toNat 0<=16*5001:=⟨Int.mul_nonneg (by omega) hod.1,Int.mul_le_mul (by omega) hod.2 hod.1 (by omega)⟩;rw[show((dO l i).1==(6:Int))=true by simp[h6],au,qw (by rw[hnl];omega),ai,kG (by rw[hnl];omega),Option.bind_some,B3 _ (by rw[hol];omega),bn (n:=(dO l i).2.2.1*_) (by omega),bn (by omega)];exact fin _ (by omega) (by omega) rfl
     .rw[show((dO l i).1==(6:Int))=false by simp[h6],aq];rw[if_neg h6]at fin;exact fin 1 (by omega) (by omega) rfl) N 0 (by omega) (by omega);simpa[iU]using key
noncomputable def wR(l:List aB):Nat->List Int|0=>iU (List.replicate l.length 0) l l.length|d+1=>iU (wR l d) l l.length
theorem B4{l:List aB}(ht:xJ l):∀d,W (wR l d)/\(wR l d).length=l.length|0=>⟨xI (M6 _) _ (by omega) ht,sO _ _ _⟩|d+1=>⟨xI (B4 ht d).1 _ (by omega) ht,sO _ _ _⟩
theorem Pb{N:Nat}{l:List aB}(hN:1000<N)(hl:l.length<=100)(ht:xJ l):R7 N l=some (wR l 3):=by
 have hr:(decide (Int.toNat (l.length:Int)<=Int.toNat (l.length:Int))&&room (Int.toNat (l.length:Int)) 8)=true:=by rw[decide_eq_true (Nat.le_refl _),af (by omega) (by omega)];rfl
 have h0:decide (0<=(l.length:Int))=true:=decide_eq_true (by omega);have step:∀(j:Nat)(b:List Int)k,j<4->W b->b.length=l.length->f200.bx N (k+1) (l,(j:Int),b)=f200.bx N k (l,((j+1:Nat):Int),iU b l l.length):=λj b k hj hb Ff=>by rw[f200.bx.eq_2,decide_eq_true (by omega),au,h0,ai,ai,hr,ai,Int.toNat_natCast,ab6 hN hl ht hb Ff,Option.bind_some];simp only;rw[aj (by omega)]
 obtain⟨k,rfl⟩:∃k,N=k+5:=⟨N-5,by omega⟩;rw[R7.eq_1,h0,ai,hr,ai,Int.toNat_natCast];have s0:=step 0 (List.replicate l.length 0) (k+4) (by omega) (M6 _) (by simp);have s1:=step 1 _ (k+3) (by omega) (B4 ht 0).1 (B4 ht 0).2;have s2:=step 2 _ (k+2) (by omega) (B4 ht 1).1 (B4 ht 1).2;have s3:=step 3 _ (k+1) (by omega) (B4 ht 2).1 (B4 ht 2).2;have e:f200.bx (k+5) (k+5) (l,(0:Int),List.replicate l.length 0)=some (wR l 3):=by refine s0.trans (s1.trans (s2.trans (s3.trans ?_)));rfl
 rw[e];rfl
end Go.Proofs.YtgkllgjmfpjeoaaGreatDoor
namespace Go.Proofs.YtgkllgjmfpjeoaaGreatDoor
open Go Go.bJ Go.Sym
open Classical
noncomputable def partsOf(t:aB):List Int:=(if t.1=6then[t.2.1]else[])++t.2.2.2.map (·.2)
theorem sP{α β:Type}(g:α->β):∀fs:List α,fs.flatMap (λf=>[g f])=fs.map g|[]=>rfl|x::r=>by rw[List.flatMap_cons,sP g r];rfl
theorem TY{N:Nat}{t:aB}(hN:1100<N)(hf:t.2.2.2.length<=1000):SY N (t.1,t.2.1,t.2.2.1,t.2.2.2)=some (partsOf t):=by
 obtain⟨k,el,le,fs⟩:=t;simp at hf⊢;rw[SY.eq_1];have key:=λs(hs:s.length<=1)=>gy (l:=fs) (enc:=λf:Field=>[f.2]) (g:=id) (B:=10000) (m:=1) (Lf:=λk' i(s:List Int)=>f209.cI N k' (s,i,k,el,le,fs)) (λk' s=>by simp only[f209.cI.eq_2,aM,aq];rfl) (λk' i x s hx hm hs=>by simp only[f209.cI.eq_2,aJ (az hx),au,aE hx,Option.bind_some,af (show s.length+1<=10000000by omega) (show 8<=1000by omega),ai,aj (show i<9223372036854775807by have:=az hx;omega)]) (λx _=>by simp) (k:=N) (s:=s) (by omega) (by omega);rw[sP]at key;unfold partsOf;by_cases h:k=6;.rw[show(k==(6:Int))=true by simp[h],af (by omega) (by omega),ai,key [el] (by simp)];simp[h]
 grind
noncomputable def Gm(t:aB):Int:=if t.1=6then t.2.2.1else 1
noncomputable def CY(out:List Int)(t:aB):Int->List Int->Int|n,[]=>n|n,q::r=>CY out t (min (n+Gm t*out.getD q.toNat 0) 5001) r
theorem aht{n i:Nat}{t:aB}(h:cK n i t):1<=Gm t/\Gm t<=16:=by
 unfold Gm;split;.exact(h.arr ‹_›).2
 .omega
theorem ab7{a b:Int}(ha:1<=a/\a<=16)(hb:0<=b/\b<=5001):0<=a*b/\a*b<=80016:=⟨Int.mul_nonneg (by omega) hb.1,Int.le_trans (Int.mul_le_mul ha.2 hb.2 hb.1 (by omega)) (by omega)⟩
theorem Lm{N:Nat}{R:List aB×Int->Option (List Int)}{l:List aB}{i:Nat}(hi:i<l.length)(ht:cK l.length i (dO l i)){out:List Int}(ho:W out)(d:Int)(below:List Int)(ps:List Int)(hl:ps.length<=1000):∀(r pre:List Int)(n:Int)(k:Nat),ps=pre++r->(∀q,q∈r->0<=q/\q<out.length)->0<=n->n<=5001->r.length<k->f179.oq N R k (l,d,below,out,(i:Int),n,ps,(pre.length:Int))=some (l,d,below,out,(i:Int),CY out (dO l i) n r):=by intro r;have e:idx l (i:Int)=some (dO l i):=cS _ hi;induction r with|nil=>intro pre n k he _ _ _ hk;obtain⟨k,rfl⟩:∃k',k=k'+1:=⟨k-1,by simp at hk;omega⟩;simp at he;subst he;rw[f179.BL,aM,aq,CY]|cons x r ih=>
 intro pre n k he hf h0 hn hk;obtain⟨k,rfl⟩:∃k',k=k'+1:=⟨k-1,by simp at hk;omega⟩;have hlen:pre.length+(r.length+1)=ps.length:=by rw[he];simp
 have hx:idx ps (pre.length:Int)=some x:=by rw[he];exact qt _ _ _
 have hx2:=hf x List.mem_cons_self;have hg:=ab7 (aht ht) (ho.getD x.toNat);have ih:=ih (pre++[x]) (min (n+Gm (dO l i)*out.getD x.toNat 0) 5001) k (by rw[he];simp) (λf h=>hf f (List.mem_cons_of_mem _ h)) (by omega) (by omega) (by simp at hk;omega);have hb:(Option.bind ((bif((dO l i).1==(6:Int))then(Option.bind (idx l (i:Int)) λx17=>some x17.2.2.1)else some (1:Int))) λb18=>(Option.bind (idx ps (pre.length:Int)) λx19=>(Option.bind (idx out x19) λx20=>f179.oq N R k (l,d,below,out,(i:Int),(min (av (n+(av (b18*x20)))) (5001:Int)),ps,(av ((pre.length:Int)+(1:Int)))))))=f179.oq N R k (l,d,below,out,(i:Int),min (n+Gm (dO l i)*out.getD x.toNat 0) 5001,ps,((pre.length+1:Nat):Int)):=by
  have ex:idx out x=some (out.getD x.toNat 0):=nM hx2.1 (kG (by omega));unfold Gm at hg⊢;by_cases h6:(dO l i).1=6;.rw[if_pos h6]at hg⊢;rw[show((dO l i).1==(6:Int))=true by simp[h6],au,e,Option.bind_some,Option.bind_some,hx,Option.bind_some,ex,Option.bind_some,bn (n:=(dO l i).2.2.1*_) (by omega),bn (by omega),aj (by omega)]
  .rw[if_neg h6]at hg⊢;rw[show((dO l i).1==(6:Int))=false by simp[h6],aq,Option.bind_some,hx,Option.bind_some,ex,Option.bind_some,bn (n:=1*_) (by omega),bn (by omega),aj (by omega)]
 rw[f179.BL,aJ (by omega),au,e,Option.bind_some,<-e,hb];rw[show((pre++[x]).length:Int)=((pre.length+1:Nat):Int)by simp]at ih;rw[ih,CY]
theorem zf{out:List Int}{t:aB}(ho:W out)(h6:t.1≠6):∀(fs:List Field)(n:Int),0<=n->n<=5001->CY out t n (fs.map (·.2))=min (n+nV out fs) 5001|[],n,h0,hn=>by rw[List.map_nil,CY,nV];omega|f::r,n,h0,hn=>by have hg:=ho.getD f.2.toNat;have hs:=zW ho r;rw[List.map_cons,CY,Gm,if_neg h6,zf ho h6 r _ (by omega) (by omega),nV];omega
theorem ab8{out:List Int}{n i:Nat}{t:aB}(ho:W out)(ht:cK n i t):CY out t 1 (partsOf t)=min (1+(if t.1=6then t.2.2.1*out.getD t.2.1.toNat 0 else 0)+nV out t.2.2.2) 5001:=by
 unfold partsOf;by_cases h6:t.1=6;.have hf:t.2.2.2=[]:=ht.fields.1.resolve_left (by omega);rw[if_pos h6,hf,List.map_nil,List.append_nil,CY,CY,Gm,if_pos h6,nV];omega
 .rw[if_neg h6,List.nil_append,zf ho h6 _ _ (by omega) (by omega)];omega
theorem TZ(n i:Nat):(List.replicate n (0:Int)).getD i 0=0:=by grind
theorem Jc{N:Nat}{R:List aB×Int->Option (List Int)}{l:List aB}(hN:1100<N)(hl:l.length<=100)(ht:xJ l)(hf:∀i,i<l.length->(dO l i).2.2.2.length<=1000){d:Nat}{below b':List Int}(hb':W b')(hd:d=0/\b'=List.replicate l.length 0\/0<d/\d<=10/\below=b'/\b'.length=l.length):
 f179.tJ N R N (l,(d:Int),below,[],(0:Int))=some (iU b' l l.length):=by have key:=kE (n:=l.length) (Lf:=λk i=>f179.tJ N R k (l,(d:Int),below,iU b' l i.toNat,i)) (g:=λ_=>some (iU b' l l.length)) (λk=>by simp only[f179.Ek,aM,aq,Int.toNat_natCast]) (λk i hi ih=>by
   have e:idx l (i:Int)=some (dO l i):=cS _ hi;have ht':=ht i hi;have Vm:=ht'.fields;have hW:=xI (i:=i) (l:=l) hb' (by omega) ht;have hol:=sO b' l i;have hps:∀q,q∈partsOf (dO l i)->0<=q/\q<(iU b' l i).length:=by
    intro q hq;rw[hol];unfold partsOf at hq;rw[List.mem_append]at hq;rcases hq with hq|hq
    .split at hq;.rw[List.mem_singleton]at hq;subst hq;exact(ht'.arr ‹_›).1
     .cases hq
    .obtain⟨f,h1,rfl⟩:=List.mem_map.1 hq;exact Vm.2.2 f h1
   have hpl:(partsOf (dO l i)).length<=1000:=by
    unfold partsOf;rw[List.length_append,List.length_map];split;.simp;omega
    .simp;omega
   have hin:=Lm (N:=N) (R:=R) hi ht' hW (d:Int) below (partsOf (dO l i)) hpl (partsOf (dO l i)) [] 1 N rfl hps (by omega) (by omega) (by omega);rw[show(([]:List Int).length:Int)=0from rfl,ab8 hW ht']at hin;simp only[Int.toNat_natCast]at ih⊢;rw[iU]at ih;have hbd:=hb'.getD (dO l i).2.1.toNat;have hod:=hW.getD (dO l i).2.1.toNat;have hsb:=zW hW (dO l i).2.2.2;have hroom:room ((iU b' l i).length+1) 8=true:=af (by omega) (by omega);have fin:∀b31:Int,b31=ze b' (iU b' l i) (dO l i)->f179.tJ N R k (l,(d:Int),below,iU b' l i++[b31],((i+1:Nat):Int))=some (iU b' l l.length):=by rintro _ rfl;exact ih
   simp only[f179.Ek,aJ hi,au,e,Option.bind_some,TY (t:=dO l i) hN (hf i hi),hin,hroom,ai,aj (show i<9223372036854775807by omega)];rcases hd with⟨rfl,hd⟩|⟨hd,ara,rfl,Ff⟩;.rw[show decide (((0:Nat):Int)>0)=false from rfl,aq,aq,Option.bind_some,aq,Option.bind_some,Option.bind_some,aq,Option.bind_some];refine fin _ ?_;unfold ze;rw[hd,TZ];split<;>(try split)<;>(try split)<;>first|omega|rfl
   .rw[decide_eq_true (show(d:Int)>0 by omega),au,au,Option.bind_some];unfold ze at fin;by_cases h4:(dO l i).1=4;.have hp:=ht'.ptr (.inl h4);have hfs:(dO l i).2.2.2=[]:=Vm.1.resolve_left (by omega);rw[show((dO l i).1==(4:Int))=true by simp[h4],au,nM hp.1 (kG (by omega)),Option.bind_some,Option.bind_some,Option.bind_some,show((dO l i).1==(7:Int))=false by simp[h4],aq,Option.bind_some,if_neg (by omega)];refine fin _ ?_;rw[if_pos h4,hfs,nV,bn (by omega)];omega
    .rw[show((dO l i).1==(4:Int))=false by simp[h4],aq,Option.bind_some,Option.bind_some];rw[if_neg h4]at fin;by_cases h7:(dO l i).1=7;.have hp:=ht'.ptr (.inr h7);have hfs:(dO l i).2.2.2=[]:=Vm.1.resolve_left (by omega);rw[show((dO l i).1==(7:Int))=true by simp[h7],au,nM hp.1 (kG (by omega)),Option.bind_some,Option.bind_some,if_neg (by omega)];refine fin _ ?_;rw[if_pos h7,hfs,nV,bn (n:=16*_) (by omega),bn (by omega)];omega
     .rw[show((dO l i).1==(7:Int))=false by simp[h7],aq,Option.bind_some];rw[if_neg h7]at fin;exact fin _ rfl) N 0 (by omega) (by omega);simpa[iU]using key
theorem zg{l:List aB}(hl:l.length<=100)(ht:xJ l)(hf:∀i,i<l.length->(dO l i).2.2.2.length<=1000):∀(d N:Nat),d<=10->1200+d<N->Gg N (l,(d:Int))=some (wR l d)|0,N,_,hN=>by obtain⟨N,rfl⟩:∃k,N=k+1:=⟨N-1,by omega⟩;rw[MW,show decide (((0:Nat):Int)>0)=false from rfl,Jc (by omega) hl ht hf (M6 l.length) (.inl ⟨rfl,rfl⟩)];rfl|d+1,N,hd,hN=>by obtain⟨N,rfl⟩:∃k,N=k+1:=⟨N-1,by omega⟩;rw[MW,decide_eq_true (by omega),bn (by omega),show((d+1:Nat):Int)-1=(d:Int)by omega,zg hl ht hf d N (by omega) (by omega),Option.bind_some,Jc (by omega) hl ht hf (B4 ht d).1 (.inr ⟨by omega,by omega,rfl,(B4 ht d).2⟩)];rfl
noncomputable def ov(l:List aB):Prop:=l.length<=32/\xJ l/\∀x,x∈wR l 3->x<=5000
noncomputable def M7(l:List aB):Prop:=l.length<=100/\∀i,i<l.length->(dO l i).2.2.2.length<=1000/\i64 (dO l i).2.2.1
theorem EB{N:Nat}{l:List aB}(hN:1300<N)(hl:M7 l):OK N l=some (if ov l then 0 else 8):=by
 rw[OK.eq_1];by_cases Qb:l.length<=32
 .rw[decide_eq_false (show¬(l.length:Int)>32by omega),aq];have key:=fX (n:=l.length) (a:=(.inr l:Int⊕List aB)) (b:=.inl 8) (q:=λi=>!decide (cK l.length i (dO l i))) (Lf:=λk i=>f159.aT N k (l,(l.length:Int),i)) (λk _=>by simp only[f159.aT.eq_2,aM,aq]) (λk i hi _=>by
    simp only[f159.aT.eq_2,aJ hi,au,TT (show 1100<N by omega) hi (hl.2 i hi).1 (hl.2 i hi).2,Option.bind_some,aj (show i<9223372036854775807by omega)];by_cases ht:cK l.length i (dO l i);.rw[bI ht];rfl
    .rw[bE ht];rfl) (k:=N) (by omega);rw[key,qv,Option.bind_some];by_cases hall:xJ l
  .rw[if_pos (show∀i,i<l.length->decide (cK l.length i (dO l i))=true fromλi hi=>bI (hall i hi))];simp;rw[Pb (by omega) hl.1 hall,Option.bind_some];have hW:=B4 hall 3;have Ln:=fB (l:=wR l 3) (a:=(.inr ():Int⊕Unit)) (b:=.inl 8) (p:=λx=>!decide (x<=5000)) (Lf:=λk i=>f159.e9 N k (wR l 3,((wR l 3).length:Int),i)) (λk _=>by simp only[f159.e9.eq_2,aM,aq]) (λk i x hx hm=>by
     simp only[f159.e9.eq_2,aJ (az hx),au,aE hx,Option.bind_some,aj (show i<9223372036854775807by have:=az hx;omega)];by_cases h5:x<=5000;.rw[bE (show¬x>5000by omega),bI h5];rfl
     .rw[bI (show x>5000by omega),bE h5];rfl) (k:=N) (by omega);rw[Ln,mV,Option.bind_some];by_cases h5:∀x,x∈wR l 3->x<=5000;.rw[if_pos λx hx=>bI (h5 x hx),if_pos ⟨Qb,hall,h5⟩]
   .rw[if_neg λh=>h5 λx hx=>of_decide_eq_true (h x hx),if_neg λh=>h5 h.2.2]
  .rw[if_neg λh=>hall λi hi=>of_decide_eq_true (h i hi),if_neg λh=>hall h.2.1]
 .rw[decide_eq_true (show(l.length:Int)>32by omega),au,if_neg λh=>Qb h.1]
theorem Lo{N:Nat}{l:List aB}(hN:1300<N)(hl:M7 l):S3 N l=some (if ov l then 0 else 8):=by
 rw[S3.eq_1];by_cases Qb:l.length<=32
 .rw[decide_eq_false (show¬(l.length:Int)>32by omega),aq];have key:=fX (n:=l.length) (a:=(.inr l:Int⊕List aB)) (b:=.inl 8) (q:=λi=>!decide (cK l.length i (dO l i))) (Lf:=λk i=>f126.aT N k (l,i)) (λk _=>by simp only[f126.aT.eq_2,aM,aq]) (λk i hi _=>by
    simp only[f126.aT.eq_2,aJ hi,au,O9 (show 1200<N by omega) hi (hl.2 i hi).1,Option.bind_some,aj (show i<9223372036854775807by omega)];by_cases ht:cK l.length i (dO l i);.rw[bI ht];rfl
    .rw[bE ht];rfl) (k:=N) (by omega);rw[key,qv,Option.bind_some];by_cases hall:xJ l
  .rw[if_pos (show∀i,i<l.length->decide (cK l.length i (dO l i))=true fromλi hi=>bI (hall i hi))];simp;have hw:=zg hl.1 hall (λi hi=>(hl.2 i hi).1) 3 N (by omega) (by omega);simp at hw;rw[hw,Option.bind_some];have hW:=B4 hall 3;have Ln:=fB (l:=wR l 3) (a:=(.inr ():Int⊕Unit)) (b:=.inl 8) (p:=λx=>!decide (x<=5000)) (Lf:=λk i=>f126.e9 N k (l,wR l 3,i)) (λk _=>by simp only[f126.e9.eq_2,hW.2,aM,aq]) (λk i x hx hm=>by
     have:=az hx;rw[hW.2]at this;simp only[f126.e9.eq_2,aJ this,au,aE hx,Option.bind_some,aj (show i<9223372036854775807by omega)];by_cases h5:x<=5000;.rw[bE (show¬x>5000by omega),bI h5];rfl
     .rw[bI (show x>5000by omega),bE h5];rfl) (k:=N) (by omega);rw[Ln,mV,Option.bind_some];by_cases h5:∀x,x∈wR l 3->x<=5000;.rw[if_pos λx hx=>bI (h5 x hx),if_pos ⟨Qb,hall,h5⟩]
   .rw[if_neg λh=>h5 λx hx=>of_decide_eq_true (h x hx),if_neg λh=>h5 h.2.2]
  .rw[if_neg λh=>hall λi hi=>of_decide_eq_true (h i hi),if_neg λh=>hall h.2.1]
 .rw[decide_eq_true (show(l.length:Int)>32by omega),au,if_neg λh=>Qb h.1]
end Go.Proofs.YtgkllgjmfpjeoaaGreatDoor
