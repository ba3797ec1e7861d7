/- A part of the proof: Law12chf, Law12chg. -/
import Derived.Test.YtdogilonhnbapaaGreatDoorLaw12che
set_option linter.unusedVariables false
set_option linter.unusedSimpArgs false
namespace Go.Proofs.YtdogilonhnbapaaGreatDoor
open Go Go.bI Go.Sym
open Classical
theorem Qs{N:Nat}{l:List aB}{i:Nat}(hN:1200<N)(hi:i<l.length)(hf:(dP l i).2.2.2.length<=1000):Qc N (l,(i:Int))=some (decide (cK l.length i (dP l i))):=by
 have e:idx l (i:Int)=some (dP l i):=cW _ hi;rw[Qc.eq_1,e,Option.bind_some];unfold cK;generalize dP l i=t at hf;obtain⟨k,el,le,fs⟩:=t;simp only at hf⊢;rw[Mw (by omega) (by omega)];simp only[AA,dK,mL,Option.bind_some,tn (show fs.length+100<N by omega) (show fs.length<=1000000by omega)];have g0:decide ((fs.length:Int)=0)=decide (fs.length=0):=by rw[decide_eq_decide];omega
 by_cases h1:k=1\/k=2\/k=3;.rw[show(decide (k=1)||(decide (k=2)||decide (k=3)))=true by simpa using h1,au,if_pos h1,g0];congr 1;by_cases a1:el=0<;>by_cases a2:le=0<;>by_cases a3:fs.length=0<;>simp[a1,a2,a3];all_goals(intro h;simp[h]at a3)
 .rw[show(decide (k=1)||(decide (k=2)||decide (k=3)))=false by simpa using h1,ak,if_neg h1];by_cases h2:k=4\/k=7;.rw[show(decide (k=4)||decide (k=7))=true by simpa using h2,au,if_pos h2,g0];congr 1;by_cases b1:0<=el<;>by_cases b2:el<(l.length:Int)<;>by_cases a2:le=0<;>by_cases a3:fs.length=0<;>simp[b1,b2,a2,a3];all_goals(intro h;simp[h]at a3)
  .rw[show(decide (k=4)||decide (k=7))=false by simpa using h2,ak,if_neg h2];by_cases h3:k=6;.rw[decide_eq_true h3,au,if_pos h3,g0];congr 1;by_cases b1:0<=el<;>by_cases b2:el<(i:Int)<;>by_cases a1:1<=le<;>by_cases a2:le<=16<;>by_cases a3:fs.length=0<;>simp[b1,b2,a1,a2,a3];all_goals(intro h;simp[h]at a3)
   .rw[decide_eq_false h3,ak,if_neg h3];by_cases h4:k=5
    .rw[decide_eq_true h4,au,if_pos h4];have g3:decide ((fs.length:Int)>0)=decide (0<fs.length):=by rw[decide_eq_decide];omega
     by_cases hq:∀f,f∈fs->0<=f.2/\f.2<(i:Int)
     .rw[if_pos hq];simp only[g3,tn (show fs.length+100<N by omega) (show fs.length<=1000000by omega),Option.bind_some,mL];by_cases a5:cc fs;.by_cases a1:el=0<;>by_cases a2:le=0<;>by_cases a3:0<fs.length<;>by_cases a4:fs.length<=8;all_goals first|(rw[bJ (p:=el=0/\le=0/\(0<fs.length/\fs.length<=8)/\cc fs/\∀f,f∈fs->0<=f.2/\f.2<(i:Int)) ⟨a1,a2,⟨a3,a4⟩,a5,hq⟩,bJ a1,bJ a2,bJ a3,bJ (p:=(fs.length:Int)<=8/\cc fs) ⟨by omega,a5⟩];rfl)|(rw[bE (p:=el=0/\le=0/\(0<fs.length/\fs.length<=8)/\cc fs/\∀f,f∈fs->0<=f.2/\f.2<(i:Int)) λh=>a1 h.1,bE a1,Bool.false_and];done)|(rw[bE (p:=el=0/\le=0/\(0<fs.length/\fs.length<=8)/\cc fs/\∀f,f∈fs->0<=f.2/\f.2<(i:Int)) λh=>a2 h.2.1,bE a2,Bool.false_and,Bool.and_false];done)|(rw[bE (p:=el=0/\le=0/\(0<fs.length/\fs.length<=8)/\cc fs/\∀f,f∈fs->0<=f.2/\f.2<(i:Int)) λh=>a3 h.2.2.1.1,bE a3,Bool.false_and,Bool.and_false,Bool.and_false];done)|(rw[bE (p:=el=0/\le=0/\(0<fs.length/\fs.length<=8)/\cc fs/\∀f,f∈fs->0<=f.2/\f.2<(i:Int)) λh=>a4 h.2.2.1.2,bE (p:=(fs.length:Int)<=8/\cc fs) λh=>a4 (by omega),Bool.and_false,Bool.and_false,Bool.and_false];done)
      .rw[bE (p:=el=0/\le=0/\(0<fs.length/\fs.length<=8)/\cc fs/\∀f,f∈fs->0<=f.2/\f.2<(i:Int)) λh=>a5 h.2.2.2.1,bE (p:=(fs.length:Int)<=8/\cc fs) λh=>a5 h.2,Bool.and_false,Bool.and_false,Bool.and_false]
     .rw[if_neg hq,bE (p:=el=0/\le=0/\(0<fs.length/\fs.length<=8)/\cc fs/\∀f,f∈fs->0<=f.2/\f.2<(i:Int)) λh=>hq h.2.2.2.2]
    .rw[decide_eq_false h4,ak,if_neg h4,bE (p:=False) id]
theorem cK.fields{n i:Nat}{t:aB}(h:cK n i t):(t.1=5\/t.2.2.2=[])/\t.2.2.2.length<=8/\∀f,f∈t.2.2.2->0<=f.2/\f.2<i:=by
 have nil:t.2.2.2.length=0->(t.1=5\/t.2.2.2=[])/\t.2.2.2.length<=8/\∀f,f∈t.2.2.2->0<=f.2/\f.2<i:=λh=>by have e:=List.eq_nil_of_length_eq_zero h;rw[e];exact⟨.inr rfl,by simp,λf hf=>by cases hf⟩
 unfold cK at h<;>grind
theorem cK.ptr{n i:Nat}{t:aB}(h:cK n i t)(hk:t.1=4\/t.1=7):0<=t.2.1/\t.2.1<n:=by unfold cK at h<;>grind
theorem cK.arr{n i:Nat}{t:aB}(h:cK n i t)(hk:t.1=6):(0<=t.2.1/\t.2.1<i)/\1<=t.2.2.1/\t.2.2.1<=16:=by unfold cK at h<;>grind
noncomputable def oa(out:List Int):List Field->Int|[]=>0|f::r=>out.getD f.2.toNat 0+oa out r
noncomputable def zG(below out:List Int)(t:aB):Int:=min (1+(if t.1=4then below.getD t.2.1.toNat 0 else if t.1=7then 16*below.getD t.2.1.toNat 0 else if t.1=6then t.2.2.1*out.getD t.2.1.toNat 0 else 0)+oa out t.2.2.2) 5001
noncomputable def iX(below:List Int)(l:List aB):Nat->List Int|0=>[]|i+1=>iX below l i++[zG below (iX below l i) (dP l i)]
noncomputable def W(l:List Int):Prop:=∀x,x∈l->0<=x/\x<=5001
theorem tu(below:List Int)(l:List aB):∀i,(iX below l i).length=i|0=>rfl|i+1=>by simp[iX,tu below l i]
theorem W.getD{l:List Int}(h:W l)(i:Nat):0<=l.getD i 0/\l.getD i 0<=5001:=by rw[List.getD_eq_getElem?_getD];cases e:l[i]?with|none=>simp|some x=>exact h x (aS e)
theorem AB{out:List Int}(h:W out):∀fs:List Field,0<=oa out fs/\oa out fs<=fs.length*5001|[]=>by simp[oa]|f::r=>by have:=AB h r;have:=h.getD f.2.toNat;simp only[oa,List.length_cons];omega
theorem UI{below out:List Int}{n i:Nat}{t:aB}(hb:W below)(ho:W out)(ht:cK n i t):0<=zG below out t/\zG below out t<=5001:=by
 unfold zG;have:=AB ho t.2.2.2;have h1:=hb.getD t.2.1.toNat;have h2:=ho.getD t.2.1.toNat;have:0<=(if t.1=4then below.getD t.2.1.toNat 0 else if t.1=7then 16*below.getD t.2.1.toNat 0 else if t.1=6then t.2.2.1*out.getD t.2.1.toNat 0 else 0):=by
  split;.omega
  .split;.omega
   .split;.rename_i h6;exact Int.mul_nonneg (by have:=ht.arr h6;omega) h2.1
    .omega
 omega
theorem xZ{below:List Int}{l:List aB}(hb:W below):∀i,i<=l.length->(∀j,j<l.length->cK l.length j (dP l j))->W (iX below l i)
 |0,_,_=>λx hx=>by cases hx|i+1,hi,ht=>λx hx=>by
  simp[iX,List.mem_append,List.mem_singleton]at hx;rcases hx with hx|rfl;.exact xZ hb i (by omega) ht x hx
  .exact UI hb (xZ hb i (by omega) ht) (ht i (by omega))
theorem Cz{α:Type}{a b:List α}{i:Nat}(d:α)(h:i<a.length):(a++b).getD i d=a.getD i d:=by grind
theorem JY{a b:List Int}:∀{fs:List Field},(∀f,f∈fs->0<=f.2/\f.2<a.length)->oa (a++b) fs=oa a fs|[],_=>rfl|f::r,h=>by have:=h f List.mem_cons_self;rw[oa,oa,Cz _ (by omega),JY λg hg=>h g (List.mem_cons_of_mem _ hg)]
theorem kL{l:List Int}{i:Nat}(h:i<l.length):l[i]?=some (l.getD i 0):=by grind
theorem qI{x:Int}{n:Nat}(h:0<=x/\x<n):fP x n=true:=by grind[fP]
theorem UJ{N:Nat}{fs:List Field}{now below:List Int}(anM:W now)(a:List aB)(b c:Int)(d:List aB)(e g:Int)(hl:fs.length<=1000):∀(r pre:List Field)(n:Int)(k:Nat),fs=pre++r->(∀f,f∈r->0<=f.2/\f.2<now.length)->0<=n->n<=100000+pre.length*5001->r.length<k->f193.mQ N k (a,b,n,c,d,e,g,fs,(fs.length:Int),(pre.length:Int),below,now)=some (a,b,n+oa now r,c,d,e,g,below,now):=by intro r;induction r with|nil=>intro pre n k he _ _ _ hk;obtain⟨k,rfl⟩:∃k',k=k'+1:=⟨k-1,by simp at hk;omega⟩;simp at he;subst he;rw[f193.mQ.eq_2,aL,ak,oa,Int.add_zero]|cons x r ih=>
 intro pre n k he hf h0 hn hk;obtain⟨k,rfl⟩:∃k',k=k'+1:=⟨k-1,by simp at hk;omega⟩;have hlen:pre.length+(r.length+1)=fs.length:=by rw[he];simp
 have hx:idx fs (pre.length:Int)=some x:=by rw[he];exact qF _ _ _
 have hx2:=hf x List.mem_cons_self;have hg:=anM.getD x.2.toNat;have ih:=ih (pre++[x]) (n+now.getD x.2.toNat 0) k (by rw[he];simp) (λf h=>hf f (List.mem_cons_of_mem _ h)) (by omega) (by rw[List.length_append,List.length_singleton];omega) (by simp at hk;omega);rw[f193.mQ.eq_2,aI (by omega),au,hx,Option.bind_some,qI hx2,af,kL (by omega),Option.bind_some,bp (by omega),aj (by omega)];rw[show((pre++[x]).length:Int)=((pre.length+1:Nat):Int)by simp]at ih;rw[ih,oa,Int.add_assoc]
theorem Oe(n:Nat):W (List.replicate n 0):=λx hx=>by grind
theorem W.app{a b:List Int}(ha:W a)(hb:W b):W (a++b):=λx hx=>(List.mem_append.1 hx).elim (ha x) (hb x)
theorem YY{a:List Int}{n i:Nat}{v:Int}(ha:a.length=i)(hi:i<n):(a++List.replicate (n-i) 0).set i v=(a++[v])++List.replicate (n-(i+1)) 0:=by rw[List.set_append_right _ _ (by omega),show n-i=(n-(i+1))+1by omega,List.replicate_succ,show i-a.length=0 by omega,List.append_assoc];rfl
noncomputable def x4(l:List aB):Prop:=∀i,i<l.length->cK l.length i (dP l i)
theorem afh{N:Nat}{l:List aB}{below:List Int}(hN:1000<N)(hl:l.length<=100)(ht:x4 l)(hb:W below)(FT:below.length=l.length)(r:Int):
 f193.gy N N (l,r,l,(l.length:Int),(0:Int),below,List.replicate l.length 0)=some (l,r,iX below l l.length):=by have key:=kI (n:=l.length) (Lf:=λk i=>f193.gy N k (l,r,l,(l.length:Int),i,below,iX below l i.toNat++List.replicate (l.length-i.toNat) 0)) (g:=λ_=>some (l,r,iX below l l.length)) (λk=>by simp only[f193.gy.eq_2,aL,ak,Int.toNat_natCast,Nat.sub_self,List.replicate_zero,List.append_nil]) (λk i hi ih=>by
   have e:idx l (i:Int)=some (dP l i):=cW _ hi;have ht':=ht i hi;have hf:=ht'.fields;have hW:=xZ (i:=i) (l:=l) hb (by omega) ht;have hol:=tu below l i;have hnl:(iX below l i++List.replicate (l.length-i) (0:Int)).length=l.length:=by simp[hol];omega
   have hWn:W (iX below l i++List.replicate (l.length-i) 0):=hW.app (Oe _);have hsum:oa (iX below l i++List.replicate (l.length-i) 0) (dP l i).2.2.2=oa (iX below l i) (dP l i).2.2.2:=JY λf h=>by have:=hf.2.2 f h;rw[hol];exact this
   have UK:∀v:Int,(iX below l i++List.replicate (l.length-i) 0).set i v=(iX below l i++[v])++List.replicate (l.length-(i+1)) 0:=λv=>YY hol hi;have fin:∀n:Int,0<=n->n<=100000->1+(if(dP l i).1=4then below.getD (dP l i).2.1.toNat 0 else if(dP l i).1=7then 16*below.getD (dP l i).2.1.toNat 0 else if(dP l i).1=6then(dP l i).2.2.1*(iX below l i).getD (dP l i).2.1.toNat 0 else 0)=n->(Option.bind (f193.mQ N N (l,(i:Int),n,r,l,(l.length:Int),(i:Int),(dP l i).2.2.2,((dP l i).2.2.2.length:Int),(0:Int),below,iX below l i++List.replicate (l.length-i) 0)) λQt=>(aE (fP Qt.2.1 Qt.2.2.2.2.2.2.2.2.length) ((Option.bind (Qt.2.2.2.2.2.2.2.2[(Int.toNat Qt.2.1)]?) λx32=>f193.gy N k (Qt.1,Qt.2.2.2.1,Qt.2.2.2.2.1,Qt.2.2.2.2.2.1,(av (Qt.2.2.2.2.2.2.1+(1:Int))),Qt.2.2.2.2.2.2.2.1,(Qt.2.2.2.2.2.2.2.2.set (Int.toNat Qt.2.1) (min Qt.2.2.1 (5001:Int))))))))=some (l,r,iX below l l.length):=by intro n h0 hn he;have:=UJ (N:=N) (below:=below) hWn l (i:Int) r l (l.length:Int) (i:Int) (fs:=(dP l i).2.2.2) (by omega) (dP l i).2.2.2 [] n N rfl (λf h=>by rw[hnl];have:=hf.2.2 f h;omega) h0 (by simp;omega) (by omega);rw[show(([]:List Field).length:Int)=0from rfl]at this;rw[this,Option.bind_some];simp only[Int.toNat_natCast];rw[hnl,bW hi,af,kL (by rw[hnl];exact hi),Option.bind_some,aj (by omega),UK,hsum];simp only[Int.toNat_natCast]at ih;rw[iX,zG,he]at ih;exact ih
   have hbd:=hb.getD (dP l i).2.1.toNat;have hod:=hW.getD (dP l i).2.1.toNat;simp only[f193.gy.eq_2,aI hi,au,e,Option.bind_some,Int.toNat_natCast];by_cases h4:(dP l i).1=4;.have hp:=ht'.ptr (.inl h4);rw[if_pos h4]at fin;rw[show((dP l i).1==(4:Int))=true by simp[h4],au,qI (by omega),af,kL (by omega),Option.bind_some,bp (by omega)];exact fin _ (by omega) (by omega) rfl
   .rw[show((dP l i).1==(4:Int))=false by simp[h4],ak];rw[if_neg h4]at fin;by_cases h7:(dP l i).1=7;.have hp:=ht'.ptr (.inr h7);rw[if_pos h7]at fin;rw[show((dP l i).1==(7:Int))=true by simp[h7],au,qI (by omega),af,kL (by omega),Option.bind_some,bp (n:=16*_) (by omega),bp (by omega)];exact fin _ (by omega) (by omega) rfl
    .rw[show((dP l i).1==(7:Int))=false by simp[h7],ak];rw[if_neg h7]at fin;by_cases h6:(dP l i).1=6;.have hp:=ht'.arr h6;rw[if_pos h6]at fin;have hm:0<=(dP l i).2.2.1*(iX below l i).getD (dP l i).2.1.toNat 0/\(dP l i).2.2.1*(iX below l i).getD (dP l i).2.1.toNat 0<=16*5001:=⟨Int.mul_nonneg (by omega) hod.1,Int.mul_le_mul (by omega) hod.2 hod.1 (by omega)⟩;rw[show((dP l i).1==(6:Int))=true by simp[h6],au,qI (by rw[hnl];omega),af,kL (by rw[hnl];omega),Option.bind_some,Cz _ (by rw[hol];omega),bp (n:=(dP l i).2.2.1*_) (by omega),bp (by omega)];exact fin _ (by omega) (by omega) rfl
     .rw[show((dP l i).1==(6:Int))=false by simp[h6],ak];rw[if_neg h6]at fin;exact fin 1 (by omega) (by omega) rfl) N 0 (by omega) (by omega);simpa[iX]using key
noncomputable def wR(l:List aB):Nat->List Int|0=>iX (List.replicate l.length 0) l l.length|d+1=>iX (wR l d) l l.length
theorem CA{l:List aB}(ht:x4 l):∀d,W (wR l d)/\(wR l d).length=l.length|0=>⟨xZ (Oe _) _ (by omega) ht,tu _ _ _⟩|d+1=>⟨xZ (CA ht d).1 _ (by omega) ht,tu _ _ _⟩
theorem Qu{N:Nat}{l:List aB}(hN:1000<N)(hl:l.length<=100)(ht:x4 l):PX N l=some (wR l 3):=by
 have hr:(decide (Int.toNat (l.length:Int)<=Int.toNat (l.length:Int))&&room (Int.toNat (l.length:Int)) 8)=true:=by rw[decide_eq_true (Nat.le_refl _),ah (by omega) (by omega)];rfl
 have h0:decide (0<=(l.length:Int))=true:=decide_eq_true (by omega);have step:∀(j:Nat)(b:List Int)k,j<4->W b->b.length=l.length->f193.bg N (k+1) (l,(j:Int),b)=f193.bg N k (l,((j+1:Nat):Int),iX b l l.length):=λj b k hj hb FT=>by rw[f193.bg.eq_2,decide_eq_true (by omega),au,h0,af,af,hr,af,Int.toNat_natCast,afh hN hl ht hb FT,Option.bind_some];simp only;rw[aj (by omega)]
 obtain⟨k,rfl⟩:∃k,N=k+5:=⟨N-5,by omega⟩;rw[PX.eq_1,h0,af,hr,af,Int.toNat_natCast];have s0:=step 0 (List.replicate l.length 0) (k+4) (by omega) (Oe _) (by simp);have s1:=step 1 _ (k+3) (by omega) (CA ht 0).1 (CA ht 0).2;have s2:=step 2 _ (k+2) (by omega) (CA ht 1).1 (CA ht 1).2;have s3:=step 3 _ (k+1) (by omega) (CA ht 2).1 (CA ht 2).2;have e:f193.bg (k+5) (k+5) (l,(0:Int),List.replicate l.length 0)=some (wR l 3):=by refine s0.trans (s1.trans (s2.trans (s3.trans ?_)));rfl
 rw[e];rfl
end Go.Proofs.YtdogilonhnbapaaGreatDoor
namespace Go.Proofs.YtdogilonhnbapaaGreatDoor
open Go Go.bI Go.Sym
open Classical
noncomputable def partsOf(t:aB):List Int:=(if t.1=6then[t.2.1]else[])++t.2.2.2.map (·.2)
theorem tv{α β:Type}(g:α->β):∀fs:List α,fs.flatMap (λf=>[g f])=fs.map g|[]=>rfl|x::r=>by rw[List.flatMap_cons,tv g r];rfl
theorem UL{N:Nat}{t:aB}(hN:1100<N)(hf:t.2.2.2.length<=1000):Qd N (t.1,t.2.1,t.2.2.1,t.2.2.2)=some (partsOf t):=by
 obtain⟨k,el,le,fs⟩:=t;simp at hf⊢;rw[Qd.eq_1];have key:=λs(hs:s.length<=1)=>gA (l:=fs) (enc:=λf:Field=>[f.2]) (g:=id) (B:=10000) (m:=1) (Lf:=λk' i(s:List Int)=>f202.ct N k' (s,i,k,el,le,fs)) (λk' s=>by simp only[f202.ct.eq_2,aL,ak];rfl) (λk' i x s hx hm hs=>by simp only[f202.ct.eq_2,aI (aA hx),au,aD hx,Option.bind_some,ah (show s.length+1<=10000000by omega) (show 8<=1000by omega),af,aj (show i<9223372036854775807by have:=aA hx;omega)]) (λx _=>by simp) (k:=N) (s:=s) (by omega) (by omega);rw[tv]at key;unfold partsOf;by_cases h:k=6;.rw[show(k==(6:Int))=true by simp[h],ah (by omega) (by omega),af,key [el] (by simp)];simp[h]
 grind
noncomputable def Hf(t:aB):Int:=if t.1=6then t.2.2.1else 1
noncomputable def Dx(out:List Int)(t:aB):Int->List Int->Int|n,[]=>n|n,q::r=>Dx out t (min (n+Hf t*out.getD q.toNat 0) 5001) r
theorem aju{n i:Nat}{t:aB}(h:cK n i t):1<=Hf t/\Hf t<=16:=by
 unfold Hf;split;.exact(h.arr ‹_›).2
 .omega
theorem afi{a b:Int}(ha:1<=a/\a<=16)(hb:0<=b/\b<=5001):0<=a*b/\a*b<=80016:=⟨Int.mul_nonneg (by omega) hb.1,Int.le_trans (Int.mul_le_mul ha.2 hb.2 hb.1 (by omega)) (by omega)⟩
theorem Mx{N:Nat}{R:List aB×Int->Option (List Int)}{l:List aB}{i:Nat}(hi:i<l.length)(ht:cK l.length i (dP l i)){out:List Int}(ho:W out)(d:Int)(below:List Int)(ps:List Int)(hl:ps.length<=1000):∀(r pre:List Int)(n:Int)(k:Nat),ps=pre++r->(∀q,q∈r->0<=q/\q<out.length)->0<=n->n<=5001->r.length<k->f174.oG N R k (l,d,below,out,(i:Int),n,ps,(pre.length:Int))=some (l,d,below,out,(i:Int),Dx out (dP l i) n r):=by intro r;have e:idx l (i:Int)=some (dP l i):=cW _ hi;induction r with|nil=>intro pre n k he _ _ _ hk;obtain⟨k,rfl⟩:∃k',k=k'+1:=⟨k-1,by simp at hk;omega⟩;simp at he;subst he;rw[f174.Ci,aL,ak,Dx]|cons x r ih=>
 intro pre n k he hf h0 hn hk;obtain⟨k,rfl⟩:∃k',k=k'+1:=⟨k-1,by simp at hk;omega⟩;have hlen:pre.length+(r.length+1)=ps.length:=by rw[he];simp
 have hx:idx ps (pre.length:Int)=some x:=by rw[he];exact qF _ _ _
 have hx2:=hf x List.mem_cons_self;have hg:=afi (aju ht) (ho.getD x.toNat);have ih:=ih (pre++[x]) (min (n+Hf (dP l i)*out.getD x.toNat 0) 5001) k (by rw[he];simp) (λf h=>hf f (List.mem_cons_of_mem _ h)) (by omega) (by omega) (by simp at hk;omega);have hb:(Option.bind ((bif((dP l i).1==(6:Int))then(Option.bind (idx l (i:Int)) λx17=>some x17.2.2.1)else some (1:Int))) λb18=>(Option.bind (idx ps (pre.length:Int)) λx19=>(Option.bind (idx out x19) λx20=>f174.oG N R k (l,d,below,out,(i:Int),(min (av (n+(av (b18*x20)))) (5001:Int)),ps,(av ((pre.length:Int)+(1:Int)))))))=f174.oG N R k (l,d,below,out,(i:Int),min (n+Hf (dP l i)*out.getD x.toNat 0) 5001,ps,((pre.length+1:Nat):Int)):=by
  have ex:idx out x=some (out.getD x.toNat 0):=nV hx2.1 (kL (by omega));unfold Hf at hg⊢;by_cases h6:(dP l i).1=6;.rw[if_pos h6]at hg⊢;rw[show((dP l i).1==(6:Int))=true by simp[h6],au,e,Option.bind_some,Option.bind_some,hx,Option.bind_some,ex,Option.bind_some,bp (n:=(dP l i).2.2.1*_) (by omega),bp (by omega),aj (by omega)]
  .rw[if_neg h6]at hg⊢;rw[show((dP l i).1==(6:Int))=false by simp[h6],ak,Option.bind_some,hx,Option.bind_some,ex,Option.bind_some,bp (n:=1*_) (by omega),bp (by omega),aj (by omega)]
 rw[f174.Ci,aI (by omega),au,e,Option.bind_some,<-e,hb];rw[show((pre++[x]).length:Int)=((pre.length+1:Nat):Int)by simp]at ih;rw[ih,Dx]
theorem zH{out:List Int}{t:aB}(ho:W out)(h6:t.1≠6):∀(fs:List Field)(n:Int),0<=n->n<=5001->Dx out t n (fs.map (·.2))=min (n+oa out fs) 5001|[],n,h0,hn=>by rw[List.map_nil,Dx,oa];omega|f::r,n,h0,hn=>by have hg:=ho.getD f.2.toNat;have hs:=AB ho r;rw[List.map_cons,Dx,Hf,if_neg h6,zH ho h6 r _ (by omega) (by omega),oa];omega
theorem afj{out:List Int}{n i:Nat}{t:aB}(ho:W out)(ht:cK n i t):Dx out t 1 (partsOf t)=min (1+(if t.1=6then t.2.2.1*out.getD t.2.1.toNat 0 else 0)+oa out t.2.2.2) 5001:=by
 unfold partsOf;by_cases h6:t.1=6;.have hf:t.2.2.2=[]:=ht.fields.1.resolve_left (by omega);rw[if_pos h6,hf,List.map_nil,List.append_nil,Dx,Dx,Hf,if_pos h6,oa];omega
 .rw[if_neg h6,List.nil_append,zH ho h6 _ _ (by omega) (by omega)];omega
theorem UM(n i:Nat):(List.replicate n (0:Int)).getD i 0=0:=by grind
theorem JZ{N:Nat}{R:List aB×Int->Option (List Int)}{l:List aB}(hN:1100<N)(hl:l.length<=100)(ht:x4 l)(hf:∀i,i<l.length->(dP l i).2.2.2.length<=1000){d:Nat}{below b':List Int}(hb':W b')(hd:d=0/\b'=List.replicate l.length 0\/0<d/\d<=10/\below=b'/\b'.length=l.length):
 f174.tX N R N (l,(d:Int),below,[],(0:Int))=some (iX b' l l.length):=by have key:=kI (n:=l.length) (Lf:=λk i=>f174.tX N R k (l,(d:Int),below,iX b' l i.toNat,i)) (g:=λ_=>some (iX b' l l.length)) (λk=>by simp only[f174.EW,aL,ak,Int.toNat_natCast]) (λk i hi ih=>by
   have e:idx l (i:Int)=some (dP l i):=cW _ hi;have ht':=ht i hi;have Wf:=ht'.fields;have hW:=xZ (i:=i) (l:=l) hb' (by omega) ht;have hol:=tu b' l i;have hps:∀q,q∈partsOf (dP l i)->0<=q/\q<(iX b' l i).length:=by
    intro q hq;rw[hol];unfold partsOf at hq;rw[List.mem_append]at hq;rcases hq with hq|hq
    .split at hq;.rw[List.mem_singleton]at hq;subst hq;exact(ht'.arr ‹_›).1
     .cases hq
    .obtain⟨f,h1,rfl⟩:=List.mem_map.1 hq;exact Wf.2.2 f h1
   have hpl:(partsOf (dP l i)).length<=1000:=by
    unfold partsOf;rw[List.length_append,List.length_map];split;.simp;omega
    .simp;omega
   have hin:=Mx (N:=N) (R:=R) hi ht' hW (d:Int) below (partsOf (dP l i)) hpl (partsOf (dP l i)) [] 1 N rfl hps (by omega) (by omega) (by omega);rw[show(([]:List Int).length:Int)=0from rfl,afj hW ht']at hin;simp only[Int.toNat_natCast]at ih⊢;rw[iX]at ih;have hbd:=hb'.getD (dP l i).2.1.toNat;have hod:=hW.getD (dP l i).2.1.toNat;have hsb:=AB hW (dP l i).2.2.2;have hroom:room ((iX b' l i).length+1) 8=true:=ah (by omega) (by omega);have fin:∀b31:Int,b31=zG b' (iX b' l i) (dP l i)->f174.tX N R k (l,(d:Int),below,iX b' l i++[b31],((i+1:Nat):Int))=some (iX b' l l.length):=by rintro _ rfl;exact ih
   simp only[f174.EW,aI hi,au,e,Option.bind_some,UL (t:=dP l i) hN (hf i hi),hin,hroom,af,aj (show i<9223372036854775807by omega)];rcases hd with⟨rfl,hd⟩|⟨hd,arB,rfl,FT⟩;.rw[show decide (((0:Nat):Int)>0)=false from rfl,ak,ak,Option.bind_some,ak,Option.bind_some,Option.bind_some,ak,Option.bind_some];refine fin _ ?_;unfold zG;rw[hd,UM];split<;>(try split)<;>(try split)<;>first|omega|rfl
   .rw[decide_eq_true (show(d:Int)>0 by omega),au,au,Option.bind_some];unfold zG at fin;by_cases h4:(dP l i).1=4;.have hp:=ht'.ptr (.inl h4);have hfs:(dP l i).2.2.2=[]:=Wf.1.resolve_left (by omega);rw[show((dP l i).1==(4:Int))=true by simp[h4],au,nV hp.1 (kL (by omega)),Option.bind_some,Option.bind_some,Option.bind_some,show((dP l i).1==(7:Int))=false by simp[h4],ak,Option.bind_some,if_neg (by omega)];refine fin _ ?_;rw[if_pos h4,hfs,oa,bp (by omega)];omega
    .rw[show((dP l i).1==(4:Int))=false by simp[h4],ak,Option.bind_some,Option.bind_some];rw[if_neg h4]at fin;by_cases h7:(dP l i).1=7;.have hp:=ht'.ptr (.inr h7);have hfs:(dP l i).2.2.2=[]:=Wf.1.resolve_left (by omega);rw[show((dP l i).1==(7:Int))=true by simp[h7],au,nV hp.1 (kL (by omega)),Option.bind_some,Option.bind_some,if_neg (by omega)];refine fin _ ?_;rw[if_pos h7,hfs,oa,bp (n:=16*_) (by omega),bp (by omega)];omega
     .rw[show((dP l i).1==(7:Int))=false by simp[h7],ak,Option.bind_some];rw[if_neg h7]at fin;exact fin _ rfl) N 0 (by omega) (by omega);simpa[iX]using key
theorem zI{l:List aB}(hl:l.length<=100)(ht:x4 l)(hf:∀i,i<l.length->(dP l i).2.2.2.length<=1000):∀(d N:Nat),d<=10->1200+d<N->GW N (l,(d:Int))=some (wR l d)|0,N,_,hN=>by obtain⟨N,rfl⟩:∃k,N=k+1:=⟨N-1,by omega⟩;rw[N4,show decide (((0:Nat):Int)>0)=false from rfl,JZ (by omega) hl ht hf (Oe l.length) (.inl ⟨rfl,rfl⟩)];rfl|d+1,N,hd,hN=>by obtain⟨N,rfl⟩:∃k,N=k+1:=⟨N-1,by omega⟩;rw[N4,decide_eq_true (by omega),bp (by omega),show((d+1:Nat):Int)-1=(d:Int)by omega,zI hl ht hf d N (by omega) (by omega),Option.bind_some,JZ (by omega) hl ht hf (CA ht d).1 (.inr ⟨by omega,by omega,rfl,(CA ht d).2⟩)];rfl
noncomputable def oJ(l:List aB):Prop:=l.length<=32/\x4 l/\∀x,x∈wR l 3->x<=5000
noncomputable def Of(l:List aB):Prop:=l.length<=100/\∀i,i<l.length->(dP l i).2.2.2.length<=1000/\i64 (dP l i).2.2.1
theorem Fc{N:Nat}{l:List aB}(hN:1300<N)(hl:Of l):LX N l=some (if oJ l then 0 else 8):=by
 rw[LX.eq_1];by_cases VP:l.length<=32
 .rw[decide_eq_false (show¬(l.length:Int)>32by omega),ak];have key:=fX (n:=l.length) (a:=(.inr l:Int⊕List aB)) (b:=.inl 8) (q:=λi=>!decide (cK l.length i (dP l i))) (Lf:=λk i=>f154.aU N k (l,(l.length:Int),i)) (λk _=>by simp only[f154.aU.eq_2,aL,ak]) (λk i hi _=>by
    simp only[f154.aU.eq_2,aI hi,au,UH (show 1100<N by omega) hi (hl.2 i hi).1 (hl.2 i hi).2,Option.bind_some,aj (show i<9223372036854775807by omega)];by_cases ht:cK l.length i (dP l i);.rw[bJ ht];rfl
    .rw[bE ht];rfl) (k:=N) (by omega);rw[key,qH,Option.bind_some];by_cases hall:x4 l
  .rw[if_pos (show∀i,i<l.length->decide (cK l.length i (dP l i))=true fromλi hi=>bJ (hall i hi))];simp;rw[Qu (by omega) hl.1 hall,Option.bind_some];have hW:=CA hall 3;have My:=fC (l:=wR l 3) (a:=(.inr ():Int⊕Unit)) (b:=.inl 8) (p:=λx=>!decide (x<=5000)) (Lf:=λk i=>f154.e8 N k (wR l 3,((wR l 3).length:Int),i)) (λk _=>by simp only[f154.e8.eq_2,aL,ak]) (λk i x hx hm=>by
     simp only[f154.e8.eq_2,aI (aA hx),au,aD hx,Option.bind_some,aj (show i<9223372036854775807by have:=aA hx;omega)];by_cases h5:x<=5000;.rw[bE (show¬x>5000by omega),bJ h5];rfl
     .rw[bJ (show x>5000by omega),bE h5];rfl) (k:=N) (by omega);rw[My,nc,Option.bind_some];by_cases h5:∀x,x∈wR l 3->x<=5000;.rw[if_pos λx hx=>bJ (h5 x hx),if_pos ⟨VP,hall,h5⟩]
   .rw[if_neg λh=>h5 λx hx=>of_decide_eq_true (h x hx),if_neg λh=>h5 h.2.2]
  .rw[if_neg λh=>hall λi hi=>of_decide_eq_true (h i hi),if_neg λh=>hall h.2.1]
 .rw[decide_eq_true (show(l.length:Int)>32by omega),au,if_neg λh=>VP h.1]
theorem Mz{N:Nat}{l:List aB}(hN:1300<N)(hl:Of l):Qe N l=some (if oJ l then 0 else 8):=by
 rw[Qe.eq_1];by_cases VP:l.length<=32
 .rw[decide_eq_false (show¬(l.length:Int)>32by omega),ak];have key:=fX (n:=l.length) (a:=(.inr l:Int⊕List aB)) (b:=.inl 8) (q:=λi=>!decide (cK l.length i (dP l i))) (Lf:=λk i=>f123.aU N k (l,i)) (λk _=>by simp only[f123.aU.eq_2,aL,ak]) (λk i hi _=>by
    simp only[f123.aU.eq_2,aI hi,au,Qs (show 1200<N by omega) hi (hl.2 i hi).1,Option.bind_some,aj (show i<9223372036854775807by omega)];by_cases ht:cK l.length i (dP l i);.rw[bJ ht];rfl
    .rw[bE ht];rfl) (k:=N) (by omega);rw[key,qH,Option.bind_some];by_cases hall:x4 l
  .rw[if_pos (show∀i,i<l.length->decide (cK l.length i (dP l i))=true fromλi hi=>bJ (hall i hi))];simp;have hw:=zI hl.1 hall (λi hi=>(hl.2 i hi).1) 3 N (by omega) (by omega);simp at hw;rw[hw,Option.bind_some];have hW:=CA hall 3;have My:=fC (l:=wR l 3) (a:=(.inr ():Int⊕Unit)) (b:=.inl 8) (p:=λx=>!decide (x<=5000)) (Lf:=λk i=>f123.e8 N k (l,wR l 3,i)) (λk _=>by simp only[f123.e8.eq_2,hW.2,aL,ak]) (λk i x hx hm=>by
     have:=aA hx;rw[hW.2]at this;simp only[f123.e8.eq_2,aI this,au,aD hx,Option.bind_some,aj (show i<9223372036854775807by omega)];by_cases h5:x<=5000;.rw[bE (show¬x>5000by omega),bJ h5];rfl
     .rw[bJ (show x>5000by omega),bE h5];rfl) (k:=N) (by omega);rw[My,nc,Option.bind_some];by_cases h5:∀x,x∈wR l 3->x<=5000;.rw[if_pos λx hx=>bJ (h5 x hx),if_pos ⟨VP,hall,h5⟩]
   .rw[if_neg λh=>h5 λx hx=>of_decide_eq_true (h x hx),if_neg λh=>h5 h.2.2]
  .rw[if_neg λh=>hall λi hi=>of_decide_eq_true (h i hi),if_neg λh=>hall h.2.1]
 .rw[decide_eq_true (show(l.length:Int)>32by omega),au,if_neg λh=>VP h.1]
end Go.Proofs.YtdogilonhnbapaaGreatDoor
