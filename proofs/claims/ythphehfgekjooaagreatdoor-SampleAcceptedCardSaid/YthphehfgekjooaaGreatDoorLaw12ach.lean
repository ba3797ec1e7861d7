/- A part of the proof: Law12acf, Law12acg, Law12ach. -/
import Derived.Test.YthphehfgekjooaaGreatDoorLaw12ace
set_option linter.unusedVariables false
set_option linter.unusedSimpArgs false
namespace Go.Proofs.YthphehfgekjooaaGreatDoor
open Go Go.bq Go.Sym
open Classical
theorem cX.fields {n i:Nat} {t:aI} (h:cX n i t):(t.1=5∨t.2.2.2=[])∧t.2.2.2.length≤8∧∀ f,f∈t.2.2.2→0≤f.2∧f.2<i:=by
 have nil:t.2.2.2.length=0→(t.1=5∨t.2.2.2=[])∧t.2.2.2.length≤8∧∀ f,f∈t.2.2.2→0≤f.2∧f.2<i:=fun h=>by
  have e:=List.eq_nil_of_length_eq_zero h
  rw[e]
  exact⟨.inr rfl,by simp,fun f hf=>by cases hf⟩
 unfold cX at h
 split at h
 ·exact nil h.2.2
 ·split at h
  ·exact nil h.2.2
  ·split at h
   ·exact nil h.2.2
   ·split at h
    ·rename_i h5
     exact⟨.inl h5,h.2.2.1.2,h.2.2.2.2⟩
    ·exact h.elim
theorem cX.ptr {n i:Nat} {t:aI} (h:cX n i t) (hk:t.1=4∨t.1=7):0≤t.2.1∧t.2.1<n:=by
 unfold cX at h
 rw[if_neg (by omega),if_pos hk] at h
 exact h.1
theorem cX.arr {n i:Nat} {t:aI} (h:cX n i t) (hk:t.1=6):(0≤t.2.1∧t.2.1<i)∧1≤t.2.2.1∧t.2.2.1≤16:=by
 unfold cX at h
 rw[if_neg (by omega),if_neg (by omega),if_pos hk] at h
 exact⟨h.1,h.2.1⟩
noncomputable def ud (out:List Int):List Field→Int
 |[]=>0
 |f :: r=>out.getD f.2.toNat 0+ud out r
noncomputable def IM (below out:List Int) (t:aI):Int:=
 min (1+(if t.1=4 then below.getD t.2.1.toNat 0 else if t.1=7 then 16*below.getD t.2.1.toNat 0 else if t.1=6 then t.2.2.1*out.getD t.2.1.toNat 0 else 0)+ud out t.2.2.2) 5001
noncomputable def l5 (below:List Int) (l:List aI):Nat→List Int
 |0=>[]
 |i+1=>l5 below l i++[IM below (l5 below l i) (jv l i)]
noncomputable def W (l:List Int):Prop:=∀ x,x∈l→0≤x∧x≤5001
theorem vE (below:List Int) (l:List aI):∀ i,(l5 below l i).length=i
 |0=>rfl
 |i+1=>by simp[l5,vE below l i]
theorem W.getD {l:List Int} (h:W l) (i:Nat):0≤l.getD i 0∧l.getD i 0≤5001:=by
 rw[List.getD_eq_getElem?_getD]
 cases e:l[i]? with
 |none=>simp
 |some x=>exact h x (bD e)
theorem MO {out:List Int} (h:W out):∀ fs:List Field,0≤ud out fs∧ud out fs≤fs.length*5001
 |[]=>by simp[ud]
 |f :: r=>by
  have:=MO h r
  have:=h.getD f.2.toNat
  simp only[ud,List.length_cons];omega
theorem Sl {below out:List Int} {n i:Nat} {t:aI} (hb:W below) (ho:W out) (ht:cX n i t):0≤IM below out t∧IM below out t≤5001:=by
 unfold IM
 have:=MO ho t.2.2.2
 refine⟨?_,by omega⟩
 have h1:=hb.getD t.2.1.toNat
 have h2:=ho.getD t.2.1.toNat
 have:0≤(if t.1=4 then below.getD t.2.1.toNat 0 else if t.1=7 then 16*below.getD t.2.1.toNat 0 else if t.1=6 then t.2.2.1*out.getD t.2.1.toNat 0 else 0):=by
  split
  ·omega
  ·split
   ·omega
   ·split
    ·rename_i h6
     exact Int.mul_nonneg (by have:=ht.arr h6;omega) h2.1
    ·omega
 omega
theorem Bz {below:List Int} {l:List aI} (hb:W below):∀ i,i≤l.length→(∀ j,j<l.length→cX l.length j (jv l j))→W (l5 below l i)
 |0,_,_=>fun x hx=>by cases hx
 |i+1,hi,ht=>fun x hx=>by
  simp only[l5,List.mem_append,List.mem_singleton] at hx
  rcases hx with hx|rfl
  ·exact Bz hb i (by omega) ht x hx
  ·exact Sl hb (Bz hb i (by omega) ht) (ht i (by omega))
theorem BA {α : Type} {a b:List α} {i:Nat} (d : α) (h:i<a.length):(a++b).getD i d=a.getD i d:=by
 rw[List.getD_eq_getElem?_getD,List.getD_eq_getElem?_getD,List.getElem?_append_left h]
theorem IN {a b:List Int} : ∀ {fs:List Field},(∀ f,f∈fs→0≤f.2∧f.2<a.length)→ud (a++b) fs=ud a fs
 |[],_=>rfl
 |f :: r,h=>by
  have:=h f List.mem_cons_self
  rw[ud,ud,BA _ (by omega),IN fun g hg=>h g (List.mem_cons_of_mem _ hg)]
theorem oS {l:List Int} {i:Nat} (h:i<l.length):l[i]?=some (l.getD i 0):=by
 rw[List.getD_eq_getElem?_getD,List.getElem?_eq_getElem h];rfl
theorem p6 {x:Int} {n:Nat} (h:0≤x∧x<n):jf x n=true:=by
 unfold jf
 rw[decide_eq_true h.1,decide_eq_true (by omega)];rfl
theorem Sm {N:Nat} {fs:List Field} {now below:List Int} (aiC:W now) (a:List aI) (b c:Int) (d:List aI) (e g:Int) (hl:fs.length≤1000):∀ (r pre:List Field) (n:Int) (k:Nat),fs=pre++r→(∀ f,f∈r→0≤f.2∧f.2<now.length)→0≤n→n≤100000+pre.length*5001→r.length<k→
  f91.mc N k (a,b,n,c,d,e,g,fs,(fs.length:Int),(pre.length:Int),below,now)=some (a,b,n+ud now r,c,d,e,g,below,now):=by
 intro r
 induction r with
 |nil=>
  intro pre n k he _ _ _ hk
  obtain⟨k,rfl⟩:∃ k',k=k'+1:=⟨k-1,by simp at hk;omega⟩
  rw[List.append_nil] at he;subst he
  rw[f91.mc.eq_2,bp,ai,ud,Int.add_zero]
 |cons x r ih=>
  intro pre n k he hf h0 hn hk
  obtain⟨k,rfl⟩:∃ k',k=k'+1:=⟨k-1,by simp at hk;omega⟩
  have hlen:pre.length+(r.length+1)=fs.length:=by rw[he];simp
  have hx:idx fs (pre.length:Int)=some x:=by rw[he];exact zm _ _ _
  have hx2:=hf x List.mem_cons_self
  have hg:=aiC.getD x.2.toNat
  have ih:=ih (pre++[x]) (n+now.getD x.2.toNat 0) k (by rw[he];simp) (fun f h=>hf f (List.mem_cons_of_mem _ h)) (by omega) (by rw[List.length_append,List.length_singleton];omega) (by simp at hk;omega)
  rw[f91.mc.eq_2,bg (by omega),av,hx,Option.bind_some,p6 hx2,aj,oS (by omega),Option.bind_some,bn (by omega),aE (by omega)]
  rw[show ((pre++[x]).length:Int)=((pre.length+1:Nat):Int) by simp] at ih
  rw[ih,ud,Int.add_assoc]
theorem Sn (n:Nat):W (List.replicate n 0):=fun x hx=>by rw[(List.mem_replicate.1 hx).2];omega
theorem W.app {a b:List Int} (ha:W a) (hb:W b):W (a++b):=fun x hx=>(List.mem_append.1 hx).elim (ha x) (hb x)
theorem Wf {a:List Int} {n i:Nat} {v:Int} (ha:a.length=i) (hi:i<n):(a++List.replicate (n-i) 0).set i v=(a++[v])++List.replicate (n-(i+1)) 0:=by
 rw[List.set_append_right _ _ (by omega),show n-i=(n-(i+1))+1 by omega,List.replicate_succ,show i-a.length=0 by omega,List.set_cons_zero,List.append_assoc];rfl
noncomputable def La (l:List aI):Prop:=∀ i,i<l.length→cX l.length i (jv l i)
theorem abf {N:Nat} {l:List aI} {below:List Int} (hN:1000<N) (hl:l.length≤100) (ht:La l) (hb:W below) (Jx:below.length=l.length) (r:Int) :
  f91.fM N N (l,r,l,(l.length:Int),(0:Int),below,List.replicate l.length 0)=some (l,r,l5 below l l.length):=by
 have key := vr (n := l.length) (Lf := fun k i => f91.fM N k (l, r, l, (l.length : Int), i, below, l5 below l i.toNat ++ List.replicate (l.length - i.toNat) 0)) (g := fun _ => some (l, r, l5 below l l.length)) (fun k => by
   simp only[f91.fM.eq_2,bp,ai,Int.toNat_natCast,Nat.sub_self,List.replicate_zero,List.append_nil]) (fun k i hi ih=>by
   have e:idx l (i:Int)=some (jv l i):=jY _ hi
   have ht':=ht i hi
   have hf:=ht'.fields
   have hW:=Bz (i:=i) (l:=l) hb (by omega) ht
   have hol:=vE below l i
   have hnl:(l5 below l i++List.replicate (l.length-i) (0:Int)).length=l.length:=by simp[hol];omega
   have hWn:W (l5 below l i++List.replicate (l.length-i) 0):=hW.app (Sn _)
   have hsum:ud (l5 below l i++List.replicate (l.length-i) 0) (jv l i).2.2.2=ud (l5 below l i) (jv l i).2.2.2:=IN fun f h=>by have:=hf.2.2 f h;rw[hol];exact this
   have Sp:∀ v:Int,(l5 below l i++List.replicate (l.length-i) 0).set i v=(l5 below l i++[v])++List.replicate (l.length-(i+1)) 0:=fun v=>Wf hol hi
   have fin:∀ n:Int,0≤n→n≤100000→1+(if (jv l i).1=4 then below.getD (jv l i).2.1.toNat 0 else if (jv l i).1=7 then 16*below.getD (jv l i).2.1.toNat 0 else if (jv l i).1=6 then (jv l i).2.2.1*(l5 below l i).getD (jv l i).2.1.toNat 0 else 0)=n→
     (Option.bind (f91.mc N N (l, (i : Int), n, r, l, (l.length : Int), (i : Int), (jv l i).2.2.2, ((jv l i).2.2.2.length : Int), (0 : Int), below, l5 below l i ++ List.replicate (l.length - i) 0)) fun OB =>
      (aM (jf OB.2.1 OB.2.2.2.2.2.2.2.2.length)
      ((Option.bind (OB.2.2.2.2.2.2.2.2[(Int.toNat OB.2.1)]?) fun x32=>
      f91.fM N k (OB.1,OB.2.2.2.1,OB.2.2.2.2.1,OB.2.2.2.2.2.1,(ah (OB.2.2.2.2.2.2.1+(1:Int))),OB.2.2.2.2.2.2.2.1,(OB.2.2.2.2.2.2.2.2.set (Int.toNat OB.2.1) (min OB.2.2.1 (5001:Int))))))))=some (l,r,l5 below l l.length):=by
    intro n h0 hn he
    have:=Sm (N:=N) (below:=below) hWn l (i:Int) r l (l.length:Int) (i:Int) (fs:=(jv l i).2.2.2) (by omega) (jv l i).2.2.2 [] n N rfl (fun f h=>by rw[hnl];have:=hf.2.2 f h;omega) h0 (by simp;omega) (by omega)
    rw[show (([]:List Field).length:Int)=0 from rfl] at this
    rw[this,Option.bind_some]
    simp only[Int.toNat_natCast]
    rw[hnl,dD hi,aj,oS (by rw[hnl];exact hi),Option.bind_some,aE (by omega),Sp,hsum]
    simp only[Int.toNat_natCast] at ih
    rw[l5,IM,he] at ih
    exact ih
   have hbd:=hb.getD (jv l i).2.1.toNat
   have hod:=hW.getD (jv l i).2.1.toNat
   simp only[f91.fM.eq_2,bg hi,av,e,Option.bind_some,Int.toNat_natCast]
   by_cases h4:(jv l i).1=4
   ·have hp := ht'.ptr (.inl h4)
    rw[if_pos h4] at fin
    rw[show ((jv l i).1==(4:Int))=true by simp[h4],av,p6 (by omega),aj,oS (by omega),Option.bind_some,bn (by omega)]
    exact fin _ (by omega) (by omega) rfl
   ·rw [show ((jv l i).1 == (4 : Int)) = false by simp [h4], ai]
    rw[if_neg h4] at fin
    by_cases h7:(jv l i).1=7
    ·have hp := ht'.ptr (.inr h7)
     rw[if_pos h7] at fin
     rw[show ((jv l i).1==(7:Int))=true by simp[h7],av,p6 (by omega),aj,oS (by omega),Option.bind_some,bn (n:=16*_) (by omega),bn (by omega)]
     exact fin _ (by omega) (by omega) rfl
    ·rw [show ((jv l i).1 == (7 : Int)) = false by simp [h7], ai]
     rw[if_neg h7] at fin
     by_cases h6:(jv l i).1=6
     ·have hp := ht'.arr h6
      rw[if_pos h6] at fin
      have hm:0≤(jv l i).2.2.1*(l5 below l i).getD (jv l i).2.1.toNat 0∧(jv l i).2.2.1*(l5 below l i).getD (jv l i).2.1.toNat 0≤16*5001:=⟨Int.mul_nonneg (by omega) hod.1,Int.mul_le_mul (by omega) hod.2 hod.1 (by omega)⟩
      rw[show ((jv l i).1==(6:Int))=true by simp[h6],av,p6 (by rw[hnl];omega),aj,oS (by rw[hnl];omega),Option.bind_some,BA _ (by rw[hol];omega),bn (n:=(jv l i).2.2.1*_) (by omega),bn (by omega)]
      exact fin _ (by omega) (by omega) rfl
     ·rw [show ((jv l i).1 == (6 : Int)) = false by simp [h6], ai]
      rw[if_neg h6] at fin
      exact fin 1 (by omega) (by omega) rfl) N 0 (by omega) (by omega)
 simpa[l5] using key
noncomputable def wR (l:List aI):Nat→List Int
 |0=>l5 (List.replicate l.length 0) l l.length
 |d+1=>l5 (wR l d) l l.length
theorem IP {l:List aI} (ht:La l):∀ d,W (wR l d)∧(wR l d).length=l.length
 |0=>⟨Bz (Sn _) _ (by omega) ht,vE _ _ _⟩
 |d+1=>⟨Bz (IP ht d).1 _ (by omega) ht,vE _ _ _⟩
theorem OC {N:Nat} {l:List aI} (hN:1000<N) (hl:l.length≤100) (ht:La l):F91 N l=some (wR l 3):=by
 have hr:(decide (Int.toNat (l.length:Int)≤Int.toNat (l.length:Int))&&room (Int.toNat (l.length:Int)) 8)=true:=by
  rw[decide_eq_true (Nat.le_refl _),Int.toNat_natCast,az (by omega) (by omega)];rfl
 have h0:decide (0≤(l.length:Int))=true:=decide_eq_true (by omega)
 have step:∀ (j:Nat) (b:List Int) k,j<4→W b→b.length=l.length→f91.cB N (k+1) (l,(j:Int),b)=f91.cB N k (l,((j+1:Nat):Int),l5 b l l.length):=fun j b k hj hb Jx=>by
  rw[f91.cB.eq_2,decide_eq_true (by omega),av,h0,aj,aj,hr,aj,Int.toNat_natCast,abf hN hl ht hb Jx,Option.bind_some]
  simp only
  rw[aE (by omega)]
 obtain⟨k,rfl⟩:∃ k,N=k+5:=⟨N-5,by omega⟩
 rw[F91.eq_1,h0,aj,aj,hr,aj,Int.toNat_natCast]
 have s0:=step 0 (List.replicate l.length 0) (k+4) (by omega) (Sn _) (by simp)
 have s1:=step 1 _ (k+3) (by omega) (IP ht 0).1 (IP ht 0).2
 have s2:=step 2 _ (k+2) (by omega) (IP ht 1).1 (IP ht 1).2
 have s3:=step 3 _ (k+1) (by omega) (IP ht 2).1 (IP ht 2).2
 have e:f91.cB (k+5) (k+5) (l,(0:Int),List.replicate l.length 0)=some (wR l 3):=by
  refine s0.trans (s1.trans (s2.trans (s3.trans ?_)))
  rw[f91.cB.eq_2,decide_eq_false (by omega),ai];rfl
 rw[e];rfl
end Go.Proofs.YthphehfgekjooaaGreatDoor
namespace Go.Proofs.YthphehfgekjooaaGreatDoor
open Go Go.bq Go.Sym
open Classical
noncomputable def partsOf (t:aI):List Int:=(if t.1=6 then [t.2.1] else [])++t.2.2.2.map (·.2)
theorem yf {α β : Type} (g : α→β):∀ fs:List α,fs.flatMap (fun f=>[g f])=fs.map g
 |[]=>rfl
 |x :: r=>by rw[List.flatMap_cons,yf g r];rfl
noncomputable def aiE (t:aI):Int:=if t.1=6 then t.2.2.1 else 1
noncomputable def aiF (out:List Int) (t:aI):Int→List Int→Int
 |n,[]=>n
 |n,q :: r=>aiF out t (min (n+aiE t*out.getD q.toNat 0) 5001) r
noncomputable def p7 (l:List aI):Prop:=l.length≤32∧La l∧∀ x,x∈wR l 3→x≤5000
noncomputable def Sq (l:List aI):Prop:=l.length≤100∧∀ i,i<l.length→(jv l i).2.2.2.length≤1000∧i64 (jv l i).2.2.1
theorem DV {N:Nat} {l:List aI} (hN:1300<N) (hl:Sq l):F53 N l=some (if p7 l then 0 else 8):=by
 rw[F53.eq_1]
 by_cases h32:l.length≤32
 ·rw [decide_eq_false (show ¬ (l.length : Int) > 32 by omega), ai]
  have key:=mY (n:=l.length) (a:=(.inr l:Int⊕List aI)) (b:=.inl 8) (q:=fun i=>!decide (cX l.length i (jv l i))) (Lf:=fun k i=>f53.bz N k (l,(l.length:Int),i)) (fun k _=>by
    simp only[f53.bz.eq_2,bp,ai]) (fun k i hi _=>by
    simp only[f53.bz.eq_2,bg hi,av,Sk (show 1100<N by omega) hi (hl.2 i hi).1 (hl.2 i hi).2,Option.bind_some,aE (show i<9223372036854775807 by omega)]
    by_cases ht:cX l.length i (jv l i)
    ·rw[dc ht];rfl
    ·rw[cu ht];rfl) (k:=N) (by omega)
  rw[key,Bw,Option.bind_some]
  by_cases hall:La l
  ·rw [if_pos (show ∀ i, i < l.length → decide (cX l.length i (jv l i)) = true from fun i hi => dc (hall i hi))]
   simp only
   rw[OC (by omega) hl.1 hall,Option.bind_some]
   have hW:=IP hall 3
   have abg:=rV (l:=wR l 3) (a:=(.inr ():Int⊕Unit)) (b:=.inl 8) (p:=fun x=>!decide (x≤5000)) (Lf:=fun k i=>f53.me N k (wR l 3,((wR l 3).length:Int),i)) (fun k _=>by
     simp only[f53.me.eq_2,bp,ai]) (fun k i x hx hm=>by
     simp only[f53.me.eq_2,bg (aN hx),av,aT hx,Option.bind_some,aE (show i<9223372036854775807 by have:=aN hx;omega)]
     by_cases h5:x≤5000
     ·rw[cu (show ¬x>5000 by omega),dc h5];rfl
     ·rw[dc (show x>5000 by omega),cu h5];rfl) (k:=N) (by omega)
   rw[abg,zq,Option.bind_some]
   by_cases h5:∀ x,x∈wR l 3→x≤5000
   ·rw[if_pos fun x hx=>dc (h5 x hx),if_pos ⟨h32,hall,h5⟩]
   ·rw[if_neg fun h=>h5 fun x hx=>of_decide_eq_true (h x hx),if_neg fun h=>h5 h.2.2]
  ·rw[if_neg fun h=>hall fun i hi=>of_decide_eq_true (h i hi),if_neg fun h=>hall h.2.1]
 ·rw[decide_eq_true (show (l.length:Int)>32 by omega),av,if_neg fun h=>h32 h.1]
end Go.Proofs.YthphehfgekjooaaGreatDoor
namespace Go.Proofs.YthphehfgekjooaaGreatDoor
open Go Go.bq Go.Sym
open Classical
noncomputable def up (a s:Int):Int:=(s+a-1) / a*a
theorem Lb (s:Int):up 1 s=s:=by unfold up;omega
theorem BB (s:Int):up 8 s=(s+7) / 8*8:=by unfold up;omega
noncomputable def AL (a:Int):Prop:=a=1∨a=8
theorem Sr {a s:Int} (ha:AL a) (hs:0≤s):s≤up a s∧up a s≤s+7:=by
 rcases ha with rfl|rfl
 ·rw[Lb];omega
 ·rw[BB];omega
theorem Ss {a s C:Int} (ha:AL a) (hC:C % 8=0) (hs:s≤C):up a s≤C:=by
 rcases ha with rfl|rfl
 ·rw[Lb];omega
 ·rw[BB];omega
theorem Wg (n:Nat) (hn:n<18446744073709551616):(BitVec.ofNat 64 n &&& ~~~(7#64)).toNat=n / 8*8:=by
 have e:n / 8*8=(n >>> 3) <<< 3:=by rw[Nat.shiftRight_eq_div_pow,Nat.shiftLeft_eq]
 rw[e]
 refine Nat.eq_of_testBit_eq fun k=>?_
 rw[BitVec.toNat_and,Nat.testBit_and,BitVec.toNat_ofNat,Nat.mod_eq_of_lt hn,BitVec.testBit_toNat,BitVec.getLsbD_not,Nat.testBit_shiftLeft,Nat.testBit_shiftRight]
 rcases Nat.lt_or_ge k 64 with h|h
 ·rw [decide_eq_true h, Bool.true_and]
  by_cases h3:k<3
  ·have : k = 0 ∨ k = 1 ∨ k = 2 := by omega
   rcases this with rfl|rfl|rfl<;>simp
  ·rw [decide_eq_true (show k ≥ 3 by omega), Bool.true_and, show 3 + (k - 3) = k by omega]
   have:(7#64).getLsbD k=false:=by
    rw[show (7#64)=BitVec.ofNat 64 7 from rfl,BitVec.getLsbD_ofNat,Nat.testBit_lt_two_pow (x:=7) (i:=k) (Nat.lt_of_lt_of_le (show 7<2 ^ 3 by omega) (Nat.pow_le_pow_right (by omega) (by omega))),Bool.and_false]
   rw[this,Bool.not_false,Bool.and_true]
 ·have h1 : n.testBit k = false := Nat.testBit_lt_two_pow (Nat.lt_of_lt_of_le hn (by rw [show 18446744073709551616 = 2 ^ 64 by decide]; exact Nat.pow_le_pow_right (by omega) h))
  rw[h1,Bool.false_and,decide_eq_true (show k≥3 by omega),Bool.true_and,show 3+(k-3)=k by omega,h1]
theorem BC {a s:Int} (ha:AL a) (hs:0≤s∧s≤4000000):nO .i64 (ah ((ah (s+a))-(1:Int))) (ah (a-(1:Int)))=up a s:=by
 rcases ha with rfl|rfl
 ·rw [bn (n := s + 1) (by omega), show s + 1 - 1 = s by omega, bn (by omega), show ah ((1 : Int) - 1) = 0 from by decide, Lb]
  obtain⟨n,rfl⟩:=Int.eq_ofNat_of_zero_le hs.1
  unfold nO
  have e:(BitVec.ofInt IntKind.i64.bits ((n:Nat):Int) &&& ~~~(BitVec.ofInt IntKind.i64.bits 0)).toNat=n:=by
   show (BitVec.ofInt 64 ((n:Nat):Int) &&& ~~~(BitVec.ofInt 64 0)).toNat=n
   rw[show ~~~(BitVec.ofInt 64 0)=BitVec.allOnes 64 by decide,BitVec.and_allOnes,BitVec.ofInt_natCast,BitVec.toNat_ofNat];omega
  rw[e];exact bn (by omega)
 ·rw [bn (n := s + 8) (by omega), show s + 8 - 1 = s + 7 by omega, bn (by omega), show ah ((8 : Int) - 1) = 7 from by decide, BB]
  obtain⟨n,rfl⟩:=Int.eq_ofNat_of_zero_le hs.1
  unfold nO
  have e:(BitVec.ofInt IntKind.i64.bits ((n:Int)+7) &&& ~~~(BitVec.ofInt IntKind.i64.bits 7)).toNat=(n+7) / 8*8:=by
   show (BitVec.ofInt 64 ((n:Int)+7) &&& ~~~(BitVec.ofInt 64 7)).toNat=_
   rw[show (n:Int)+7=((n+7:Nat):Int) by omega,BitVec.ofInt_natCast,show BitVec.ofInt 64 7=7#64 from rfl]
   exact Wg _ (by omega)
  rw[e,show IntKind.i64.wrap (((n+7) / 8*8:Nat):Int)=(((n+7) / 8*8:Nat):Int) from bn (by omega)]
  omega
abbrev Ex:=Int×Int
noncomputable def rY (x:List Ex) (i:Int):Ex:=x.getD i.toNat (0,1)
noncomputable def rZ (C:Int) (x:List Ex):Int→Int→List Field→List Int×Int×Int
 |s,a,[]=>([],s,a)
 |s,a,f :: r=>
  let q:=rZ C x (min C (up (rY x f.2).2 s+(rY x f.2).1)) (max a (rY x f.2).2) r
  (up (rY x f.2).2 s :: q.1,q.2.1,q.2.2)
noncomputable def EX (C:Int) (x:List Ex):Prop:=∀ e,e∈x→AL e.2∧0≤e.1∧e.1≤C
theorem EX.get {C:Int} (hC:0≤C) {x:List Ex} (h:EX C x) (i:Int):AL (rY x i).2∧0≤(rY x i).1∧(rY x i).1≤C:=by
 unfold rY
 rw[List.getD_eq_getElem?_getD]
 cases e:x[i.toNat]? with
 |none=>exact⟨.inl rfl,by show (0:Int)≤0;omega,hC⟩
 |some y=>exact h y (bD e)
theorem AL.max {a b:Int} (ha:AL a) (hb:AL b):AL (max a b):=by
 rcases ha with rfl|rfl<;>rcases hb with rfl|rfl
 ·exact .inl rfl
 ·exact .inr rfl
 ·exact .inr rfl
 ·exact .inr rfl
theorem FI {C:Int} (hC:0≤C) {x:List Ex} (hx:EX C x):∀ (fs:List Field) (s a:Int),0≤s→s≤C→AL a→(0≤(rZ C x s a fs).2.1∧(rZ C x s a fs).2.1≤C)∧AL (rZ C x s a fs).2.2∧(rZ C x s a fs).1.length=fs.length
 |[],s,a,h0,hs,ha=>⟨⟨h0,hs⟩,ha,rfl⟩
 |f :: r,s,a,h0,hs,ha=>by
  obtain⟨e1,e2,e3⟩:=hx.get hC f.2
  have hu:=Sr e1 h0
  obtain⟨g1,g2,g3⟩:=FI hC hx r (min C (up (rY x f.2).2 s+(rY x f.2).1)) (max a (rY x f.2).2) (by omega) (by omega) (ha.max e1)
  simp only[rZ]
  exact⟨g1,g2,by rw[List.length_cons,List.length_cons,g3]⟩
theorem FJ {x:List Ex} {i:Int} (h:0≤i∧i<x.length):idx x i=some (rY x i):=by
 refine A3 h.1 ?_
 unfold rY
 rw[List.getD_eq_getElem?_getD,List.getElem?_eq_getElem (by omega)];rfl
theorem MP {a b:List Ex} {i:Int} (h:0≤i∧i<a.length):rY (a++b) i=rY a i:=BA _ (by omega)
theorem Su {N:Nat} {x b:List Ex} (hx:EX 1048576 x) {fs:List Field} (hl:fs.length≤1000) (c1 c2:Int):∀ (r pre:List Field) (os:List Int) (s a:Int) (k:Nat),fs=pre++r→os.length=pre.length→(∀ f,f∈r→0≤f.2∧f.2<x.length)→0≤s→s≤1048576→AL a→r.length<k→
  f170.cB N k (x++b,fs,(fs.length:Int),(pre.length:Int),c1,c2,os++List.replicate r.length 0,s,a)=some (c1,c2,os++(rZ 1048576 x s a r).1,(rZ 1048576 x s a r).2.1,(rZ 1048576 x s a r).2.2):=by
 intro r
 induction r with
 |nil=>
  intro pre os s a k he _ _ _ _ _ hk
  obtain⟨k,rfl⟩:∃ k',k=k'+1:=⟨k-1,by simp at hk;omega⟩
  rw[List.append_nil] at he;subst he
  rw[f170.cB.eq_2,bp,ai];rfl
 | cons f r ih =>
  intro pre os s a k he ho hf h0 hs ha hk
  obtain⟨k,rfl⟩:∃ k',k=k'+1:=⟨k-1,by simp at hk;omega⟩
  have hlen:pre.length+(r.length+1)=fs.length:=by rw[he];simp
  have hxf:idx fs (pre.length:Int)=some f:=by rw[he];exact zm _ _ _
  have hf2:=hf f List.mem_cons_self
  have hif:idx (x++b) f.2=some (rY x f.2):=by rw[FJ (by rw[List.length_append];omega),MP hf2]
  obtain⟨e1,e2,e3⟩:=hx.get (by omega) f.2
  have hu:=Sr e1 h0
  have huc:=Ss (C:=1048576) e1 (by omega) hs
  have hol:(os++List.replicate (f :: r).length (0:Int)).length=fs.length:=by simp[ho];omega
  have Sp:∀ v:Int,(os++List.replicate (f :: r).length (0:Int)).set pre.length v=(os++[v])++List.replicate r.length 0:=fun v=>by
   rw[List.set_append_right _ _ (by omega),List.length_cons,List.replicate_succ,show pre.length-os.length=0 by omega,List.set_cons_zero,List.append_assoc];rfl
  have ih:=ih (pre++[f]) (os++[up (rY x f.2).2 s]) (min 1048576 (up (rY x f.2).2 s+(rY x f.2).1)) (max a (rY x f.2).2) k (by rw[he];simp) (by simp[ho]) (fun g h=>hf g (List.mem_cons_of_mem _ h)) (by omega) (by omega) (ha.max e1) (by simp at hk;omega)
  rw[f170.cB.eq_2,bg (by omega),av,hxf,Option.bind_some,hif,Option.bind_some,p6 (by rw[hol];omega),aj,BC e1 ⟨h0,by omega⟩,Int.toNat_natCast,oS (by rw[hol];omega),Option.bind_some,Sp,p6 (by simp[ho];omega),aj]
  have hg:(os++[up (rY x f.2).2 s]++List.replicate r.length (0:Int))[pre.length]?=some (up (rY x f.2).2 s):=by
   rw[List.append_assoc,List.getElem?_append_right (by omega),ho,Nat.sub_self];rfl
  rw[hg,Option.bind_some,aE (by omega),bn (by omega)]
  rw[show ((pre++[f]).length:Int)=((pre.length+1:Nat):Int) by simp] at ih
  rw[ih]
  simp only[rZ]
  rw[List.append_assoc];rfl
theorem abh {N:Nat} {x b:List Ex} (hN:1100<N) (hx:EX 1048576 x) {fs:List Field} (hl:fs.length≤1000) (hf:∀ f,f∈fs→0≤f.2∧f.2<x.length) :
  KM N (x++b,fs)=some ((rZ 1048576 x 0 1 fs).1,up (rZ 1048576 x 0 1 fs).2.2 (rZ 1048576 x 0 1 fs).2.1,(rZ 1048576 x 0 1 fs).2.2):=by
 have h0:decide (0≤(fs.length:Int))=true:=decide_eq_true (by omega)
 have hr:(decide (Int.toNat (fs.length:Int)≤Int.toNat (fs.length:Int))&&room (Int.toNat (fs.length:Int)) 8)=true:=by
  rw[decide_eq_true (Nat.le_refl _),Int.toNat_natCast,az (by omega) (by omega)];rfl
 have:=Su (N:=N) (b:=b) hx hl 0 0 fs [] [] 0 1 N rfl rfl hf (by omega) (by omega) (.inl rfl) (by omega)
 rw[show (([]:List Field).length:Int)=0 from rfl,List.nil_append,List.nil_append] at this
 obtain⟨b1,b2,_⟩:=FI (C:=1048576) (by omega) hx fs 0 1 (by omega) (by omega) (.inl rfl)
 rw[KM.eq_1,h0,aj,aj,hr,aj,Int.toNat_natCast,this,Option.bind_some]
 simp only
 rw[BC b2 ⟨b1.1,by omega⟩]
noncomputable def BD (C:Int) (out:List Ex) (t:aI):Ex:=
 if t.1=1 then (1,1) else if t.1=3 then (16,8) else if t.1=7 then (24,8)
 else if t.1=6 then (min C (t.2.2.1*(rY out t.2.1).1),(rY out t.2.1).2)
 else if t.1=5 then (up (rZ C out 0 1 t.2.2.2).2.2 (rZ C out 0 1 t.2.2.2).2.1,(rZ C out 0 1 t.2.2.2).2.2)
 else (8,8)
noncomputable def iY (C:Int) (l:List aI):Nat→List Ex
 |0=>[]
 |i+1=>iY C l i++[BD C (iY C l i) (jv l i)]
theorem BE (C:Int) (l:List aI):∀ i,(iY C l i).length=i
 |0=>rfl
 |i+1=>by simp[iY,BE C l i]
theorem IQ {a b C:Int} (ha:1≤a∧a≤16) (hb:0≤b∧b≤C) (_hC:0≤C):0≤a*b∧a*b≤16*C:=
 ⟨Int.mul_nonneg (by omega) hb.1,Int.mul_le_mul ha.2 hb.2 hb.1 (by omega)⟩
theorem Sv {C:Int} (hC:1000≤C) (h8:C % 8=0) {out:List Ex} (ho:EX C out) {n i:Nat} {t:aI} (ht:cX n i t):AL (BD C out t).2∧0≤(BD C out t).1∧(BD C out t).1≤C:=by
 unfold BD
 have ha:=ho.get (by omega) t.2.1
 obtain⟨b1,b2,_⟩:=FI (C:=C) (by omega) ho t.2.2.2 0 1 (by omega) (by omega) (.inl rfl)
 have hc:=Ss b2 h8 b1.2
 have hu:=Sr b2 b1.1
 split
 ·exact⟨.inl rfl,by show (0:Int)≤1;omega,by show (1:Int)≤C;omega⟩
 ·split
  ·exact⟨.inr rfl,by show (0:Int)≤16;omega,by show (16:Int)≤C;omega⟩
  ·split
   ·exact⟨.inr rfl,by show (0:Int)≤24;omega,by show (24:Int)≤C;omega⟩
   ·split
    ·rename_i h6
     have:=IQ (ht.arr h6).2 ha.2 (by omega)
     exact⟨ha.1,by show 0≤min C _;omega,by show min C _≤C;omega⟩
    ·split
     ·exact⟨b2,by show 0≤up _ _;omega,hc⟩
     ·exact⟨.inr rfl,by show (0:Int)≤8;omega,by show (8:Int)≤C;omega⟩
theorem FK {C:Int} (hC:1000≤C) (h8:C % 8=0) {l:List aI} (ht:La l):∀ i,i≤l.length→EX C (iY C l i)
 |0,_=>fun e he=>by cases he
 |i+1,hi=>fun e he=>by
  simp only[iY,List.mem_append,List.mem_singleton] at he
  rcases he with he|rfl
  ·exact FK hC h8 ht i (by omega) e he
  ·exact Sv hC h8 (FK hC h8 ht i (by omega)) (ht i (by omega))
theorem abi {a:List Ex} {n i:Nat} {v:Ex} (ha:a.length=i) (hi:i<n):(a++List.replicate (n-i) (0,0)).set i v=(a++[v])++List.replicate (n-(i+1)) (0,0):=by
 rw[List.set_append_right _ _ (by omega),show n-i=(n-(i+1))+1 by omega,List.replicate_succ,show i-a.length=0 by omega,List.set_cons_zero,List.append_assoc];rfl
end Go.Proofs.YthphehfgekjooaaGreatDoor
