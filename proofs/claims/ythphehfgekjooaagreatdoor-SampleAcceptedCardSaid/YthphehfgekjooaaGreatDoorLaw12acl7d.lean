/- A part of the proof: Law12acl7c, Law12acl7d. -/
import Derived.Test.YthphehfgekjooaaGreatDoorLaw12acl7b
set_option linter.unusedVariables false
set_option linter.unusedSimpArgs false
namespace Go.Proofs.YthphehfgekjooaaGreatDoor
open Go Go.bq Go.Sym
noncomputable def Cv (n:Int) (x:Instr):Bool:=(x.1==22&&decide (x.2.1≥n))||(x.1==23&&decide (x.2.2.1≥n))
noncomputable def Lh (n:Int) (x:Instr):Bool:=!fk x||Cv n x
noncomputable def Wq (x:Instr):Bool:=x.1==(34:Int)&&(x.2.1==(-1:Int)&&(x.2.2.1==(0:Int)&&(x.2.2.2==(0:Int)&&true)))
noncomputable def nc (l:List Instr):Instr:=l.getD (l.length-1) (0,0,0,0)
noncomputable def ji (l:List Instr):Bool:=decide (1≤l.length)&&(decide (l.length≤200)&&(!(l.any (Lh (l.length:Int)))&&Wq (nc l)))
theorem SG {l:List Instr} (h:1≤l.length) (h2:l.length≤9223372036854775807):idx l (ah ((l.length:Int)-1))=some (nc l):=by
 have e:ah ((l.length:Int)-1)=((l.length-1:Nat):Int):=by rw[bn (by omega)];omega
 rw[e]
 refine aT ?_
 simp only[nc,List.getD_eq_getElem?_getD]
 rw[List.getElem?_eq_getElem (by omega)]
 rfl
theorem Wr (x:Instr) (n:Int):(bif (x.1==(22:Int)) then (bif (decide (x.2.1≥n)) then some true else (bif (x.1==(23:Int)) then some (decide (x.2.2.1≥n)) else some false)) else (bif (x.1==(23:Int)) then some (decide (x.2.2.1≥n)) else some false))=some (Cv n x):=by
 unfold Cv
 cases (x.1==(22:Int))<;>cases (x.1==(23:Int))<;>cases decide (x.2.1≥n)<;>cases decide (x.2.2.1≥n)<;>rfl
theorem Li {N:Nat} {l:List Instr} (hN:210<N) (hl:l.length≤9223372036854775807):Iy N l=some (bif ji l then 0 else 8):=by
 rw[Iy.eq_1]
 unfold ji
 by_cases h1:1≤l.length
 ·rw [show ((l.length : Int) == 0) = false by simp; intro h; simp [h] at h1, ai, decide_eq_true h1, Bool.true_and]
  by_cases h2:l.length≤200
  ·rw [show decide ((l.length : Int) > 200) = false by simp; omega, ai, decide_eq_true h2, Bool.true_and, SG h1 hl, Option.bind_some]
   show (bif !(Wq (nc l)) then _ else _)=_
   cases Wq (nc l) with
   |false=>simp
   | true =>
    have key:=A4 (l:=l) (a:=(.inr ():Int⊕Unit)) (b:=.inl 8) (p:=Lh (l.length:Int)) (Lf:=fun k i=>f115.ct N k ((l.length:Int),l,(l.length:Int),i))
     (fun k => by simp only [f115.ct.eq_2, bp, ai]) (fun k i x hx hi => by
      simp only[f115.ct.eq_2,bg (aN hi),av,aT hi,Option.bind_some,oP,Wr,aE (show i<9223372036854775807 by have:=aN hi;omega)]
      cases h1:fk x<;>cases h2:Cv (l.length:Int) x<;>simp[Lh,h1,h2]) N (by omega)
    rw[Bool.not_true,ai,key,Option.bind_some]
    cases l.any (Lh (l.length:Int))<;>rfl
  ·rw[show decide ((l.length:Int)>200)=true by simp;omega,av,show decide (l.length≤200)=false by simp;omega];rfl
 ·have : l = [] := by cases l with | nil => rfl | cons a r => simp at h1
  subst this;rfl
structure VC (l:List Instr):Prop where
 pos:1≤l.length
 le:l.length≤200
 aM:∀ (i:Nat) x,l[i]?=some x→fk x=true
 jmp:∀ (i:Nat) x,l[i]?=some x→x.1=22→0≤x.2.1∧x.2.1<l.length
 br:∀ (i:Nat) x,l[i]?=some x→x.1=23→0≤x.2.2.1∧x.2.2.1<l.length
 last:∀ x,l[l.length-1]?=some x→x.1=34
theorem ae3 {x:Instr} (h:fk x=true) (hx:x.1=22):0≤x.2.1:=by
 have e:Gt 22=some (105,45,45):=rfl
 simp only[fk,hx,e,fits,Bool.and_eq_true,decide_eq_true_eq] at h
 exact h.1.1
theorem ae4 {x:Instr} (h:fk x=true) (hx:x.1=23):0≤x.2.2.1:=by
 have e:Gt 23=some (114,105,45):=rfl
 simp only[fk,hx,e,fits,Bool.and_eq_true,decide_eq_true_eq] at h
 exact h.2.1.1
theorem zw {l:List Instr} (h:ji l=true):VC l:=by
 simp only[ji,Bool.and_eq_true,decide_eq_true_eq,Bool.not_eq_true',List.any_eq_false] at h
 obtain⟨h1,h2,h3,h4⟩:=h
 have hb:∀ (i:Nat) x,l[i]?=some x→fk x=true∧Cv (l.length:Int) x=false:=fun i x hi=>by
  have:=h3 x (List.mem_of_getElem? hi)
  simp only[Lh,Bool.or_eq_true,Bool.not_eq_true',not_or,Bool.not_eq_false,Bool.not_eq_true] at this
  exact this
 refine⟨h1,h2,fun i x hi=>(hb i x hi).1,fun i x hi hx=>⟨ae3 (hb i x hi).1 hx,?_⟩,fun i x hi hx=>⟨ae4 (hb i x hi).1 hx,?_⟩,fun x hi=>?_⟩
 ·have := (hb i x hi).2
  simp only[Cv,hx,Bool.or_eq_false_iff] at this
  have:=this.1
  simp at this;exact this
 ·have := (hb i x hi).2
  simp only[Cv,hx,Bool.or_eq_false_iff] at this
  have:=this.2
  simp at this;exact this
 ·have e : nc l = x := by simp only [nc, List.getD_eq_getElem?_getD, hi]; rfl
  rw[e] at h4
  simp only[Wq,Bool.and_eq_true,beq_iff_eq] at h4
  exact h4.1
noncomputable def cN (l:List Nat):List Int:=List.map (fun n:Nat=>(n:Int)) l
noncomputable def nx (l:List Instr) (i:Nat):List Nat:=
 match l[i]? with
 |none=>[]
 |some x=>
  if x.1=34∨x.1=28∨x.1=30 then []
  else if x.1=22 then [x.2.1.toNat]
  else if x.1=23 then if x.2.2.1.toNat=i+1 then [i+1] else [min (i+1) x.2.2.1.toNat,max (i+1) x.2.2.1.toNat]
  else [i+1]
theorem SH {l:List Instr} (h:VC l) {i k:Nat} (hk:k∈nx l i):k<l.length:=by
 unfold nx at hk
 split at hk
 ·cases hk
 ·rename_i x hi
  have hlt:=aN hi
  have hs:x.1≠34→i+1<l.length:=fun hx=>by
   by_cases h1:i=l.length-1
   ·subst h1;exact absurd (h.last x hi) hx
   ·omega
  split at hk
  ·cases hk
  ·rename_i hne
   simp only[not_or] at hne
   have:=hs hne.1
   split at hk
   ·rename_i h22
    have:=h.jmp i x hi h22
    simp only[List.mem_singleton] at hk
    omega
   ·split at hk
    ·rename_i h23
     have:=h.br i x hi h23
     split at hk
     ·simp only[List.mem_singleton] at hk;omega
     ·simp only[List.mem_cons,List.not_mem_nil,or_false] at hk;omega
    ·simp only[List.mem_singleton] at hk;omega
theorem BH (l:List Instr) (i:Nat):(nx l i).length≤2:=by
 unfold nx
 split
 ·simp
 ·repeat' split
  all_goals simp
theorem Ws (x:Instr):((x.1==(34:Int))||((x.1==(28:Int))||(x.1==(30:Int))))=decide (x.1=34∨x.1=28∨x.1=30):=by
 by_cases h1:x.1=34<;>by_cases h2:x.1=28<;>by_cases h3:x.1=30<;>simp[h1,h2,h3]
theorem SI (a b:Nat):min (a:Int) (b:Int)=((min a b:Nat):Int):=by omega
theorem SJ (a b:Nat):max (a:Int) (b:Int)=((max a b:Nat):Int):=by omega
theorem abk {l:List Instr} (h:VC l) {i:Nat} (hi:i<l.length) :
 (Option.bind (idx l (i:Int)) fun x0=>
 (Option.bind ((bif (x0.1 == (34 : Int))
  then some true
  else (Option.bind ((bif (x0.1==(28:Int))
    then some true
    else some (x0.1==(30:Int)))) fun b1=>
   some b1))) fun b2=>
 (bif b2
 then some []
 else (bif (x0.1==(22:Int))
  then some [x0.2.1]
  else (bif (x0.1==(23:Int))
   then (bif (x0.2.2.1==(ah ((i:Int)+(1:Int))))
    then some [(ah ((i:Int)+(1:Int)))]
    else some [(min (ah ((i:Int)+(1:Int))) x0.2.2.1),(max (ah ((i:Int)+(1:Int))) x0.2.2.1)])
   else some [(ah ((i:Int)+(1:Int)))])))))=some (cN (nx l i)):=by
 have e1:=List.getElem?_eq_getElem hi
 generalize l[i]=x at e1
 have hle:=h.le
 have e2:ah ((i:Int)+1)=((i+1:Nat):Int):=aE (by omega)
 rw[aT e1]
 simp only[Option.bind_some,jW,e2,Ws,nx,e1]
 by_cases h1:x.1=34∨x.1=28∨x.1=30
 ·simp[h1,cN]
 ·rw [decide_eq_false h1, ai, if_neg h1]
  by_cases h2:x.1=22
  ·have := h.jmp i x e1 h2
   simp only[h2,beq_self_eq_true,av,if_true,cN,List.map_cons,List.map_nil,Int.toNat_of_nonneg this.1]
  ·rw [show (x.1 == (22 : Int)) = false by simpa using h2, ai, if_neg h2]
   by_cases h3:x.1=23
   ·have := h.br i x e1 h3
    have hq:x.2.2.1=((x.2.2.1.toNat:Nat):Int):=by omega
    simp only[h3,beq_self_eq_true,av,if_true]
    by_cases h4:x.2.2.1.toNat=i+1
    ·rw[hq,h4];simp[cN]
    ·rw [if_neg h4, show (x.2.2.1 == ((i + 1 : Nat) : Int)) = false by simp; omega, ai]
     generalize x.2.2.1.toNat=b at hq
     rw[hq,SI,SJ]
     rfl
   ·rw [show (x.1 == (23 : Int)) = false by simpa using h3, ai, if_neg h3]
    rfl
theorem ae5 (a b:Int):gH (jm [a,b])=if b=a then [a] else [min a b,max a b]:=by
 simp only[jm,yC]
 by_cases h1:a≤b
 ·rw [decide_eq_true h1]
  by_cases h2:a=b
  ·subst h2;simp[gH]
  ·rw [if_neg (Ne.symm h2)]
   simp[gH,h2];omega
 ·rw [decide_eq_false h1]
  rw[if_neg (by omega)]
  simp[gH,yC,show ¬b=a by omega];omega
theorem Lj {N:Nat} {l:List Instr} (h:VC l) {i:Nat} (hi:i<l.length):Iz N (l,(i:Int))=some (cN (nx l i)):=by
 rw[←abk h hi,Iz.eq_1]
 congr 1
 funext x
 congr 1
 funext b
 cases b with
 |true=>rfl
 | false =>
  simp only[ai]
  congr 1
  congr 1
  have hlen:∀ q:Int,decide ((jm [ah ((i:Int)+1),q]).length<4611686018427387904)=true:=fun q=>by
   simp only[jm,yC]
   cases decide (ah ((i:Int)+1)≤q)<;>rfl
  rw[hlen]
  simp only[ae5]
  by_cases h4:x.2.2.1=ah ((i:Int)+1)
  ·rw[if_pos h4,show (x.2.2.1==ah ((i:Int)+1))=true by simpa using h4];rfl
  ·rw[if_neg h4,show (x.2.2.1==ah ((i:Int)+1))=false by simpa using h4];rfl
end Go.Proofs.YthphehfgekjooaaGreatDoor
namespace Go.Proofs.YthphehfgekjooaaGreatDoor
open Go Go.bq Go.Sym
open Classical
theorem uf {σ β : Type} {Lf:Nat→σ→List Nat→Option β} {Inv : σ→List Nat→Prop} {μ : σ→Nat} {g : σ→β} (h0:∀ k s,Inv s []→Lf (k+1) s []=some (g s))
  (hs:∀ k s o i,Inv s (o++[i])→∃ s' p,Inv s' (o++p)∧μ s'+p.length≤μ s∧Lf (k+1) s (o++[i])=Lf k s' (o++p)) :
  ∀ k s o,Inv s o→μ s+o.length<k→∃ s',Inv s' []∧Lf k s o=some (g s')
 |0,_,_,_,h=>by omega
 | k + 1, s, o, hI, hk => by
  rcases List.eq_nil_or_concat o with rfl|⟨o',i,ho⟩
  ·exact⟨s,hI,h0 k s hI⟩
  ·rw [List.concat_eq_append] at ho; subst ho
   rw[List.length_append,List.length_singleton] at hk
   obtain⟨s',p,h1,h2,h3⟩:=hs k s o' i hI
   obtain⟨s'',h4,h5⟩:=uf h0 hs k s' (o'++p) h1 (by simp only[List.length_append];omega)
   exact⟨s'',h4,by rw[h3,h5]⟩
theorem rounds {σ β : Type} {Lf:Nat→Bool→σ→Option β} {Inv abl : σ→Prop} {μ : σ→Nat} {g : σ→β} (h0:∀ k s,Inv s→abl s→Lf (k+1) false s=some (g s))
  (hs:∀ k s,Inv s→∃ s' c,Inv s'∧(c=false→abl s')∧(c=true→μ s' < μ s)∧Lf (k+1) true s=Lf k c s') :
  ∀ k s,Inv s→μ s+1<k→∃ s',Inv s'∧abl s'∧Lf k true s=some (g s')
 |0,_,_,h=>by omega
 | k + 1, s, hI, hk => by
  obtain⟨s',c,h1,h2,h3,h4⟩:=hs k s hI
  cases c with
  |false=>
   obtain⟨k',rfl⟩:∃ q,k=q+1:=⟨k-1,by omega⟩
   exact⟨s',h1,h2 rfl,by rw[h4,h0 k' s' h1 (h2 rfl)]⟩
  |true=>
   obtain⟨s'',h5,h6,h7⟩:=rounds h0 hs k s' h1 (by have:=h3 rfl;omega)
   exact⟨s'',h5,h6,by rw[h4,h7]⟩
inductive Reach (l:List Instr):Nat→Prop where
 |zero:Reach l 0
 |step {i k:Nat} : Reach l i→k∈nx l i→Reach l k
theorem Reach.lt {l:List Instr} (h:VC l) {i:Nat} (hi:Reach l i):i<l.length:=by
 cases hi with
 |zero=>exact h.pos
 |step _ hk=>exact SH h hk
abbrev T (b:List Bool) (k:Nat):Prop:=b[k]?=some true
theorem eV {b:List Bool} {i k:Nat} (hi:i<b.length):T (b.set i true) k↔k=i∨T b k:=by
 unfold T
 rw[List.getElem?_set]
 by_cases h:i=k
 ·subst h;simp[hi]
 ·rw[if_neg h];simp[Ne.symm h]
noncomputable def cntF (b:List Bool):Nat:=b.countP fun x=>!x
theorem IX {b:List Bool} {i:Nat} (h:b[i]?=some false):cntF (b.set i true)+1=cntF b:=by
 induction b generalizing i with
 |nil=>simp at h
 | cons x r ih =>
  cases i with
  |zero=>simp at h;subst h;simp[cntF]
  |succ i=>
   simp only[List.getElem?_cons_succ] at h
   have:=ih h
   simp only[cntF,List.set_cons_succ,List.countP_cons] at this ⊢
   omega
theorem sL (b:List Bool):cntF b≤b.length:=List.countP_le_length
theorem Ll {l:List Nat} {i:Nat} {x:Int} (h:(cN l)[i]?=some x):∃ k,l[i]?=some k∧x=(k:Int):=by
 simp only[cN,List.getElem?_map,Option.map_eq_some_iff] at h
 obtain⟨k,h1,h2⟩:=h
 exact⟨k,h1,h2.symm⟩
theorem Cw {b:List Bool} {i:Nat} (h:T b i):b.set i true=b:=Is h
theorem Wt {b:List Bool} {i:Nat} (h:i<b.length):b[i]?=some true∨b[i]?=some false:=by
 rw[List.getElem?_eq_getElem h]
 cases b[i]<;>simp
structure In1 (l:List Instr) (s:List Bool):Prop where
 len:s.length=l.length
 zero:T s 0
 reach:∀ i,T s i→Reach l i
structure InP (l:List Instr) (s:List Bool) (o:List Nat):Prop where
 base:In1 l s
 uf:∀ k∈o,T s k
 shut:∀ i,T s i→i∈o∨∀ k∈nx l i,T s k
theorem T.lt {b:List Bool} {k:Nat} (h:T b k):k<b.length:=aN h
theorem sM (a b:List Nat):cN (a++b)=cN a++cN b:=by simp[cN]
theorem cq (a:List Nat):(cN a).length=a.length:=by simp[cN]
theorem Cy {N:Nat} {l:List Instr} (hv:VC l) (hN:500<N) {s:List Bool} {o:List Nat} {i:Nat} (h:InP l s (o++[i])) (ho:o.length≤1000000) :
  ∃ s' p,InP l s' (o++p)∧cntF s'+p.length≤cntF s∧f79.fh N N (l,(i:Int),cN (nx l i),((cN (nx l i)).length:Int),0,s,cN o)=some (l,s',cN (o++p)):=by
 have hi:T s i:=h.uf i (by simp)
 have hri:=h.base.reach i hi
 obtain⟨⟨s',p⟩,hI,he⟩:=jX (l:=cN (nx l i)) (g:=fun q:List Bool×List Nat=>(l,q.1,cN (o++q.2)))
  (Inv:=fun j q=>In1 l q.1∧(∀ k∈o++q.2,T q.1 k)∧(∀ k,T q.1 k→k∈o++q.2∨k=i∨∀ k'∈nx l k,T q.1 k')∧(∀ k∈(nx l i).take j,T q.1 k)∧cntF q.1+q.2.length≤cntF s∧T q.1 i)
  (Lf:=fun k j q=>f79.fh N k (l,(i:Int),cN (nx l i),((cN (nx l i)).length:Int),j,q.1,cN (o++q.2)))
  (fun k q _=>by simp only[f79.fh.eq_2,bp,ai])
  (fun k j x q hx ⟨h1, h2, h3, h4, h5, h6⟩ => by
   obtain⟨m,hm,rfl⟩:=Ll hx
   have hml:=SH hv (bD hm)
   have yR:m<q.1.length:=by rw[h1.len];exact hml
   have hj:j<9223372036854775807:=by have:=aN hm;have:=BH l i;omega
   have e1:=List.getElem?_eq_getElem yR
   simp only[f79.fh.eq_2,bg (aN hx),av,aT hx,Option.bind_some,dD yR,aj,Int.toNat_natCast,aE hj]
   rcases Wt yR with hb|hb
   ·refine ⟨q, ⟨h1, h2, h3, fun k' hk' => ?_, h5, h6⟩, ?_⟩
    ·rw [take_succ hm, List.mem_append, List.mem_singleton] at hk'
     rcases hk' with hk'|rfl
     ·exact h4 k' hk'
     ·exact hb
    ·simp only[hb,Option.bind_some,Bool.not_true,ai,Cw hb]
   ·refine ⟨(q.1.set m true, q.2 ++ [m]), ⟨⟨by simp [h1.len], (eV yR).2 (.inr h1.zero), fun k' hk' => ?_⟩, fun k' hk' => ?_, fun k' hk' => ?_, fun k' hk' => ?_, ?_, (eV yR).2 (.inr h6)⟩, ?_⟩
    ·rcases (eV yR).1 hk' with rfl | hk'
     ·exact .step hri (bD hm)
     ·exact h1.reach k' hk'
    ·rw [← List.append_assoc, List.mem_append, List.mem_singleton] at hk'
     rcases hk' with hk'|rfl
     ·exact (eV yR).2 (.inr (h2 k' hk'))
     ·exact (eV yR).2 (.inl rfl)
    ·rcases (eV yR).1 hk' with rfl | hk'
     ·exact .inl (by simp)
     ·rcases h3 k' hk' with h | h | h
      ·exact .inl (by rw[←List.append_assoc];exact List.mem_append_left _ h)
      ·exact .inr (.inl h)
      ·exact .inr (.inr fun k'' aiI=>(eV yR).2 (.inr (h k'' aiI)))
    ·rw [take_succ hm, List.mem_append, List.mem_singleton] at hk'
     rcases hk' with hk'|rfl
     ·exact (eV yR).2 (.inr (h4 k' hk'))
     ·exact (eV yR).2 (.inl rfl)
    ·have := IX hb
     simp only[List.length_append,List.length_cons,List.length_nil]
     omega
    ·have hlen : q.2.length ≤ s.length := by have := sL s; omega
     rw[h.base.len] at hlen
     have:=hv.le
     have hr:room ((cN (o++q.2)).length+1) 8=true:=az (by rw[cq,List.length_append];omega) (by omega)
     simp only[hb,Option.bind_some,Bool.not_false,av,hr,aj]
     rw[←List.append_assoc,sM (o++q.2) [m]]
     rfl) (k:=N) (s:=(s,[])) ⟨h.base,fun k hk=>h.uf k (by simp at hk;simp[hk]),fun k hk=>by
      rcases h.shut k hk with h'|h'
      ·simp at h'; rcases h' with h' | h'
       ·exact .inl (by simpa using h')
       ·exact .inr (.inl h')
      ·exact .inr (.inr h'), fun k hk => by simp at hk, by simp, hi⟩ (by
       rw[cq]
       have:=BH l i
       omega)
 obtain⟨h1,h2,h3,h4,h5,h6⟩:=hI
 refine⟨s',p,⟨h1,h2,fun k hk=>?_⟩,h5,by simpa using he⟩
 rcases h3 k hk with h|rfl|h
 ·exact .inl h
 ·right
  intro k' hk'
  have:(nx l k).take (cN (nx l k)).length=nx l k:=by rw[cq];exact List.take_length
  exact h4 k' (by rw[this];exact hk')
 ·exact .inr h
noncomputable def iN (l:List Instr):List Bool:=(List.range l.length).map fun k=>decide (Reach l k)
theorem ng {l:List Instr} {k:Nat} (h:k<l.length):(iN l)[k]?=some (decide (Reach l k)):=by
 simp[iN,h]
theorem jj (l:List Instr):(iN l).length=l.length:=by simp[iN]
theorem SK {l:List Instr} (hv:VC l) {k:Nat} : T (iN l) k↔Reach l k:=by
 unfold T
 by_cases h:k<l.length
 ·rw[ng h];simp
 ·rw [List.getElem?_eq_none (by rw [jj]; omega)]
  constructor
  ·intro h';cases h'
  ·intro h';exact absurd (h'.lt hv) h
theorem OH {l:List Instr} {s:List Bool} (hl:s.length=l.length) (h:∀ k,T s k↔Reach l k):s=iN l:=by
 apply List.ext_getElem? ; intro k
 by_cases hk:k<l.length
 ·rw [ng hk]
  rcases Wt (b:=s) (i:=k) (by omega) with h1|h1
  ·rw[h1,decide_eq_true ((h k).1 h1)]
  ·rw[h1,decide_eq_false fun h2=>by have:=(h k).2 h2;unfold T at this;rw[h1] at this;cases this]
 ·rw[List.getElem?_eq_none (by omega),List.getElem?_eq_none (by rw[jj];omega)]
theorem In1.all {l:List Instr} {s:List Bool} (h:In1 l s) (hs:∀ i,T s i→∀ k∈nx l i,T s k):s=iN l:=
 OH h.len fun k=>⟨h.reach k,fun hr=>by
  induction hr with
  |zero=>exact h.zero
  |step _ hk ih=>exact hs _ ih _ hk⟩
theorem sN (n:Nat):((List.replicate n false).set 0 true).length=n:=by simp
theorem k9 {n:Nat} (h:1≤n) (k:Nat):T ((List.replicate n false).set 0 true) k↔k=0:=by
 rw[eV (by simp;omega)]
 constructor
 ·rintro (h | h)
  ·exact h
  ·simp[T,List.getElem?_replicate] at h
 ·exact .inl
theorem D0 {l:List Instr} (hv:VC l):In1 l ((List.replicate l.length false).set 0 true):=
 ⟨by simp,(k9 hv.pos 0).2 rfl,fun i hi=>by rw[(k9 hv.pos i).1 hi];exact .zero⟩
theorem FL {n:Nat} (h1:1≤n) (h2:n≤10000000):ah ((n:Int)-1)=((n-1:Nat):Int):=by rw[bn (by omega)];omega
theorem FM {α : Type} {n:Nat} (h:1≤n) (x : α):(List.replicate n x)[0]?=some x:=by simp[List.getElem?_replicate];omega
theorem FN {N:Nat} {l:List Instr} (hv:VC l) (hN:500<N):f79.ic N N (l,(List.replicate l.length false).set 0 true,[(0:Int)])=some (iN l):=by
 have hle:=hv.le
 obtain⟨s,hI,he⟩:=uf (Inv:=fun s o=>InP l s o∧cntF s+o.length≤300) (μ:=cntF) (g:=fun s=>s) (Lf:=fun k s o=>f79.ic N k (l,s,cN o))
  (fun k s _=>by rw[show cN []=[] from rfl,f79.ic.eq_2];rfl)
  (fun k s o i ⟨h, hm⟩ => by
   rw[List.length_append,List.length_singleton] at hm
   have hi:T s i:=h.uf i (by simp)
   have Jy:i<l.length:=by rw[←h.base.len];exact hi.lt
   obtain⟨s',p,h1,h2,h3⟩:=Cy hv hN h (by omega)
   refine⟨s',p,⟨h1,by rw[List.length_append];omega⟩,h2,?_⟩
   have hlen:(cN (o++[i])).length=o.length+1:=by simp[cN]
   have e1:ah (((o.length+1:Nat):Int)-1)=(o.length:Int):=by rw[bn (by omega)];omega
   have e2:(cN (o++[i]))[o.length]?=some (i:Int):=by simp[cN]
   have e3:(cN (o++[i])).take o.length=cN o:=by simp[cN]
   simp only[f79.ic.eq_2,hlen,e1,decide_eq_true (show ((o.length+1:Nat):Int)>0 by omega),av,dD (show o.length<o.length+1 by omega),aj,Int.toNat_natCast,e2,Option.bind_some,
    show decide ((0:Int)≤(o.length:Int))=true by simp,show decide (o.length≤o.length+1)=true by simp,Lj hv Jy,e3,h3])
  N ((List.replicate l.length false).set 0 true) [0] ⟨⟨D0 hv,fun k hk=>by simp at hk;subst hk;exact (k9 hv.pos 0).2 rfl,fun i hi=>.inl (by rw[(k9 hv.pos i).1 hi];simp)⟩,by
   have:=sL ((List.replicate l.length false).set 0 true)
   rw[sN] at this
   simp only[List.length_singleton];omega⟩ (by
   have:=sL ((List.replicate l.length false).set 0 true)
   rw[sN] at this
   simp only[List.length_singleton];omega)
 rw[show [(0:Int)]=cN [0] from rfl,he]
 congr 1
 exact hI.1.base.all fun i hi k hk=>by
  rcases hI.1.shut i hi with h|h
  ·simp at h
  ·exact h k hk
theorem abm {N:Nat} {l:List Instr} (hN:500<N) (hl:l.length≤9223372036854775807):F79 N l=some (if ji l then ((iN l).set (l.length-1) true,0) else ([],8)):=by
 rw[F79.eq_1,Li (by omega) hl,Option.bind_some]
 cases h:ji l with
 |false=>rfl
 | true =>
  have hv:=zw h
  have h1:=hv.pos
  have h2:=hv.le
  simp only[av,show ((0:Int) != 0)=false from rfl,ai,if_true,Int.toNat_natCast,show decide ((0:Int)≤(l.length:Int))=true by simp,aj,Nat.le_refl,decide_true,Bool.true_and,
   az (show l.length≤10000000 by omega) (show 1≤1000 by omega),List.length_replicate,show jf 0 l.length=true from dD (i:=0) h1,show Int.toNat 0=0 from rfl,FM h1,Option.bind_some,FN hv hN,
   jj,FL h1 (by omega),dD (show l.length-1<l.length by omega),ng (show l.length-1<l.length by omega)]
end Go.Proofs.YthphehfgekjooaaGreatDoor
