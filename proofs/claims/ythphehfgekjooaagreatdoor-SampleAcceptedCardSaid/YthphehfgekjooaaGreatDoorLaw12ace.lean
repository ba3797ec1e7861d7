/- A part of the proof: Law12acd, Law12ace. -/
import Derived.Test.YthphehfgekjooaaGreatDoorLaw12acc
set_option linter.unusedVariables false
set_option linter.unusedSimpArgs false
namespace Go.Proofs.YthphehfgekjooaaGreatDoor
open Go Go.bq Go.Sym
open Classical
theorem jY {α : Type} {l:List α} {i:Nat} (d : α) (h:i<l.length):idx l (i:Int)=some (l.getD i d):=by
 refine aT ?_
 rw[List.getD_eq_getElem?_getD,List.getElem?_eq_getElem h];rfl
theorem rX {α : Type} {l:List α} {i:Nat} (d : α) (h:i<l.length):l.getD i d∈l:=by
 rw[List.getD_eq_getElem?_getD,List.getElem?_eq_getElem h];exact List.getElem_mem h
theorem iX {α : Type} {l:List α} {x : α} (d : α) (h:x∈l):∃ i,i<l.length∧l.getD i d=x:=by
 obtain⟨i,hi,rfl⟩:=List.mem_iff_getElem.1 h
 exact⟨i,hi,by rw[List.getD_eq_getElem?_getD,List.getElem?_eq_getElem hi];rfl⟩
theorem Oy {i:Nat} (h0:0<i) (h:i≤9223372036854775807):ah ((i:Int)-1)=((i-1:Nat):Int):=by rw[bn (by omega)];omega
theorem zp {α : Type} {l:List α} (h:¬l.length=0):((l.length:Int)==(0:Int))=false:=by rw[beq_eq_false_iff_ne];omega
noncomputable def rn (l:List cI) (i:Nat):cI:=l.getD i (0,0)
noncomputable def bO (l:List cI) (n:Int):Prop:=
 0<l.length∧(rn l 0).1=0∧(∀ i,i+1<l.length→(rn l i).1<(rn l (i+1)).1∧(rn l i).2≠(rn l (i+1)).2)∧∀ i,i<l.length→(rn l i).1<n
theorem bO.mono {l:List cI} {n:Int} (h:bO l n) {i:Nat} : ∀ {j:Nat},i≤j→j<l.length→(rn l i).1≤(rn l j).1
 |0,h1,_=>by rw[Nat.le_zero.1 h1];exact Int.le_refl _
 | j + 1, h1, h2 => by
  by_cases e:i=j+1
  ·rw[e];exact Int.le_refl _
  ·have := h.mono (i := i) (j := j) (by omega) (by omega)
   have:=(h.2.2.1 j h2).1
   omega
theorem II {N : Nat} {l : List cI} {n : Int} (hN : l.length < N) (hl : l.length ≤ 1000000) : KN N (l, n) = some (decide (bO l n)) := by
 rw[KN.eq_1]
 by_cases h0:l.length=0
 ·rw[show ((l.length:Int)==(0:Int))=true by rw[h0];rfl,av,Option.bind_some,av,decide_eq_false fun h=>by have:=h.1;omega]
 ·have e0 : idx l (0 : Int) = some (rn l 0) := jY (i := 0) (0, 0) (by omega)
  have e1:idx l (ah ((l.length:Int)-1))=some (rn l (l.length-1)):=by
   rw[Oy (by omega) (by omega)];exact jY _ (by omega)
  rw[zp h0,ai,e0,Option.bind_some,e1,Option.bind_some]
  by_cases h1:(rn l 0).1=0
  ·rw [show ((rn l 0).1 != (0 : Int)) = false by simp [h1], ai, Option.bind_some]
   by_cases h2:(rn l (l.length-1)).1≥n
   ·rw[decide_eq_true h2,av,decide_eq_false fun h=>by have:=h.2.2.2 (l.length-1) (by omega);omega]
   ·rw [decide_eq_false h2, ai, Option.bind_some, decide_eq_true (show 1 ≤ l.length by omega), aj]
    have hd:(l.drop 1).length=l.length-1:=by simp
    have key:=mY (n:=(l.drop 1).length) (a:=(.inr ():Bool⊕Unit)) (b:=.inl false) (q:=fun i=>decide ((rn l (i+1)).1≤(rn l i).1)||((rn l (i+1)).2==(rn l i).2))
     (Lf := fun k i => f147.ct N k (l.drop 1, ((l.drop 1).length : Int), i, (rn l i.toNat).1, (rn l i.toNat).2)) (fun k _ => by
      simp only[f147.ct.eq_2,bp,ai]) (fun k i hi _=>by
      have e:idx (l.drop 1) (i:Int)=some (rn l (i+1)):=by
       refine aT ?_
       rw[List.getElem?_drop,rn,List.getD_eq_getElem?_getD,Nat.add_comm 1 i,List.getElem?_eq_getElem (by omega)];rfl
      simp only[f147.ct.eq_2,bg hi,av,e,Option.bind_some,aE (show i<9223372036854775807 by omega),Int.toNat_natCast,beq_self_eq_true,Bool.true_and,Bool.and_true]
      by_cases ha:(rn l (i+1)).1≤(rn l i).1
      ·simp[ha]
      ·cases hb:((rn l (i+1)).2==(rn l i).2)<;>simp[ha]) (k:=N) (by omega)
    simp only[Int.toNat_zero] at key
    rw[key,Option.bind_some]
    by_cases hex:∃ i,i<(l.drop 1).length∧(decide ((rn l (i+1)).1≤(rn l i).1)||((rn l (i+1)).2==(rn l i).2))=true
    ·rw [if_pos hex, decide_eq_false]
     rintro⟨_,_,h3,_⟩
     obtain⟨i,hi,hq⟩:=hex
     obtain⟨g1,g2⟩:=h3 i (by omega)
     rw[Bool.or_eq_true,decide_eq_true_eq,beq_iff_eq] at hq
     rcases hq with hq|hq
     ·omega
     ·exact g2 hq.symm
    ·rw [if_neg hex, decide_eq_true]
     have h3:∀ i,i+1<l.length→(rn l i).1<(rn l (i+1)).1∧(rn l i).2≠(rn l (i+1)).2:=fun i hi=>by
      have:¬(decide ((rn l (i+1)).1≤(rn l i).1)||((rn l (i+1)).2==(rn l i).2))=true:=fun h=>hex ⟨i,by omega,h⟩
      rw[Bool.or_eq_true,decide_eq_true_eq,beq_iff_eq,not_or] at this
      exact⟨by omega,fun h=>this.2 h.symm⟩
     have m:∀ j,j<l.length→∀ i,i≤j→(rn l i).1≤(rn l j).1:=by
      intro j
      induction j with
      |zero=>intro _ i hi;rw[Nat.le_zero.1 hi];exact Int.le_refl _
      | succ j ih =>
       intro hj i hi
       by_cases e:i=j+1
       ·rw[e];exact Int.le_refl _
       ·have := ih (by omega) i (by omega)
        have:=(h3 j hj).1
        omega
     exact⟨by omega,h1,h3,fun i hi=>by have:=m (l.length-1) (by omega) i (by omega);omega⟩
  ·rw[show ((rn l 0).1 != (0:Int))=true by simp[h1],av,Option.bind_some,av,decide_eq_false fun h=>h1 h.2.1]
theorem wT {N:Nat} {l:List cI} {n:Nat} (hN:l.length<N) (hl:l.length≤1000000):XI N (l,(n:Int))=some (if n<1∨n>200 then 2 else if bO l n then 0 else 8):=by
 rw[XI.eq_1,Fy.eq_1,II hN hl]
 by_cases h:n<1∨n>200
 ·rw [if_pos h]
  rcases h with h|h
  ·rw[decide_eq_true (show (n:Int)<1 by omega)];rfl
  ·rw[decide_eq_true (show (n:Int)>200 by omega)];cases decide ((n:Int)<1)<;>rfl
 ·rw [if_neg h, decide_eq_false (show ¬ (n : Int) < 1 by omega), decide_eq_false (show ¬ (n : Int) > 200 by omega)]
  by_cases hr:bO l n
  ·rw[if_pos hr,decide_eq_true hr];rfl
  ·rw[if_neg hr,decide_eq_false hr];rfl
theorem gy {l:List cI} {n:Nat} (h:bO l n):l.length≤n:=by
 have key:∀ i:Nat,i<l.length→(i:Int)≤(rn l i).1:=by
  intro i
  induction i with
  |zero=>intro _;have:=h.2.1;omega
  |succ i ih=>
   intro hi
   have:=ih (by omega)
   have:=(h.2.2.1 i hi).1
   omega
 have h0:=h.1
 have:=key (l.length-1) (by omega)
 have:=h.2.2.2 (l.length-1) (by omega)
 omega
noncomputable def Bv:Int→List cI→List Int
 |_,[]=>[]
 |was,x :: r=>V (x.1-was).toNat++(V x.2.toNat++Bv x.1 r)
noncomputable def ju (l:List cI):List Int:=V l.length++Bv 0 l
noncomputable def Inc:Int→List cI→Prop
 |_,[]=>True
 |was,x :: r=>was≤x.1∧x.1≤1000∧(0≤x.2∧x.2≤18446744073709551615)∧Inc x.1 r
noncomputable def nY (l:List cI):Prop:=∀ x∈l,0≤x.2∧x.2≤18446744073709551615
theorem IJ:∀ (was:Int) (l:List cI),(Bv was l).length≤l.length*20
 |_,[]=>by simp[Bv]
 |was,x :: r=>by
  have:=cO (x.1-was).toNat;have:=cO x.2.toNat;have:=IJ x.1 r
  simp only[Bv,List.length_append,List.length_cons];omega
theorem gD (l:List cI):(ju l).length≤10+l.length*20:=by
 have:=cO l.length;have:=IJ 0 l
 rw[ju,List.length_append];omega
theorem bO.inc {l:List cI} {n:Int} (h:bO l n) (hn:n≤1000) (hr:nY l):Inc 0 l:=by
 have key:∀ (m i:Nat) (was:Int),m=l.length-i→was≥0→(i<l.length→was≤(rn l i).1)→Inc was (l.drop i):=by
  intro m
  induction m with
  |zero=>intro i was hm _ _;rw[List.drop_eq_nil_of_le (by omega)];trivial
  |succ m ih=>
   intro i was hm hw hle
   have hi:i<l.length:=by omega
   have e:l[i]=rn l i:=by rw[rn,List.getD_eq_getElem?_getD,List.getElem?_eq_getElem hi];rfl
   rw[List.drop_eq_getElem_cons hi,e]
   refine⟨hle hi,by have:=h.2.2.2 i hi;omega,hr _ (rX _ hi),ih (i+1) _ (by omega) (by have:=hle hi;omega) fun hi'=>?_⟩
   have:=(h.2.2.1 i hi').1
   omega
 have:=key l.length 0 0 (by omega) (by omega) fun _=>by rw[h.2.1];exact Int.le_refl _
 rwa[List.drop_zero] at this
theorem aa9 {a b:Int} (h:0≤b∧b≤a∧a≤1000):ah (a-b)=a-b:=bn (by omega)
theorem DS {N:Nat} (hN:20<N) {l:List cI} (hl:l.length≤100000):∀ (r pre:List cI) (was:Int) (out:List Int) (k:Nat),l=pre++r→Inc was r→0≤was→r.length<k→out.length≤100000+pre.length*20→f60.sR N k (was,l,(l.length:Int),(pre.length:Int),out)=some (out++Bv was r)
 |[],pre,was,out,k+1,he,_,_,_,_=>by
  rw[List.append_nil] at he;subst he
  rw[f60.sR.eq_2,bp,ai,Bv,List.append_nil]
 |x :: r,pre,was,out,k+1,he,hi,hw,hk,ho=>by
  obtain⟨i1,i2,i3,i4⟩:=hi
  have hlen:pre.length+(r.length+1)=l.length:=by rw[he];simp
  have:=cO (x.1-was).toNat;have:=cO x.2.toNat
  have ih:=DS hN hl r (pre++[x]) x.1 (out++V (x.1-was).toNat++V x.2.toNat) k (by rw[he];simp) i4 (by omega) (by simp at hk;omega) (by simp only[List.length_append,List.length_singleton];omega)
  obtain⟨v,hv⟩:=Int.eq_ofNat_of_zero_le i3.1
  rw[f60.sR.eq_2,bg (by omega),av,he,zm,Option.bind_some,←he,aa9 ⟨hw,i1,i2⟩,lQ hN (by omega),Option.bind_some,az (by omega) (by omega),aj,hv,vC hN (by omega),Option.bind_some,az (by simp only[List.length_append];have:=cO v;omega) (by omega),aj,aE (by omega)]
  rw[show ((pre++[x]).length:Int)=((pre.length+1:Nat):Int) by simp] at ih
  rw[hv] at ih
  simp only[Int.toNat_natCast] at ih
  rw[ih,Bv,hv]
  simp[List.append_assoc]
 |_,_,_,_,0,_,_,_,h,_=>by omega
theorem Wc {N:Nat} (hN:1000<N) {l:List cI} {n:Nat} (hl:l.length≤1000) (h:bO l n) (h1:1≤n) (h2:n≤200) (hr:nY l):F60 N (l,(n:Int))=some (ju l,0):=by
 have hi:=h.inc (by omega) hr
 have hv:=cO l.length
 rw[F60.eq_1,wT (by omega) (by omega),if_neg (by omega),if_pos h,Option.bind_some,iM,ai,iW (by omega),vC (by omega) (by omega),Option.bind_some]
 have:=DS (N:=N) (by omega) (l:=l) (by omega) l [] 0 (V l.length) N rfl hi (by omega) (by omega) (by simp;omega)
 rw[show (([]:List cI).length:Int)=0 from rfl] at this
 rw[this];rfl
end Go.Proofs.YthphehfgekjooaaGreatDoor
namespace Go.Proofs.YthphehfgekjooaaGreatDoor
open Go Go.bq Go.Sym
open Classical
noncomputable def aba (n:Nat):Bool:=(decide (97≤n)&&decide (n≤122))||(decide (65≤n)&&decide (n≤90))
noncomputable def yQ (n:Nat):Bool:=aba n||(decide (48≤n)&&decide (n≤57))
noncomputable def nP (s:List UInt8):Bool:=decide (1≤s.length)&&(decide (s.length≤16)&&(aba ((s.getD 0 0).toNat)&&s.all fun c=>yQ c.toNat))
theorem Sj:∀ n:Nat,n<256→((bif (decide ((zk .u8 ((n:Nat):Int) (32:Int))<(97:Int)))
   then (bif (decide (((n:Nat):Int)<(48:Int)))
    then some true
    else some (decide (((n:Nat):Int)>(57:Int))))
   else (bif (decide ((zk .u8 ((n:Nat):Int) (32:Int))>(122:Int)))
    then (bif (decide (((n:Nat):Int)<(48:Int)))
     then some true
     else some (decide (((n:Nat):Int)>(57:Int))))
    else (bif ((qv .u8 ((n:Nat):Int) (64:Int))==(0:Int))
     then (bif (decide (((n:Nat):Int)<(48:Int)))
      then some true
      else some (decide (((n:Nat):Int)>(57:Int))))
     else some false))):Option Bool)=some (!yQ n):=by decide +kernel
theorem Oz:∀ n:Nat,n<256→((!decide (((n:Nat):Int)≤57))&&yQ n)=(aba n&&yQ n):=by decide +kernel
theorem Bw {α : Type} {n:Nat} {q:Nat→Bool} {a b : α} : (if ∃ i,i<n∧(!q i)=true then b else a)=if ∀ i,i<n→q i=true then a else b:=by
 by_cases h:∀ i,i<n→q i=true
 ·rw [if_pos h, if_neg]
  rintro⟨i,hi,hq⟩
  rw[h i hi] at hq;cases hq
 ·rw [if_neg h, if_pos]
  simp only[not_forall] at h
  obtain⟨i,hi,hq⟩:=h
  exact⟨i,hi,by simpa using hq⟩
theorem zq {α β : Type} {l:List α} {p : α→Bool} {a b : β} : (if ∃ x,x∈l∧(!p x)=true then b else a)=if ∀ x,x∈l→p x=true then a else b:=by
 by_cases h:∀ x,x∈l→p x=true
 ·rw [if_pos h, if_neg]
  rintro⟨x,hx,hp⟩
  rw[h x hx] at hp;cases hp
 ·rw [if_neg h, if_pos]
  simp only[not_forall] at h
  obtain⟨x,hx,hp⟩:=h
  exact⟨x,hx,by simpa using hp⟩
theorem abb {α : Type} {l:List α} {p : α→Bool} : (if ∃ x,x∈l∧(!p x)=true then (Sum.inl false:Bool⊕Unit) else .inr ())=if l.all p=true then .inr () else .inl false:=by
 by_cases h:l.all p=true
 ·rw [if_pos h, if_neg]
  rintro⟨x,hx,hp⟩
  rw[List.all_eq_true.1 h x hx] at hp;cases hp
 ·rw [if_neg h, if_pos]
  rw[List.all_eq_true] at h
  simp only[not_forall] at h
  obtain⟨x,hx,hp⟩:=h
  exact⟨x,hx,by simpa using hp⟩
theorem Bx {N:Nat} {s:List UInt8} (hN:100<N):Xy N s=some (nP s):=by
 rw[Xy.eq_1]
 unfold nP
 by_cases h0:s.length=0
 ·rw[show ((s.length:Int)==(0:Int))=true by rw[h0];rfl,av,Option.bind_some,av,decide_eq_false (by omega),Bool.false_and]
 ·rw [zp h0, ai, decide_eq_true (show 1 ≤ s.length by omega), Bool.true_and]
  by_cases h1:s.length≤16
  ·have e0 : idx s (0 : Int) = some (s.getD 0 0) := jY (i := 0) 0 (by omega)
   rw[decide_eq_false (show ¬(s.length:Int)>16 by omega),ai,e0,Option.bind_some,Option.bind_some,decide_eq_true h1,Bool.true_and]
   have hlt:=(s.getD 0 0).toNat_lt
   have hall:s.all (fun c=>yQ c.toNat)=true→yQ (s.getD 0 0).toNat=true:=fun h=>List.all_eq_true.1 h _ (rX 0 (by omega))
   have hf:=Oz _ hlt
   have key:=rV (l:=bx s) (a:=(.inr ():Bool⊕Unit)) (b:=.inl false) (p:=fun x=>!yQ x.toNat) (Lf:=fun k i=>f93.bz N k (bx s,((bx s).length:Int),i)) (fun k _=>by
     simp only[f93.bz.eq_2,bp,ai]) (fun k i x hx hm=>by
     obtain⟨c,hc,rfl⟩:=List.mem_map.1 hm
     have hi:=aN hx
     rw[cl] at hi
     simp only[f93.bz.eq_2,bg (aN hx),av,aT hx,Option.bind_some,Sj _ c.toNat_lt,aE (show i<9223372036854775807 by omega),Int.toNat_natCast]
     by_cases hb:yQ c.toNat=true<;>simp[hb]) (k:=N) (by rw[cl];omega)
   rw[key,abb (p:=fun x:Int=>yQ x.toNat)]
   have e2:(bx s).all (fun x=>yQ x.toNat)=s.all fun c=>yQ c.toNat:=by
    unfold bx;rw[List.all_map];rfl
   rw[e2]
   cases ha:s.all fun c=>yQ c.toNat
   ·rw [if_neg (by simp), Bool.and_false, Option.bind_some]
    cases decide (((s.getD 0 0).toNat:Int)≤57)<;>rfl
   ·rw [hall ha, Bool.and_true, Bool.and_true] at hf
    rw[if_pos rfl,Bool.and_true,Option.bind_some,←hf]
    cases decide (((s.getD 0 0).toNat:Int)≤57)<;>rfl
  ·rw[decide_eq_true (show (s.length:Int)>16 by omega),av,Option.bind_some,av,decide_eq_false h1];rfl
theorem iD {s:List UInt8} (h:nP s=true):s.length≤16:=by
 unfold nP at h
 simp only[Bool.and_eq_true,decide_eq_true_eq] at h
 exact h.2.1
noncomputable def fl (l:List Field) (i:Nat):Field:=l.getD i ([],0)
noncomputable def K0 (l:List Field) (i:Nat):Prop:=∃ j,j<i∧(fl l j).1=(fl l i).1
noncomputable def okF (l:List Field) (i:Nat):Bool:=nP (fl l i).1 && !decide (K0 l i)
noncomputable def dy (l:List Field):Prop:=∀ i,i<l.length→okF l i=true
theorem By {N:Nat} {l:List Field} {i:Nat} (hi:i≤l.length) (hN:l.length<N) (hl:l.length≤1000000) (s:List UInt8) (v:Int) :
  (∃ j:Int,0≤j∧f94.bW N N (l.take i,((l.take i).length:Int),0,s,v)=some (.inl j)∧∃ j,j<i∧(fl l j).1=s)∨
  (f94.bW N N (l.take i,((l.take i).length:Int),0,s,v)=some (.inr ())∧¬ ∃ j,j<i∧(fl l j).1=s):=by
 have hlen:(l.take i).length=i:=by simp;omega
 have key : ∀ k j, j ≤ i → i - j < k → (∀ m, m < j → (fl l m).1 ≠ s) →
   (∃ q:Int,0≤q∧f94.bW N k (l.take i,((l.take i).length:Int),(j:Int),s,v)=some (.inl q)∧∃ j,j<i∧(fl l j).1=s)∨
   (f94.bW N k (l.take i,((l.take i).length:Int),(j:Int),s,v)=some (.inr ())∧¬ ∃ j,j<i∧(fl l j).1=s):=by
  intro k
  induction k with
  |zero=>intro j _ h;omega
  | succ k ih =>
   intro j hj hk hm
   by_cases he:j=i
   ·subst he
    refine .inr ⟨?_,fun⟨m,h1,h2⟩=>hm m h1 h2⟩
    rw[f94.bW.eq_2,hlen,bp,ai]
   ·have e : idx (l.take i) (j : Int) = some (fl l j) := by
     refine aT ?_
     rw[List.getElem?_take,if_pos (by omega),fl,List.getD_eq_getElem?_getD,List.getElem?_eq_getElem (by omega)];rfl
    rw[f94.bW.eq_2,hlen,bg (by omega),av,e,Option.bind_some]
    by_cases hq:(fl l j).1=s
    ·rw [show ((fl l j).1 == s) = true by simpa using hq, av]
     exact .inl ⟨j,by omega,rfl,j,by omega,hq⟩
    ·rw [show ((fl l j).1 == s) = false by simpa using hq, ai, aE (by omega)]
     have:=ih (j+1) (by omega) (by omega) fun m h=>by
      by_cases e:m=j
      ·subst e;exact hq
      ·exact hm m (by omega)
     rw[hlen] at this
     exact this
 exact key N 0 (by omega) (by omega) fun m h=>by omega
theorem IK {N:Nat} {l:List Field} (hN:l.length+100<N) (hl:l.length≤1000000):F94 N l=some (decide (dy l)):=by
 rw[F94.eq_1]
 have key:=mY (n:=l.length) (a:=(.inr ():Bool⊕Unit)) (b:=.inl false) (q:=fun i=>!okF l i) (Lf:=fun k i=>f94.lM N k (l,l,(l.length:Int),i)) (fun k _=>by
   simp only[f94.lM.eq_2,bp,ai]) (fun k i hi _=>by
   have e:idx l (i:Int)=some (fl l i):=jY _ hi
   simp only[f94.lM.eq_2,bg hi,av,e,Option.bind_some,Bx (show 100<N by omega)]
   cases hn:nP (fl l i).1
   ·simp[okF,hn]
   ·rw [Bool.not_true, ai, decide_eq_true (show (0 : Int) ≤ (i : Int) by omega), aj, Int.toNat_natCast, decide_eq_true (show i ≤ l.length by omega), aj, aE (by omega)]
    rcases By (l:=l) (i:=i) (by omega) (show l.length<N by omega) hl (fl l i).1 (fl l i).2 with⟨j,h1,h2,h3⟩|⟨h2,h3⟩
    ·rw [h2, Option.bind_some]
     simp only[decide_eq_true (show j≥0 from h1),av]
     rw[if_pos (by unfold okF;rw[decide_eq_true (show K0 l i from h3)];simp)]
    ·rw [h2, Option.bind_some]
     simp only
     rw[if_neg (by unfold okF;rw[hn,decide_eq_false (show ¬K0 l i from h3)];simp)]) (k:=N) (by omega)
 rw[key,Bw,Option.bind_some]
 by_cases h:dy l
 ·rw[if_pos (show ∀ i,i<l.length→okF l i=true from h),decide_eq_true h]
 ·rw[if_neg (show ¬ ∀ i,i<l.length→okF l i=true from h),decide_eq_false h]
theorem zu {N:Nat} {l:List Int} (hN:l.length<N) (hl:l.length≤1000):Fw N l=some (l.all fun x=>x==0):=by
 rw[Fw.eq_1]
 have key:∀ (r pre:List Int) k,l=pre++r→r.length<k→
   (r.all (fun x=>x==0)=true∧f143.cK N k (l,(l.length:Int),(pre.length:Int))=some (.inr ()))∨
   (r.all (fun x=>x==0)=false∧∃ j:Int,0≤j∧f143.cK N k (l,(l.length:Int),(pre.length:Int))=some (.inl j)):=by
  intro r
  induction r with
  |nil=>
   intro pre k he hk
   obtain⟨k,rfl⟩:∃ k',k=k'+1:=⟨k-1,by simp at hk;omega⟩
   rw[List.append_nil] at he;subst he
   exact .inl ⟨rfl,by rw[f143.cK.eq_2,bp,ai]⟩
  | cons x r ih =>
   intro pre k he hk
   obtain⟨k,rfl⟩:∃ k',k=k'+1:=⟨k-1,by simp at hk;omega⟩
   have hlen:pre.length+(r.length+1)=l.length:=by rw[he];simp
   have hx:idx l (pre.length:Int)=some x:=by rw[he];exact zm _ _ _
   rw[f143.cK.eq_2,bg (by omega),av,hx,Option.bind_some,Rv.eq_1,Option.bind_some]
   by_cases h0:x=0
   ·rw [show (x != 0) = false by simp [h0], ai, aE (by omega), List.all_cons, show (x == 0) = true by simp [h0], Bool.true_and]
    have:=ih (pre++[x]) k (by rw[he];simp) (by simp at hk;omega)
    rwa[show ((pre++[x]).length:Int)=((pre.length+1:Nat):Int) by simp] at this
   ·rw [show (x != 0) = true by simp [h0], av, List.all_cons, show (x == 0) = false by simp [h0], Bool.false_and]
    exact .inr ⟨rfl,pre.length,by omega,rfl⟩
 rcases key l [] N rfl hN with⟨h1,h2⟩|⟨h1,j,h2,h3⟩
 ·rw [show (([] : List Int).length : Int) = 0 from rfl] at h2
  rw[h2,h1];rfl
 ·rw [show (([] : List Int).length : Int) = 0 from rfl] at h3
  rw[h3,h1,Option.bind_some]
  simp only[decide_eq_true (show j≥0 from h2)];rfl
theorem DT (N:Nat) (a b:Int):Fv N (a,b)=some (decide (0≤a∧a<b)):=by
 rw[Fv.eq_1,FA,Option.bind_some]
 by_cases h1:0≤a<;>by_cases h2:a<b<;>simp[h1,h2]
 all_goals omega
noncomputable def ty0:aI:=(0,0,0,[])
noncomputable def jv (l:List aI) (i:Nat):aI:=l.getD i ty0
noncomputable def cX (n i:Nat) (t:aI):Prop:=
 if t.1=1∨t.1=2∨t.1=3 then t.2.1=0∧t.2.2.1=0∧t.2.2.2.length=0
 else if t.1=4∨t.1=7 then (0≤t.2.1∧t.2.1<n)∧t.2.2.1=0∧t.2.2.2.length=0
 else if t.1=6 then (0≤t.2.1∧t.2.1<i)∧(1≤t.2.2.1∧t.2.2.1≤16)∧t.2.2.2.length=0
 else if t.1=5 then t.2.1=0∧t.2.2.1=0∧(0<t.2.2.2.length∧t.2.2.2.length≤8)∧dy t.2.2.2∧∀ f,f∈t.2.2.2→0≤f.2∧f.2<i
 else False
theorem DU {l:List Field} {i:Nat} (hi:i<l.length):hasB ((l.take i).map (·.1)) (fl l i).1=decide (K0 l i):=by
 unfold hasB
 by_cases h:K0 l i
 ·rw [decide_eq_true h, List.any_eq_true]
  obtain⟨j,h1,h2⟩:=h
  refine⟨(fl l j).1,List.mem_map.2 ⟨fl l j,?_,rfl⟩,decide_eq_true h2.symm⟩
  rw[fl,List.getD_eq_getElem?_getD,List.getElem?_eq_getElem (by omega)]
  exact List.mem_take_iff_getElem.2 ⟨j,by omega,rfl⟩
 ·rw [decide_eq_false h]
  cases ha:((l.take i).map (·.1)).any fun q=>decide ((fl l i).1=q) with
  |false=>rfl
  |true=>
   exfalso
   obtain⟨q,h1,h2⟩:=List.any_eq_true.1 ha
   obtain⟨f,h3,rfl⟩:=List.mem_map.1 h1
   obtain⟨j,h4,rfl⟩:=List.mem_take_iff_getElem.1 h3
   refine h ⟨j,by omega,?_⟩
   rw[of_decide_eq_true h2]
   rw[fl,List.getD_eq_getElem?_getD,List.getElem?_eq_getElem (by omega)];rfl
theorem abd {l:List Field} {i:Nat} (hi:i<l.length):l[i]?=some (fl l i):=by
 rw[fl,List.getD_eq_getElem?_getD,List.getElem?_eq_getElem hi];rfl
theorem OA {l:List Field} {i:Nat} (hi:i<l.length) (h:¬K0 l i):qB ((l.take i).map (·.1)) (fl l i).1=(l.take (i+1)).map (·.1):=by
 unfold qB
 rw[DU hi,decide_eq_false h,take_succ (abd hi),List.map_append]
 rfl
theorem IL {N:Nat} {l:List Field} {p:Nat} (hN:l.length+100<N) (hl:l.length≤1000000) (a b c:Int) :
  f90.x9 N N ((p:Int),l,(l.length:Int),(0:Int),a,b,c,l,([]:List (List UInt8)))=some (if dy l∧(∀ f,f∈l→0≤f.2∧f.2<p) then .inr (a,b,c,l) else .inl false):=by
 have key:=mY (n:=l.length) (a:=(.inr (a,b,c,l):Bool⊕(Int×Int×Int×List Field))) (b:=.inl false) (q:=fun i=>!(okF l i&&decide (0≤(fl l i).2∧(fl l i).2<p)))
  (Lf := fun k i => f90.x9 N k ((p : Int), l, (l.length : Int), i, a, b, c, l, (l.take i.toNat).map (·.1))) (fun k _ => by
   simp only[f90.x9.eq_2,bp,ai]) (fun k i hi _=>by
   have e:idx l (i:Int)=some (fl l i):=jY _ hi
   simp only[f90.x9.eq_2,bg hi,av,e,Option.bind_some,Bx (show 100<N by omega),Int.toNat_natCast,DU hi,DT,aE (show i<9223372036854775807 by omega)]
   cases hn:nP (fl l i).1
   ·simp[okF,hn]
   ·by_cases hd : K0 l i
    ·simp[okF,hd]
    ·rw [OA hi hd]
     unfold okF
     rw[hn,decide_eq_false hd]
     cases decide (0≤(fl l i).2∧(fl l i).2<(p:Int))<;>rfl) (k:=N) (by omega)
 rw[show (0:Int).toNat=0 from rfl,List.take_zero,List.map_nil] at key
 rw[key,Bw]
 have hiff:(∀ i,i<l.length→(okF l i&&decide (0≤(fl l i).2∧(fl l i).2<(p:Int)))=true)↔dy l∧∀ f,f∈l→0≤f.2∧f.2<(p:Int):=by
  simp only[Bool.and_eq_true,decide_eq_true_eq]
  refine⟨fun h=>⟨fun i hi=>(h i hi).1,fun f hf=>?_⟩,fun h i hi=>⟨h.1 i hi,h.2 _ (rX _ hi)⟩⟩
  obtain⟨i,hi,rfl⟩:=iX ([],0) hf
  exact (h i hi).2
 by_cases h:dy l∧∀ f,f∈l→0≤f.2∧f.2<(p:Int)
 ·rw[if_pos h,if_pos (hiff.2 h)]
 ·rw[if_neg h,if_neg fun h'=>h (hiff.1 h')]
theorem FH (a b:Int):(a==b)=decide (a=b):=by by_cases h:a=b<;>simp[h]
theorem We {α : Type} (l:List α):((l.length:Int)==0)=decide (l.length=0):=by
 by_cases h:l.length=0
 ·rw[decide_eq_true h,h];rfl
 ·rw[zp h,decide_eq_false h]
theorem abe {v:Int} (h:i64 v):decide (0≤ah (v-1)∧ah (v-1)<16)=decide (1≤v∧v≤16):=by
 unfold i64 at h
 by_cases h1:v = -9223372036854775808
 ·subst h1;rfl
 ·rw [bn (by omega)]
  by_cases h2:1≤v∧v≤16
  ·rw[decide_eq_true h2,decide_eq_true (by omega)]
  ·rw[decide_eq_false h2,decide_eq_false (by omega)]
theorem Sk {N : Nat} {l : List aI} {i : Nat} (hN : 1100 < N) (hi : i < l.length) (hf : (jv l i).2.2.2.length ≤ 1000) (hb : i64 (jv l i).2.2.1) : F90 N (l, (i : Int)) = some (decide (cX l.length i (jv l i))) := by
 have e:idx l (i:Int)=some (jv l i):=jY _ hi
 rw[F90.eq_1,e,Option.bind_some]
 unfold cX
 generalize jv l i=t at hf hb
 obtain⟨k,el,le,fs⟩:=t
 simp only at hf hb ⊢
 rw[IL (by omega) (by omega)]
 simp only[FH,jW,Option.bind_some,DT,zu (show [el,le,(fs.length:Int)].length<N by simp;omega) (by simp),zu (show [le,(fs.length:Int)].length<N by simp;omega) (by simp),zu (show [(fs.length:Int)].length<N by simp;omega) (by simp),abe hb,List.all_cons,List.all_nil,Bool.and_true]
 by_cases h1:k=1∨k=2∨k=3
 ·rw [show (decide (k = 1) || (decide (k = 2) || decide (k = 3))) = true by simpa using h1, av, if_pos h1]
  congr 1
  by_cases a1:el=0<;>by_cases a2:le=0<;>by_cases a3:fs.length=0<;>simp[a1,a2,a3]
  all_goals (intro h;simp[h] at a3)
 ·rw [show (decide (k = 1) || (decide (k = 2) || decide (k = 3))) = false by simpa using h1, ai, if_neg h1]
  by_cases h2:k=4∨k=7
  ·rw [show (decide (k = 4) || decide (k = 7)) = true by simpa using h2, av, if_pos h2, FA]
   congr 1
   by_cases a1:0≤el∧el<(l.length:Int)<;>by_cases a2:le=0<;>by_cases a3:fs.length=0<;>simp[a1,a2,a3]
   all_goals (intro h;simp[h] at a3)
  ·rw [show (decide (k = 4) || decide (k = 7)) = false by simpa using h2, ai, if_neg h2]
   by_cases h3:k=6
   ·rw [decide_eq_true h3, av, if_pos h3]
    by_cases a1:0≤el∧el<(i:Int)<;>by_cases a2:1≤le∧le≤16<;>by_cases a3:fs.length=0<;>simp[a1,a2,a3]
    all_goals (intro h;simp[h] at a3)
   ·rw [decide_eq_false h3, ai, if_neg h3]
    by_cases h4:k=5
    ·rw [decide_eq_true h4, av, if_pos h4]
     by_cases hq:dy fs∧∀ f,f∈fs→0≤f.2∧f.2<(i:Int)
     ·rw [if_pos hq]
      simp only
      rw[zu (show [el,le].length<N by simp;omega) (by simp),Option.bind_some]
      simp only[List.all_cons,List.all_nil,Bool.and_true]
      have g3:decide ((fs.length:Int)>0)=decide (0<fs.length):=by rw[decide_eq_decide];omega
      have g4:decide ((fs.length:Int)≤8)=decide (fs.length≤8):=by rw[decide_eq_decide];omega
      rw[g3,g4]
      by_cases a1:el=0
      ·by_cases a2 : le = 0
       ·by_cases a3 : 0 < fs.length
        ·by_cases a4 : fs.length ≤ 8
         ·rw [dc (p := el = 0 ∧ le = 0 ∧ (0 < fs.length ∧ fs.length ≤ 8) ∧ dy fs ∧ ∀ f, f ∈ fs → 0 ≤ f.2 ∧ f.2 < (i : Int)) ⟨a1, a2, ⟨a3, a4⟩, hq⟩]
          simp[a1,a2,a3,a4]
         ·rw [cu (p := el = 0 ∧ le = 0 ∧ (0 < fs.length ∧ fs.length ≤ 8) ∧ dy fs ∧ ∀ f, f ∈ fs → 0 ≤ f.2 ∧ f.2 < (i : Int)) fun h => a4 h.2.2.1.2]
          simp[a1,a2,a3,a4]
        ·rw [cu (p := el = 0 ∧ le = 0 ∧ (0 < fs.length ∧ fs.length ≤ 8) ∧ dy fs ∧ ∀ f, f ∈ fs → 0 ≤ f.2 ∧ f.2 < (i : Int)) fun h => a3 h.2.2.1.1, decide_eq_false a3]
         simp[a1,a2]
       ·rw [cu (p := el = 0 ∧ le = 0 ∧ (0 < fs.length ∧ fs.length ≤ 8) ∧ dy fs ∧ ∀ f, f ∈ fs → 0 ≤ f.2 ∧ f.2 < (i : Int)) fun h => a2 h.2.1, show (le == 0) = false by simpa using a2, Bool.and_false]
        rfl
      ·rw [cu (p := el = 0 ∧ le = 0 ∧ (0 < fs.length ∧ fs.length ≤ 8) ∧ dy fs ∧ ∀ f, f ∈ fs → 0 ≤ f.2 ∧ f.2 < (i : Int)) fun h => a1 h.1, show (el == 0) = false by simpa using a1, Bool.false_and]
       rfl
     ·rw[if_neg hq,cu (p:=el=0∧le=0∧(0<fs.length∧fs.length≤8)∧dy fs∧∀ f,f∈fs→0≤f.2∧f.2<(i:Int)) fun h=>hq ⟨h.2.2.2.1,h.2.2.2.2⟩]
    ·rw[decide_eq_false h4,ai,if_neg h4,cu (p:=False) id]
end Go.Proofs.YthphehfgekjooaaGreatDoor
