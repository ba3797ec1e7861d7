/- Recipes: what is found out about main. -/
import Derived.Test.YthphehfgekjooaaGreatDoorLaw12acac3
set_option linter.unusedVariables false
set_option linter.unusedSimpArgs false
namespace Go.Proofs.YthphehfgekjooaaGreatDoor
open Go Go.bq Go.Sym
open Classical
theorem D4 {ι α σ β : Type} {l:List α} {Lf:Nat→Int→σ→ι→Option β} {Inv:Nat→σ→Prop} {g : σ→ι→β} (h0:∀ k s q,Inv l.length s→Lf (k+1) (l.length:Int) s q=some (g s q))
  (hs:∀ k (i:Nat) x s,l[i]?=some x→Inv i s→∃ s',Inv (i+1) s'∧∀ q,Lf (k+1) (i:Int) s q=Lf k ((i+1:Nat):Int) s' q) {k:Nat} {s : σ} (h:Inv 0 s) (hk:l.length<k) :
  ∃ s',Inv l.length s'∧∀ q,Lf k 0 s q=some (g s' q):=by
 have key:∀ k (i:Nat) s,i≤l.length→l.length-i<k→Inv i s→∃ s',Inv l.length s'∧∀ q,Lf k (i:Int) s q=some (g s' q):=by
  intro k
  induction k with
  |zero=>omega
  | succ k ih =>
   intro i s hi hk hI
   by_cases he:i=l.length
   ·subst he;exact⟨s,hI,fun q=>h0 k s q hI⟩
   ·obtain ⟨s', h1, h2⟩ := hs k i _ s (List.getElem?_eq_getElem (by omega)) hI
    obtain⟨s'',h3,h4⟩:=ih (i+1) s' (by omega) (by omega) h1
    exact⟨s'',h3,fun q=>by rw[h2,h4]⟩
 exact key k 0 s (by omega) (by omega) h
theorem YO {ι σ β : Type} {Lf:Nat→σ→List Nat→ι→Option β} {Inv : σ→List Nat→Prop} {μ : σ→Nat} {g : σ→ι→β} (h0:∀ k s q,Inv s []→Lf (k+1) s [] q=some (g s q))
  (hs:∀ k s o i,Inv s (o++[i])→∃ s' p,Inv s' (o++p)∧μ s'+p.length≤μ s∧∀ q,Lf (k+1) s (o++[i]) q=Lf k s' (o++p) q) :
  ∀ k s o,Inv s o→μ s+o.length<k→∃ s',Inv s' []∧∀ q,Lf k s o q=some (g s' q)
 |0,_,_,_,h=>by omega
 | k + 1, s, o, hI, hk => by
  rcases List.eq_nil_or_concat o with rfl|⟨o',i,ho⟩
  ·exact⟨s,hI,fun q=>h0 k s q hI⟩
  ·rw [List.concat_eq_append] at ho; subst ho
   rw[List.length_append,List.length_singleton] at hk
   obtain⟨s',p,h1,h2,h3⟩:=hs k s o' i hI
   obtain⟨s'',h4,h5⟩:=YO h0 hs k s' (o'++p) h1 (by simp only[List.length_append];omega)
   exact⟨s'',h4,fun q=>by rw[h3,h5]⟩
structure RI (s:List cI) (i:Int) (y:Int):Prop where
 pos:0<s.length
 zero:(rn s 0).1=0
 inc:∀ j,j+1<s.length→(rn s j).1<(rn s (j+1)).1∧(rn s j).2≠(rn s (j+1)).2
 low:∀ j,j<s.length→(rn s j).1<i
 last:(rn s (s.length-1)).2=y
theorem RI.mono {s:List cI} {i j y:Int} (h:RI s i y) (hij:i≤j):RI s j y:=⟨h.pos,h.zero,h.inc,fun k hk=>Int.lt_of_lt_of_le (h.low k hk) hij,h.last⟩
theorem vJ {s:List cI} {x:cI} {j:Nat} (h:j<s.length):rn (s++[x]) j=rn s j:=by
 unfold rn
 rw[List.getD_eq_getElem?_getD,List.getD_eq_getElem?_getD,List.getElem?_append_left h]
theorem FT {s:List cI} {x:cI} : rn (s++[x]) s.length=x:=by
 unfold rn
 rw[List.getD_eq_getElem?_getD,List.getElem?_append_right (Nat.le_refl _),Nat.sub_self];rfl
theorem RI.one (x:Int):RI [(0,x)] 1 x:=by
 refine⟨by simp,rfl,fun j hj=>by simp at hj,fun j hj=>?_,rfl⟩
 simp only[List.length_singleton] at hj
 have:j=0:=by omega
 subst this
 show (0:Int)<1
 decide
theorem RI.snoc {s:List cI} {i y x:Int} (h:RI s i y) (hx:x≠y):RI (s++[(i,x)]) (i+1) x:=by
 have hp:=h.pos
 refine⟨by simp,by rw[vJ hp];exact h.zero,fun j hj=>?_,fun j hj=>?_,by rw[List.length_append,List.length_singleton,Nat.add_sub_cancel,FT]⟩
 ·rw [List.length_append, List.length_singleton] at hj
  by_cases he:j+1=s.length
  ·rw [he, FT, vJ (by omega)]
   have e:j=s.length-1:=by omega
   refine⟨h.low j (by omega),fun hh=>hx ?_⟩
   rw[←h.last,←e,hh]
  ·rw [vJ (by omega), vJ (by omega)]
   exact h.inc j (by omega)
 ·rw [List.length_append, List.length_singleton] at hj
  by_cases he:j=s.length
  ·subst he
   rw[FT]
   show i<i+1
   omega
  ·rw [vJ (by omega)]
   have:=h.low j (by omega)
   omega
theorem RI.ok {s:List cI} {i y:Int} (h:RI s i y):bO s i:=⟨h.pos,h.zero,h.inc,h.low⟩
theorem BQ {N:Nat} {v:List Int} (hN:500<N) (h1:1≤v.length) (h2:v.length≤200):∃ r,F85 N v=some (r,0)∧r.length≤200∧(∀ x,x∈r→x.2∈v)∧bO r (v.length:Int):=by
 rw[F85.eq_1,Fy.eq_1]
 have e1:decide ((v.length:Int)<1)=false:=decide_eq_false (by omega)
 have e2:decide ((v.length:Int)>200)=false:=decide_eq_false (by omega)
 simp only[e1,e2,ai,jW,Option.bind_some,Bool.or_self,Bool.false_or,show ((0:Int) != 0)=false from rfl]
 obtain⟨s,hs,he⟩:=jX (l:=v) (g:=fun s:List cI=>s) (Inv:=fun i s=>s.length≤i∧(∀ x,x∈s→x.2∈v)∧(i=0→s=[])∧∀ j y,i=j+1→v[j]?=some y→RI s (i:Int) y)
  (Lf:=fun k i s=>f85.lN N k (v,s,(v.length:Int),i))
  (fun k s _=>by simp only[f85.lN.eq_2,bp,ai])
  (fun k i x s hx ⟨hs, hm, hn, hr⟩ => by
   have hi:=aN hx
   have hm':∀ z,z∈s++[((i:Int),x)]→z.2∈v:=fun z hz=>by
    rcases List.mem_append.1 hz with hz|hz
    ·exact hm z hz
    ·rw[List.mem_singleton.1 hz];exact bD hx
   have qq:∀ j y,i+1=j+1→v[j]?=some y→y=x:=fun j y hj hy=>by
    have:j=i:=by omega
    subst this
    rw[hx] at hy;exact (Option.some.inj hy).symm
   simp only[f85.lN.eq_2,bg hi,av,aT hx,Option.bind_some,aE (show i<9223372036854775807 by omega)]
   have hroom:room (s.length+1) 16=true:=az (by omega) (by omega)
   by_cases h0:i=0
   ·subst h0
    have:=hn rfl
    subst this
    refine⟨[]++[(((0:Nat):Int),x)],⟨by simp,hm',fun h=>by omega,fun j y hj hy=>by rw[qq j y hj hy];exact RI.one x⟩,?_⟩
    simp[show room 1 16=true from by decide,aj]
   ·have hp : decide ((i : Int) > 0) = true := decide_eq_true (by omega)
    have hw:ah ((i:Int)-1)=((i-1:Nat):Int):=by rw[bn (by omega)];omega
    have hy:=List.getElem?_eq_getElem (l:=v) (i:=i-1) (by omega)
    have hR:=hr (i-1) _ (by omega) hy
    simp only[hp,av,hw,aT hy,Option.bind_some]
    by_cases hxy:x=v[i-1]
    ·rw [show (x == v[i - 1]) = true from beq_iff_eq.2 hxy]
     exact⟨s,⟨by omega,hm,fun h=>by omega,fun j y hj hy=>by rw[qq j y hj hy];rw[←hxy] at hR;exact hR.mono (by omega)⟩,by simp⟩
    ·rw [show (x == v[i - 1]) = false from beq_eq_false_iff_ne.2 hxy]
     exact⟨s++[((i:Int),x)],⟨by simp only[List.length_append,List.length_singleton];omega,hm',fun h=>by omega,fun j y hj hy=>by rw[qq j y hj hy];exact hR.snoc hxy⟩,by simp[hroom,aj]⟩)
  (k:=N) (s:=[]) ⟨by simp,by simp,by simp,by simp⟩ (by omega)
 exact⟨s,by rw[he];rfl,by omega,hs.2.1,(hs.2.2.2 (v.length-1) _ (by omega) (List.getElem?_eq_getElem (by omega))).ok⟩
variable {l:List Instr}
structure ScP (l:List Instr) (b:List (List Int)) (m:List Bool) (o:List Nat):Prop where
 lb:b.length=l.length
 lm:m.length=l.length
 met:∀ k,T m k→b[k]?=some (sc l k)
 new:∀ k,k<l.length→¬T m k→b[k]?=some []
 uf:∀ k,k∈o→T m k
theorem abx {N:Nat} (hN:500<N) (a:List Int) (ha:a.length≤10):Ov N (a,a)=some true:=by
 rw[Ov.eq_1]
 simp only[show (((a.length:Int) != (a.length:Int))=false) by simp,ai]
 have:=A4 (l:=a) (a:=(.inr ():Bool⊕Unit)) (b:=.inl false) (p:=fun _=>false) (Lf:=fun k i=>f132.bz N k (a,a,(a.length:Int),i))
  (fun k => by simp only [f132.bz.eq_2, bp, ai]) (fun k i x hx hi => by
   have:=aN hi
   simp only[f132.bz.eq_2,bg this,av,aT hi,Option.bind_some,show (x != x)=false by simp,ai,aE (show i<9223372036854775807 by omega)]
   simp) N (by omega)
 rw[this]
 simp
theorem aby (l:List Instr) (k:Nat):sc l k=[]∨sc l k=[0]:=by
 cases k with
 |zero=>exact .inl rfl
 |succ k=>
  simp only[sc]
  split
  ·split<;>simp
  ·simp
theorem WD {N:Nat} (hv:ji l=true) (hl:l.length≤200) (hN:500<N) {i:Nat} (hi:i<l.length):Ou N (l,(i:Int))=some (cN (nx l i),0):=by
 rw[Ou.eq_1,Li (by omega) (by omega),hv]
 simp only[av,Option.bind_some,show ((0:Int) != 0)=false from rfl,ai,show decide ((i:Int)<0)=false by simp,show decide ((i:Int)≥(l.length:Int))=false by simp;omega,Lj (zw hv) hi]
theorem OS {N:Nat} (hgl:l.length≤200) (hN:500<N) {bs:List (List Int)} {m:List Bool} {o:List Nat} {i:Nat} (h:ScP l bs m (o++[i])) (ho:o.length≤1000000) {s':List Int} (hs:s'.length≤1) (hx:∀ k',k'∈nx l i→sc l k'=s'∧k'<l.length) :
  ∃ bs' m' p,ScP l bs' m' (o++p)∧cntF m'+p.length≤cntF m∧∀ (a:List aI) (b:List (List UInt8)) (c:List Func) (d:List UInt8) (e f:Int) (g:List Field) (w:List Instr) (si li:List cI),f82.iV N N (l,s',cN (nx l i),((cN (nx l i)).length:Int),0,a,b,c,d,e,f,g,w,si,li,bs,m,cN o)=some (.inr (l,a,b,c,d,e,f,g,w,si,li,bs',m',cN (o++p))):=by
 obtain⟨⟨bs',m',p⟩,⟨h1,h2⟩,he⟩:=D4 (ι:=List aI×List (List UInt8)×List Func×List UInt8×Int×Int×List Field×List Instr×List cI×List cI) (l:=cN (nx l i)) (g:=fun (q:List (List Int)×List Bool×List Nat) z=>(.inr (l,z.1,z.2.1,z.2.2.1,z.2.2.2.1,z.2.2.2.2.1,z.2.2.2.2.2.1,z.2.2.2.2.2.2.1,z.2.2.2.2.2.2.2.1,z.2.2.2.2.2.2.2.2.1,z.2.2.2.2.2.2.2.2.2,q.1,q.2.1,cN (o++q.2.2)):Bool⊕_))
  (Inv:=fun _ q=>ScP l q.1 q.2.1 (o++q.2.2)∧cntF q.2.1+q.2.2.length≤cntF m)
  (Lf:=fun k j q z=>f82.iV N k (l,s',cN (nx l i),((cN (nx l i)).length:Int),j,z.1,z.2.1,z.2.2.1,z.2.2.2.1,z.2.2.2.2.1,z.2.2.2.2.2.1,z.2.2.2.2.2.2.1,z.2.2.2.2.2.2.2.1,z.2.2.2.2.2.2.2.2.1,z.2.2.2.2.2.2.2.2.2,q.1,q.2.1,cN (o++q.2.2)))
  (fun k q z _=>by simp only[f82.iV.eq_2,bp,ai])
  (fun k j x q hxj ⟨h1, h2⟩ => by
   obtain⟨t,ht,rfl⟩:=Ll hxj
   obtain⟨hs1,hlt⟩:=hx t (bD ht)
   have YP:t<q.2.1.length:=by rw[h1.lm];exact hlt
   have hlb:t<q.1.length:=by rw[h1.lb];exact hlt
   have hj:j<9223372036854775807:=by have:=aN ht;have:=BH l i;omega
   have hL:=aN hxj
   rcases Wt YP with hb|hb
   ·refine ⟨q, ⟨h1, h2⟩, fun z => ?_⟩
    simp only[f82.iV.eq_2,bg hL,av,aT hxj,Option.bind_some,dD YP,dD hlb,aj,Int.toNat_natCast,aE hj,hb,Option.bind_some,Bool.not_true,ai,h1.met t hb,hs1,abx hN s' (by omega),Bool.not_true]
   ·have hnT : ¬ T q.2.1 t := fun hT => by unfold T at hT; rw [hb] at hT; cases hT
    refine⟨(q.1.set t s',q.2.1.set t true,q.2.2++[t]),⟨⟨by simp[h1.lb],by simp[h1.lm],fun k' hk'=>?_,fun k' hk' hn=>?_,fun k' hk'=>?_⟩,?_⟩,fun z=>?_⟩
    ·by_cases hkt : k' = t
     ·subst hkt;simp[List.getElem?_set,hlb,hs1]
     ·rcases (eV YP).1 hk' with h | h
      ·exact absurd h hkt
      ·simp only[List.getElem?_set,if_neg (Ne.symm hkt)];exact h1.met k' h
    ·have h3 : k' ≠ t := fun h => hn ((eV YP).2 (.inl h))
     simp only[List.getElem?_set,if_neg (Ne.symm h3)]
     exact h1.new k' hk' fun h=>hn ((eV YP).2 (.inr h))
    ·rw [← List.append_assoc, List.mem_append, List.mem_singleton] at hk'
     rcases hk' with hk'|rfl
     ·exact (eV YP).2 (.inr (h1.uf k' hk'))
     ·exact (eV YP).2 (.inl rfl)
    ·have := IX hb
     simp only[List.length_append,List.length_cons,List.length_nil]
     omega
    ·have hlen : q.2.2.length ≤ m.length := by have := sL m; omega
     rw[h.lm] at hlen
     have hr:room ((cN (o++q.2.2)).length+1) 8=true:=az (by rw[cq,List.length_append];omega) (by omega)
     have e1:=List.getElem?_eq_getElem hlb
     simp only[f82.iV.eq_2,bg hL,av,aT hxj,Option.bind_some,dD YP,dD hlb,aj,Int.toNat_natCast,aE hj,hb,Bool.not_false,hr,e1]
     rw[←List.append_assoc,sM (o++q.2.2) [t]]
     rfl) (k:=N) (s:=(bs,m,[])) ⟨⟨h.lb,h.lm,h.met,h.new,fun k hk=>h.uf k (by simp at hk;simp[hk])⟩,by simp⟩ (by
      rw[cq]
      have:=BH l i
      omega)
 exact⟨bs',m',p,h1,h2,fun a b c d e f g w si li=>by simpa using he (a,b,c,d,e,f,g,w,si,li)⟩
structure WE {ι : Type} (N:Nat) (ts:List aI) (xs:List (List UInt8)) (c : ι→List Func) (nm:List UInt8) (pa re:Int) (sl:List Field) (l:List Instr) (si li : ι→List cI):Prop where
 valid:ji l=true
 pos:1≤l.length
 len:l.length≤200
 ex:∀ i,i<l.length→∃ x s',l[i]?=some x∧s'.length≤1∧(∀ q,vw N (ts,xs,c q,nm,pa,re,sl,l,si q,li q,x.1,x.2.1,x.2.2.1,x.2.2.2,sc l i)=some (s',true))∧∀ k',k'∈nx l i→sc l k'=s'∧k'<l.length
 two:∀ s,s=[]∨s=[0]→∃ v:Int,(v=0∨v=8)∧∀ q,Ct N (ts,xs,c q,nm,pa,re,sl,l,si q,li q,s)=some (v,0)
 last:sc l (l.length-1)=[]
section
variable {ι : Type} {ts:List aI} {xs:List (List UInt8)} {c : ι→List Func} {nm:List UInt8} {pa re:Int} {sl:List Field} {si li : ι→List cI}
theorem S8 {N:Nat} (hg:WE N ts xs c nm pa re sl l si li) (hN:500<N):∃ bs m,ScP l bs m []∧∀ q : ι,f82.bz N N (l,ts,xs,c q,nm,pa,re,sl,l,si q,li q,List.replicate l.length [],(List.replicate l.length false).set 0 true,[0])=some (.inr (l,ts,xs,c q,nm,pa,re,sl,l,si q,li q,bs)):=by
 have hle:=hg.len
 have hpos:=hg.pos
 obtain⟨⟨bs,m⟩,hI,he⟩:=YO (ι:=ι) (σ:=List (List Int)×List Bool) (Inv:=fun s o=>ScP l s.1 s.2 o∧cntF s.2+o.length≤300) (μ:=fun s=>cntF s.2) (g:=fun s q=>(.inr (l,ts,xs,c q,nm,pa,re,sl,l,si q,li q,s.1):Bool⊕_))
  (Lf:=fun k s o q=>f82.bz N k (l,ts,xs,c q,nm,pa,re,sl,l,si q,li q,s.1,s.2,cN o))
  (fun k s q _=>by rw[show cN []=[] from rfl,f82.bz.eq_2,show decide (((([]:List Int).length:Nat):Int)>0)=false from rfl,ai])
  (fun k s o i ⟨h, hm⟩ => by
   rw[List.length_append,List.length_singleton] at hm
   have hi:T s.2 i:=h.uf i (by simp)
   have Jy:i<l.length:=by rw[←h.lm];exact hi.lt
   obtain⟨x,s',hx,hs1,hst,dY⟩:=hg.ex i Jy
   obtain⟨bs',m',p,h1,h2,h3⟩:=OS (N:=N) hle (by omega) h (by omega) hs1 dY
   refine⟨(bs',m'),p,⟨h1,by show cntF m'+(o++p).length≤300;rw[List.length_append];omega⟩,h2,fun q=>?_⟩
   have hlen:(cN (o++[i])).length=o.length+1:=by simp[cN]
   have e1:ah (((o.length+1:Nat):Int)-1)=(o.length:Int):=by rw[bn (by omega)];omega
   have e2:(cN (o++[i]))[o.length]?=some (i:Int):=by simp[cN]
   have e3:(cN (o++[i])).take o.length=cN o:=by simp[cN]
   have hib:i<s.1.length:=by rw[h.lb];exact Jy
   simp only[f82.bz.eq_2,hlen,e1,decide_eq_true (show ((o.length+1:Nat):Int)>0 by omega),av,dD (show o.length<o.length+1 by omega),aj,Int.toNat_natCast,e2,Option.bind_some,
    show decide ((0:Int)≤(o.length:Int))=true by simp,show decide (o.length≤o.length+1)=true by simp,aT hx,dD hib,h.met i hi,hst q,WD hg.valid hle hN Jy,Bool.not_true,ai,show ((0:Int) != 0)=false from rfl,e3,h3])
  N (List.replicate l.length [], (List.replicate l.length false).set 0 true) [0] ⟨⟨by simp, by simp, fun k hk => by
    rw[(k9 (by omega) k).1 hk];simp only[sc];rw[List.getElem?_replicate,if_pos (by omega)],fun k hk _=>by rw[List.getElem?_replicate,if_pos hk],fun k hk=>by
    rw[List.mem_singleton.1 hk];exact (k9 (by omega) 0).2 rfl⟩,by
   have:=sL ((List.replicate l.length false).set 0 true)
   rw[sN] at this
   simp only[List.length_singleton];omega⟩ (by
   have:=sL ((List.replicate l.length false).set 0 true)
   rw[sN] at this
   simp only[List.length_singleton];omega)
 exact⟨bs,m,hI.1,fun q=>by rw[show [(0:Int)]=cN [0] from rfl,he]⟩
theorem ScP.two {bs:List (List Int)} {m:List Bool} {o:List Nat} (h:ScP l bs m o) {k:Nat} (hk:k<l.length):∃ s,bs[k]?=some s∧(s=[]∨s=sc l k):=by
 by_cases hT:T m k
 ·exact⟨_,h.met k hT,.inr rfl⟩
 ·exact⟨_,h.new k hk hT,.inl rfl⟩
theorem Lt {N:Nat} (hg:WE N ts xs c nm pa re sl l si li) (hN:500<N):∃ v,(∀ q : ι,F82 N (ts,xs,c q,nm,pa,re,sl,l,si q,li q)=some (v,true))∧v.length=l.length∧∀ y,y∈v→0≤y∧y≤18446744073709551615:=by
 have hle:=hg.len
 have hpos:=hg.pos
 obtain⟨bs,m,h,he⟩:=S8 hg hN
 have Jx:=h.lb
 obtain⟨v,⟨hv,hvb⟩,he2⟩:=D4 (ι:=ι) (l:=bs) (g:=fun (v:List Int) (_ : ι)=>(.inr (l,bs,v):Bool⊕_)) (Inv:=fun _ v=>v.length=l.length∧∀ y,y∈v→0≤y∧y≤18446744073709551615)
  (Lf:=fun k i v q=>f82.Bk N k (l,(bs.length:Int),i,ts,xs,c q,nm,pa,re,sl,l,si q,li q,bs,v))
  (fun k v q _=>by simp only[f82.Bk.eq_2,bp,ai])
  (fun k i x v hx ⟨hv, hvb⟩ => by
   have hi:=aN hx
   obtain⟨s,hs,hs2⟩:=h.two (k:=i) (by omega)
   rw[hx] at hs
   injection hs with hs;subst hs
   obtain⟨y,hy8,hy⟩:=hg.two x (by rcases hs2 with rfl|rfl;exact .inl rfl;exact aby l i)
   have hiv:i<v.length:=by omega
   have hy9:cg y=y:=jN (by omega)
   refine⟨v.set i (cg y),⟨by simp[hv],fun z hz=>?_⟩,fun q=>?_⟩
   ·rcases List.mem_or_eq_of_mem_set hz with hz | rfl
    ·exact hvb z hz
    ·rw[hy9];omega
   simp only[f82.Bk.eq_2,bg hi,av,dD hi,aj,Int.toNat_natCast,hx,Option.bind_some,hy,show ((0:Int) != 0)=false from rfl,ai,dD hiv,List.getElem?_eq_getElem hiv,aE (show i<9223372036854775807 by omega)])
  (k:=N) (s:=List.replicate l.length 0) ⟨by simp,fun y hy=>by rw[(List.mem_replicate.1 hy).2];omega⟩ (by omega)
 obtain⟨s,hs,hs2⟩:=h.two (k:=l.length-1) (by omega)
 have SY:s=[]:=by
  rcases hs2 with h|h
  ·exact h
  ·rw[h];exact hg.last
 refine⟨v,fun q=>?_,hv,hvb⟩
 rw[F82.eq_1]
 have e1:ah ((l.length:Int)-1)=((l.length-1:Nat):Int):=FL (by omega) (by omega)
 rw[Jx] at he2
 simp only[Int.toNat_natCast,show decide ((0:Int)≤(l.length:Int))=true by simp,aj,Nat.le_refl,decide_true,Bool.true_and,az (show l.length≤10000000 by omega) (show 24≤1000 by omega),az (show l.length≤10000000 by omega) (show 1≤1000 by omega),
  az (show l.length≤10000000 by omega) (show 8≤1000 by omega),List.length_replicate,show jf 0 l.length=true from dD (i:=0) (by omega),show Int.toNat 0=0 from rfl,FM (show 1≤l.length by omega),Option.bind_some,he,he2,e1,Jx,dD (show l.length-1<l.length by omega),hs,SY]
 rfl
end
structure Good (l:List Instr):Prop where
 code:Code 0 l
 len:l.length≤200
 pro:∃ r,l=yS++r∧1≤r.length
theorem Good.inst (h:Good l) {x:Instr} (hx:x∈l):x∈base∨∃ t:Nat,t<l.length∧x=(23,1,(t:Int),0):=by
 rcases h.code.good.2.2 x hx with h|⟨t,ht,rfl⟩
 ·exact .inl h
 ·exact .inr ⟨t,by omega,rfl⟩
theorem Good.inst200 (h:Good l) {x:Instr} (hx:x∈l):x∈base∨∃ t:Nat,t<200∧x=(23,1,(t:Int),0):=by
 rcases h.inst hx with h'|⟨t,ht,rfl⟩
 ·exact .inl h'
 ·exact .inr ⟨t,by have:=h.len;omega,rfl⟩
theorem BR {x:Instr} (h:x∈base):fk x=true∧x.1≠22∧x.1≠23∧JB x:=by
 have:=List.all_eq_true.1 Lr x h
 simp only[Bool.and_eq_true,decide_eq_true_eq,bne_iff_ne] at this
 obtain⟨⟨h1,h2,h3⟩,h4⟩:=this
 exact⟨h1,h2,h3,by unfold JB i64;omega⟩
theorem abz:((List.range 200).all fun t:Nat=>fk (23,1,(t:Int),0))=true:=by decide +kernel
theorem Good.aM (h:Good l) {x:Instr} (hx:x∈l):fk x=true∧JB x:=by
 rcases h.inst200 hx with h|⟨t,ht,rfl⟩
 ·exact⟨(BR h).1,(BR h).2.2.2⟩
 ·exact⟨List.all_eq_true.1 abz t (List.mem_range.2 ht),by unfold JB i64;simp only;omega⟩
theorem Good.last (h:Good l):nc l=gu:=by
 have:=h.code.good.2.1
 simp only[nc,List.getD_eq_getElem?_getD]
 rw[List.getLast?_eq_getElem?] at this
 rw[this];rfl
theorem Good.pos (h:Good l):10≤l.length:=by
 obtain⟨r,rfl,hr⟩:=h.pro
 rw[List.length_append]
 show 10≤9+r.length
 omega
theorem Good.valid (h:Good l):ji l=true:=by
 have:=h.pos
 unfold ji
 rw[decide_eq_true (by omega),decide_eq_true h.len,h.last]
 simp only[Bool.true_and]
 refine Bool.and_eq_true_iff.2 ⟨?_,rfl⟩
 rw[Bool.not_eq_true',List.any_eq_false]
 intro x hx
 unfold Lh
 rw[(h.aM hx).1]
 rcases h.inst hx with h'|⟨t,ht,rfl⟩
 ·have := BR h'
  simp[Cv,this.2.1,this.2.2.1]
 ·simp[Cv];omega
theorem Good.at (h:Good l) {k:Nat} (hk:k<l.length):AtC l k:=by
 have:=h.code.facts (p:=[]) rfl rfl (by simpa using h.len) k (by omega) (by simpa using hk)
 simpa using this
theorem Good.reach (h:Good l) {k:Nat} (hk:k<l.length):Reach l k:=by
 have:=h.code.reach (p:=[]) rfl .zero k (by omega) (by simpa using hk)
 simpa using this
theorem Good.iN (h:Good l):(Go.Proofs.YthphehfgekjooaaGreatDoor.iN l).set (l.length-1) true=List.replicate l.length true:=by
 apply List.ext_getElem?
 intro k
 by_cases hk:k<l.length
 ·rw [List.getElem?_set, List.getElem?_replicate, if_pos hk, jj, ng hk, decide_eq_true (h.reach hk)]
  split
  ·rw[if_pos (by omega)]
  ·rfl
 ·rw[List.getElem?_eq_none (by simp[jj];omega),List.getElem?_eq_none (by simp;omega)]
theorem S9 {x:Instr} {s s':List Int} (h:BO x s s'):s'.length≤1:=by cases h<;>simp
theorem Good.here (hg:Good l) (N:Nat):WE (ι:=RQ) (N+60) iO iP (fun Q=>qe Q l) nQ 0 (-1) MV l (fun Q=>(Q 0).1) fun Q=>(Q 0).2:=by
 have hpos:=hg.pos
 refine⟨hg.valid,by omega,hg.len,fun i hi=>?_,fun s hs=>?_,?_⟩
 ·obtain ⟨x, s', hx, hst, dY⟩ := (hg.at hi).ex
  exact⟨x,s',hx,S9 hst,fun Q=>S7 hst,fun k' hk'=>⟨(dY k' hk').1,(dY k' hk').2.2⟩⟩
 ·rcases hs with rfl | rfl
  ·exact⟨_,.inl rfl,fun Q=>(D2 N Q l).1⟩
  ·exact⟨_,.inr rfl,fun Q=>(D2 N Q l).2⟩
 ·obtain ⟨x, s', hx, hst, _⟩ := (hg.at (k := l.length - 1) (by omega)).ex
  have hr:x=gu:=by
   have:=hg.last
   simp only[nc,List.getD_eq_getElem?_getD,hx] at this
   exact this
  subst hr
  generalize sc l (l.length-1)=q at hst ⊢
  cases hst with
  |one _=>rfl
  |arg hp=>exact absurd (zy _ _ hp).1 (by decide)
  |call hp=>exact absurd rfl (zy _ _ hp).2.1
end Go.Proofs.YthphehfgekjooaaGreatDoor
