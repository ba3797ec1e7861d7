/- Reading bytes, by the program: runs, functions, images. -/
import Derived.Test.YthphehfgekjooaaGreatDoorLaw12acx3
import Derived.Test.YthphehfgekjooaaGreatDoorLaw12acl7b
set_option linter.unusedVariables false
set_option linter.unusedSimpArgs false
namespace Go.Proofs.YthphehfgekjooaaGreatDoor
open Go Go.bq Go.Sym
open Classical
theorem BX {α : Type} {p:mD α} {s:List Int} {t:Nat} (h:gv p t s=none):∀ m,gv p (t+m) s=none
 |0=>h
 |m+1=>by
  rw[show t+(m+1)=(t+m)+1 by omega,gv,BX h m]
theorem F1 {α : Type} {p:mD α} {s:List Int} : ∀ (t:Nat) {l:List α} {r:List Int},gv p t s=some (l,r)→l.length=t
 |0,l,r,h=>by
  simp only[gv,Option.some.injEq,Prod.mk.injEq] at h
  rw[←h.1];rfl
 | t + 1, l, r, h => by
  simp only[gv] at h
  split at h
  ·rename_i xs r0 h1
   split at h
   ·injection h with h; injection h with h2 h3
    rw[←h2,List.length_append,F1 t h1];rfl
   ·cases h
  ·cases h
section
variable {α β ε : Type} {b:List Int} {g : ε→Prop}
theorem WJ {p:mD α} {n:Nat} {Lf:Nat→Int→List α→List Int→Int→ε→Option β} {G:List α→List Int→Int→ε→β}
  (h0:∀ k acc c i e,Lf (k+1) (n:Int) acc c i e=some (G acc c i e))
  (aiS:∀ k (t:Nat) acc c i e,t<n→¬g e→Lf (k+1) (t:Int) acc c i e=some (G acc c i e))
  (hs:∀ k (t:Nat) acc i e s,t<n→acc.length≤t→At b s i→g e→∃ y acc',cR b (p s) g y∧(g y.2.2.1→acc'=acc++[y.2.2.2])∧acc'.length≤t+1∧Lf (k+1) (t:Int) acc b i e=Lf k ((t+1:Nat):Int) acc' y.1 y.2.1 y.2.2.1)
  {o:Option (List Int)} {c:List Int} {i:Int} {e : ε} (h:Gu b o g c i e) {k:Nat} (hk:n<k) :
  ∃ y:List Int×Int×ε×List α,cR b (o.bind (gv p n)) g y∧y.2.2.2.length≤n∧Lf k 0 [] c i e=some (G y.2.2.2 y.1 y.2.1 y.2.2.1):=by
 have key:∀ (m t k:Nat) (acc:List α) (c:List Int) (i:Int) (e : ε),n=t+m→acc.length≤t→cR b (o.bind (gv p t)) g (c,i,e,acc)→m<k→
   ∃ y:List Int×Int×ε×List α,cR b (o.bind (gv p n)) g y∧y.2.2.2.length≤n∧Lf k (t:Int) acc c i e=some (G y.2.2.2 y.1 y.2.1 y.2.2.1):=by
  intro m
  induction m with
  |zero=>
   intro t k acc c i e hn hl hr hk
   obtain⟨k,rfl⟩:∃ j,k=j+1:=⟨k-1,by omega⟩
   have:n=t:=by omega
   subst this
   exact⟨(c,i,e,acc),hr,hl,h0 k acc c i e⟩
  | succ m ih =>
   intro t k acc c i e hn hl hr hk
   obtain⟨k,rfl⟩:∃ j,k=j+1:=⟨k-1,by omega⟩
   cases ho:o.bind (gv p t) with
   | none =>
    rw[ho] at hr
    refine⟨(c,i,e,acc),?_,by simp only;omega,aiS k t acc c i e (by omega) hr⟩
    have:o.bind (gv p n)=none:=by
     cases o with
     |none=>rfl
     |some s=>rw[hn];exact BX ho (m+1)
    rw[this];exact hr
   | some x =>
    have hr0:=hr
    rw[ho] at hr
    obtain⟨hc,qq,hg,hacc⟩:=hr
    simp only at hc qq hg hacc
    subst hc
    obtain⟨y,acc',g1,g2,g3,g4⟩:=hs k t acc i e x.2 (by omega) hl qq hg
    rw[g4]
    refine ih (t+1) k acc' _ _ _ (by omega) g3 ?_ (by omega)
    have:=hr0.snoc (y:=y) (by rw[ho];exact g1)
    cases hq:o.bind (gv p (t+1)) with
    |none=>rw[hq] at this;exact this
    |some z=>
     rw[hq] at this
     exact⟨this.1,this.2.1,this.2.2.1,by rw[g2 this.2.2.1];exact this.2.2.2⟩
 refine key n 0 k [] c i e (by omega) (Nat.le_refl _) ?_ hk
 cases o with
 |none=>exact h
 |some s=>exact⟨h.1,h.2.1,h.2.2,rfl⟩
end
noncomputable def sV (w x:Nat):Nat:=w+min x 200
theorem O8:abE sV:=fun w x _=>by unfold sV;omega
section
variable {N:Nat} {b:List Int}
theorem D9 (hN:20<N) (hb:Fit b) (n v:Int) {k:Nat} (hk:k≤200) (s0:List Int):∀ (m t f:Nat) (l:List (Nat×Nat)) (s:List Int) (i:Int),k=t+m→m<f→gv nR t s0=some (l,s)→w9 sV 0 l≤200*t→At b s i→
  (∃ l' r j,gv nR k s0=some (l',r)∧At b r j∧f105.mg N f (n,qg sV 0 l,(w9 sV 0 l:Int),(k:Int),(t:Int),b,i,v)=some (.inr (n,qg sV 0 l',b,j,v)))∨
  (gv nR k s0=none∧∃ e,e≠0∧f105.mg N f (n,qg sV 0 l,(w9 sV 0 l:Int),(k:Int),(t:Int),b,i,v)=some (.inl ([],e,[],0)))
 |0,t,f+1,l,s,i,hm,_,hp,_,qq=>by
  have:k=t:=by omega
  subst this
  rw[f105.mg.eq_2,bp,ai]
  exact .inl ⟨l,s,i,hp,qq,rfl⟩
 | m + 1, t, f + 1, l, s, i, hm, hf, hp, he, qq => by
  have hby:=qq.Tg hb
  have hlen:=F1 t hp
  rw[f105.mg.eq_2,bg (show t<k by omega),av]
  have mx:(18446744073709551615:Int)=((18446744073709551615:Nat):Int):=rfl
  have stop:nR s=none→gv nR k s0=none:=fun h=>by
   rw[show k=(t+1)+m by omega]
   refine BX ?_ m
   simp only[gv,hp,h]
  rw[mx]
  rcases kS (N:=N) hN hb qq 18446744073709551615 with⟨x,r,j,g1,g2,g3⟩|⟨g1,c,j,e,g2,g3⟩
  ·rw [w8 s hby] at g1
   rw[g3,Option.bind_some]
   simp only[iM,ai]
   have hx:=(qf.bwd s x r hby g1).1
   have hbr:=g2.Tg hb
   rcases kS (N:=N) hN hb g2 18446744073709551615 with⟨y,r',j',q1,q2,q3⟩|⟨q1,c,j',e,q2,q3⟩
   ·rw [w8 r hbr] at q1
    rw[q3,Option.bind_some]
    have hw1:ah (min (x:Int) 200)=((min x 200:Nat):Int):=by rw[bn (by omega)];omega
    have hw2:ah ((w9 sV 0 l:Int)+((min x 200:Nat):Int))=((sV (w9 sV 0 l) x:Nat):Int):=by rw[bn (by omega)];unfold sV;omega
    have hs:=D7 sV l 0 (x,y)
    simp only[iM,ai,hw1,hw2,az (show (qg sV 0 l).length+1≤10000000 by rw[vN];omega) (show 16≤1000 by omega),aj,aE (show t<9223372036854775807 by omega)]
    have hp':gv nR (t+1) s0=some (l++[(x,y)],r'):=by
     have hpp:nR s=some ((x,y),r'):=by simp only[nR,dG,g1,q1,Option.bind_some,Option.map_some]
     simp only[gv,hp,hpp]
    have ih:=D9 hN hb n v hk s0 m (t+1) f (l++[(x,y)]) r' j' (by omega) (by omega) hp' (by rw[hs.2];show w9 sV 0 l+min x 200≤200*(t+1);omega) q2
    rw[hs.1,hs.2] at ih
    exact ih
   ·rw [w8 r hbr] at q1
    rw[q3,Option.bind_some]
    have h':(e != (0:Int))=true:=by simpa using q2
    simp only[h',av,yP.eq_1,Option.bind_some]
    exact .inr ⟨stop (by simp only[nR,dG,g1,q1,Option.bind_some,Option.map_none]),e,q2,rfl⟩
  ·rw [w8 s hby] at g1
   rw[g3,Option.bind_some]
   have h':(e != (0:Int))=true:=by simpa using g2
   simp only[h',av,yP.eq_1,Option.bind_some]
   exact .inr ⟨stop (by simp only[nR,dG,g1,Option.bind_none]),e,g2,rfl⟩
 |_,_,0,_,_,_,_,h,_,_,_=>by omega
theorem O9 {n:Nat} (hn:1≤n∧n≤200) (s:List Int):nS n s=((pI n s).bind fun x=>gv nR x.1.toNat x.2).bind fun z=>if bO (nu 0 z.1) n then some (nu 0 z.1,z.2) else none:=by
 unfold nS
 rw[if_pos hn]
 unfold ke Cz abB
 rw[MY]
 cases (pI n s).bind fun x=>gv nR x.1.toNat x.2 with
 |none=>rfl
 |some z=>
  simp only[Option.bind_some]
  by_cases h:bO (nu 0 z.1) n
  ·rw[dc h,if_pos h];rfl
  ·rw[cu h,if_neg h];rfl
theorem Pa (hN:300<N) (hb:Fit b) {s:List Int} {i:Int} (h:At b s i) {n:Nat} (hnn:n≤1000000) :
  (∃ l r j,nS n s=some (l,r)∧At b r j∧KX N (b,i,(n:Int))=some (b,j,l,0))∨(nS n s=none∧∃ c j l e,e≠0∧KX N (b,i,(n:Int))=some (c,j,l,e)):=by
 have hby:=h.Tg hb
 rw[KX.eq_1,M4 hb h,Option.bind_some]
 simp only[iM,ai,Fy.eq_1,yP.eq_1,Option.bind_some]
 by_cases hn:1≤n∧n≤200
 ·rw [O9 hn]
  rw[cu (show ¬(n:Int)<1 by omega),ai,cu (show ¬(n:Int)>200 by omega),Option.bind_some,ai,Option.bind_some,iM,ai,iW (by omega)]
  rcases kS (N:=N) (by omega) hb h n with⟨k,r,j,g1,g2,g3⟩|⟨g1,c,j,e,g2,g3⟩
  ·have hk := ((BS (by omega)).bwd s k r hby g1).1
   rw[g3,Option.bind_some]
   simp only[iM,ai,lP (show k≤9223372036854775807 by omega)]
   have e1:pI n s=some ((k:Int),r):=by simp only[pI,ke,g1,Option.map_some]
   simp only[e1,Option.bind_some,Int.toNat_natCast]
   have lp:=D9 (N:=N) (by omega) hb (n:Int) 0 (k:=k) (by omega) r k 0 N [] r j (by omega) (by omega) rfl (Nat.le_refl _) g2
   simp only[qg,w9,show ((0:Nat):Int)=0 from rfl] at lp
   rcases lp with⟨l,r',j',q1,q2,q3⟩|⟨q1,e,q2,q3⟩
   ·have hl := F1 k q1
    obtain⟨c1,c2⟩:=O6 O8 (l:=l) hn.2
    rw[q1,q3,Option.bind_some,Option.bind_some]
    simp only[II (N:=N) (l:=qg sV 0 l) (n:=(n:Int)) (by rw[vN];omega) (by rw[vN];omega),Option.bind_some]
    by_cases hr:bO (nu 0 l) n
    ·rw [if_pos hr, dc (c1.2 hr), c2 hr]
     exact .inl ⟨_,_,_,rfl,q2,rfl⟩
    ·rw [if_neg hr, cu fun h => hr (c1.1 h)]
     exact .inr ⟨rfl,[],0,[],12,by decide,rfl⟩
   ·rw [q1, q3, Option.bind_some]
    exact .inr ⟨rfl,[],0,[],e,q2,rfl⟩
  ·rw [g3, Option.bind_some]
   have he:(e != (0:Int))=true:=by simpa using g2
   simp only[he,av]
   exact .inr ⟨by simp only[pI,ke,g1,Option.map_none,Option.bind_none],[],0,[],e,g2,rfl⟩
 ·refine .inr ⟨by unfold nS; rw [if_neg hn], [], 0, [], 2, by decide, ?_⟩
  by_cases h1:(n:Int)<1
  ·rw[dc h1];rfl
  ·rw[cu h1,dc (show (n:Int)>200 by omega)];rfl
theorem M5 (hN:300<N) (hb:Fit b) {o:Option (List Int)} {c:List Int} {i e:Int} (h:Gu b o z0 c i e) {n:Nat} (hn:n≤1000000) :
  ∃ y,R8 N (c,i,e,(n:Int))=some y∧cR b (o.bind (nS n)) z0 y:=by
 rw[R8.eq_1]
 cases o with
 |none=>
  have he:(e != (0:Int))=true:=by simpa[Gu,z0] using h
  rw[he,av]
  exact⟨_,rfl,h⟩
 | some s =>
  obtain⟨rfl,h1,h2⟩:=h
  have h2:e=0:=h2
  subst h2
  rw[iM,ai]
  rcases Pa hN hb h1 hn with⟨v,r,j,g1,g2,g3⟩|⟨g1,c,j,v,e,g2,g3⟩
  ·rw [g3, Option.bind_some]
   exact⟨_,rfl,by simp only[Option.bind_some,g1];exact⟨rfl,g2,rfl,rfl⟩⟩
  ·rw [g3, Option.bind_some]
   exact⟨_,rfl,by simp only[Option.bind_some,g1];exact g2⟩
theorem F2 (hN:300<N) (hb:Fit b) {o:Option (List Int)} {c:List Int} {i e:Int} (h:Gu b o z0 c i e) (nm:List UInt8) (pa re:Int) :
  ∃ y:List Int×Int×Int×List Field×List Instr×List cI×List cI,(Option.bind (VZ N (c,i,e,(16:Int))) fun y3=>Option.bind (Gs N (y3.1,y3.2.1,y3.2.2.1,(200:Int))) fun y4=>Option.bind (f36.rU N N (y4.2.2.2,(0:Int),y4.1,y4.2.1,y4.2.2.1,([]:List UInt8),(0:Int),(0:Int),nm,pa,re,y3.2.2.2,[])) fun TQ=>Option.bind (R8 N (TQ.1,TQ.2.1,TQ.2.2.1,(TQ.2.2.2.2.2.2.2.2.2.2.length:Int))) fun y20=>Option.bind (R8 N (y20.1,y20.2.1,y20.2.2.1,(TQ.2.2.2.2.2.2.2.2.2.2.length:Int))) fun y21=>some (y21.1,y21.2.1,y21.2.2.1,TQ.2.2.2.2.2.2.1,TQ.2.2.2.2.2.2.2.1,TQ.2.2.2.2.2.2.2.2.1,TQ.2.2.2.2.2.2.2.2.2.1,TQ.2.2.2.2.2.2.2.2.2.2,y20.2.2.2,y21.2.2.2))=some (y.1,y.2.1,y.2.2.1,nm,pa,re,y.2.2.2)∧
   cR b (o.bind (dG (ld 16 32 16) fun _=>yp mE)) z0 y:=by
 obtain⟨y3,h1,h2⟩:=D8 hN hb h (m:=16) (by omega)
 rw[show ((16:Nat):Int)=16 from rfl] at h1
 rw[h1,Option.bind_some]
 obtain⟨y4,h3,h4,h5⟩:=gE (N:=N) (by omega) hb h2.st (m:=200) (by omega)
 rw[show ((200:Nat):Int)=200 from rfl] at h3
 rw[h3,Option.bind_some]
 obtain⟨n,hn⟩:=Int.eq_ofNat_of_zero_le h5.1
 obtain⟨y,g1,g2,g3⟩:=WJ (p:=nZ) (n:=n) (g:=z0) (b:=b) (Lf:=fun k t acc c i e=>f36.rU N k (y4.2.2.2,t,c,i,e,([]:List UInt8),(0:Int),(0:Int),nm,pa,re,y3.2.2.2,acc)) (G:=fun acc c i e=>(c,i,e,([]:List UInt8),(0:Int),(0:Int),nm,pa,re,y3.2.2.2,acc))
  (fun k acc c i e=>by simp only[f36.rU.eq_2,hn,bp,ai])
  (fun k t acc c i e ht he => by
   have he:(e != (0:Int))=true:=by simpa[z0] using he
   simp only[f36.rU.eq_2,hn,bg ht,av,he])
  (fun k t acc i e s ht hl qq he => by
   have he:e=0:=he
   subst he
   have q:=Ti (N:=N) (by omega) hb qq
   cases hp:nZ s with
   | none =>
    rw[hp] at q
    obtain⟨c',j,x,y,z,w,e',q1,q2⟩:=q
    refine⟨(c',j,e',(x,y,z,w)),acc++[(x,y,z,w)],?_,fun _=>rfl,by rw[List.length_append,List.length_singleton];omega,?_⟩
    ·show ¬ e' = 0
     simpa using q1
    ·simp only[f36.rU.eq_2,hn,bg ht,av,iM,ai,q2,Option.bind_some,az (show acc.length+1≤10000000 by omega) (show 32≤1000 by omega),aj,aE (show t<9223372036854775807 by omega)]
   |some x=>
    rw[hp] at q
    obtain⟨j,q1,q2⟩:=q
    refine⟨(b,j,0,x.1),acc++[x.1],⟨rfl,q1,rfl,rfl⟩,fun _=>rfl,by rw[List.length_append,List.length_singleton];omega,?_⟩
    simp only[f36.rU.eq_2,hn,bg ht,av,iM,ai,q2,Option.bind_some,az (show acc.length+1≤10000000 by omega) (show 32≤1000 by omega),aj,aE (show t<9223372036854775807 by omega)]) h4.st (k:=N) (by omega)
 rw[g3,Option.bind_some]
 have hc:=h4.cnt (p:=nZ) (by rw[hn,Int.toNat_natCast];exact g1)
 obtain⟨u,q1,q2⟩:=M5 hN hb hc.st (n:=y.2.2.2.length) (by omega)
 simp only
 rw[q1,Option.bind_some]
 obtain⟨v,q3,q4⟩:=M5 hN hb q2.st (n:=y.2.2.2.length) (by omega)
 rw[q3,Option.bind_some]
 have r1:=q2.then (p:=nS y.2.2.2.length) (q:=fun _=>nS y.2.2.2.length) q4
 have r2:=hc.then (p:=sU 200 nZ) (q:=fun l=>dG (nS l.length) fun _=>nS l.length) r1
 have r3:=h2.then (p:=ld 16 32 16) (q:=fun _=>yp mE) r2
 exact⟨_,rfl,r3⟩
theorem Jc (hN:300<N) (hb:Fit b) {o:Option (List Int)} {c:List Int} {i e:Int} (h:Gu b o z0 c i e) :
  ∃ y,F36 N (c,i,e)=some y∧cR b (o.bind (yq mE)) z0 y:=by
 rw[F36.eq_1]
 obtain⟨y0,h1,h2⟩:=F0 (N:=N) (by omega) hb h (m:=16) (by omega)
 rw[show ((16:Nat):Int)=16 from rfl] at h1
 rw[h1,Option.bind_some]
 obtain⟨y1,h3,h4,_⟩:=gE (N:=N) (by omega) hb h2.st (m:=16) (by omega)
 rw[show ((16:Nat):Int)=16 from rfl] at h3
 rw[h3,Option.bind_some]
 have fin:∀ (z:List Int×Int×Int×Int),cR b (((o.bind (ki 16)).map (·.2)).bind (pI 16) |>.map (·.2) |>.bind pS) z0 z→∀ w:List Int×Int×Int×List Field×List Instr×List cI×List cI,cR b ((((((o.bind (ki 16)).map (·.2)).bind (pI 16)).map (·.2)).bind pS).map (·.2) |>.bind (dG (ld 16 32 16) fun _=>yp mE)) z0 w→
   cR b (o.bind (yq mE)) z0 (w.1,w.2.1,w.2.2.1,y0.2.2.2,y1.2.2.2,z.2.2.2,w.2.2.2):=fun z hz w hw=>by
  have r1:=hz.then (p:=pS) (q:=fun _=>dG (ld 16 32 16) fun _=>yp mE) hw
  have r2:=h4.then (p:=pI 16) (q:=fun _=>dG pS fun _=>dG (ld 16 32 16) fun _=>yp mE) r1
  exact h2.then (p:=ki 16) (q:=fun _=>dG (pI 16) fun _=>dG pS fun _=>dG (ld 16 32 16) fun _=>yp mE) r2
 have hst:=h4.st
 cases ho:(((o.bind (ki 16)).map (·.2)).bind (pI 16)).map (·.2) with
 |none=>
  rw[ho] at hst fin
  have he:(y1.2.2.1==(0:Int))=false:=by simpa[Gu,z0] using hst
  rw[he,ai]
  have hz:cR b ((none:Option (List Int)).bind pS) z0 (y1.1,y1.2.1,y1.2.2.1,(0:Int)):=hst
  obtain⟨w,w1,w2⟩:=F2 hN hb (o:=none) hst y0.2.2.2 y1.2.2.2 0
  rw[w1]
  exact⟨_,rfl,fin _ hz w w2⟩
 | some s =>
  rw[ho] at hst fin
  obtain⟨e1,qq,e3⟩:=hst
  have e3:y1.2.2.1=0:=e3
  rw[e3,show ((0:Int)==0)=true from rfl,av,e1]
  rcases yu (N:=N) (by omega) hb qq with⟨v,r,j,q1,q2,q3⟩|⟨q1,c,j,e,v,q2,q3⟩
  ·have hz : cR b ((some s).bind pS) z0 (b, j, (0 : Int), v) := by simp only [Option.bind_some, q1]; exact ⟨rfl, q2, rfl, rfl⟩
   rw[q3,Option.bind_some]
   obtain⟨w,w1,w2⟩:=F2 hN hb hz.st y0.2.2.2 y1.2.2.2 v
   rw[w1]
   exact⟨_,rfl,fin _ hz w w2⟩
  ·have hz : cR b ((some s).bind pS) z0 (c, j, e, v) := by simp only [Option.bind_some, q1]; exact q2
   rw[q3,Option.bind_some]
   obtain⟨w,w1,w2⟩:=F2 hN hb hz.st y0.2.2.2 y1.2.2.2 v
   rw[w1]
   exact⟨_,rfl,fin _ hz w w2⟩
theorem WK {x:Instr} (h:fk x=true):JB x:=by
 obtain⟨a,b,c,_,h1,h2,h3⟩:=FG h
 exact⟨r8 h1,r8 h2,r8 h3⟩
theorem Pb {L:yT} {m:DJ} (h:O3 L m) (d1:m.1.length≤100) (d2:m.2.1.length≤50) (d3:m.2.2.length≤50) (e1:L.len≤1000) (e2:L.FV≤1000) (e3:L.text≤1000) (e4:L.slots≤300):mh m.1 m.2.1 m.2.2:=by
 obtain⟨⟨h1,h2⟩,⟨h3,h4⟩,h5,h6⟩:=h
 refine⟨⟨⟨d1,fun i hi=>?_⟩,d2,fun s hs=>by have:=h4 s hs;omega,d3,fun f hf=>?_⟩,fun f hf=>(h6 f hf).2.2.1⟩
 ·have := h2 _ (rX ty0 hi)
  show (jv m.1 i).2.2.2.length≤1000∧i64 (jv m.1 i).2.2.1
  have this:lg L (jv m.1 i).1 (jv m.1 i).2:=this
  unfold lg at this
  unfold i64
  split at this
  ·have e := this.2
   rw[show (jv m.1 i).2.2=(0,[]) from e]
   exact⟨by simp,by simp⟩
  ·split at this
   ·have e := this.2.1.2
    have e0:=this.2.1.1
    rw[this.2.2]
    exact⟨by simp,by omega,by omega⟩
   ·split at this
    ·have e := this.2.2.1
     rw[this.2.1]
     exact⟨by omega,by decide⟩
    ·rw [this]
     exact⟨by simp,by simp⟩
 ·obtain ⟨g1, g2, g3, g4, ⟨g5, g6⟩, g7, g8⟩ := h6 f hf
  have:=g4.1;have:=g7.1.2
  have:=gy g7.2.1;have:=gy g8.2.1
  exact⟨by omega,by omega,by omega,by omega,fun x hx=>WK (g6 x hx),g7.2.2,g8.2.2⟩
theorem Jd {m:DJ} (h:O3 mE m):mh m.1 m.2.1 m.2.2:=
 Pb h (Nat.le_trans h.1.1 (by decide)) (Nat.le_trans h.2.1.1 (by decide)) (Nat.le_trans h.2.2.1 (by decide)) (by decide) (by decide) (by decide) (by decide)
noncomputable def BY (b:List Int):DJ×Int:=
 match O2 mE b with
 |some x=>if x.2=[]∧cG x.1.1 x.1.2.1 x.1.2.2 then (x.1,0) else (([],[],[]),12)
 |none=>(([],[],[]),12)
theorem Pc (hN:1300<N) (hby:nq b) (hl:b.length≤20000):F17 N b=some ((BY b).1.1,(BY b).1.2.1,(BY b).1.2.2,(BY b).2):=by
 have hb:Fit b:=⟨hby,by omega⟩
 rw[F17.eq_1,cu (show ¬(b.length:Int)>20000 by omega),ai]
 have h:Gu b (some b) z0 b 0 0:=⟨rfl,At.start b,rfl⟩
 obtain⟨y0,h1,h2,h3⟩:=gE (N:=N) (by omega) hb h (m:=32) (by omega)
 rw[show ((32:Nat):Int)=32 from rfl] at h1
 rw[h1,Option.bind_some]
 obtain⟨n,hn⟩:=Int.eq_ofNat_of_zero_le h3.1
 obtain⟨y,g1,g2,g3⟩:=vM (p:=BU mE) (n:=n) (g:=z0) (b:=b) (Lf:=fun k t acc c i e=>f17.lN N k (b,y0.2.2.2,t,acc,c,i,e)) (G:=fun acc c i e=>(b,acc,c,i,e))
  (fun k acc c i e=>by simp only[f17.lN.eq_2,hn,bp,ai])
  (fun k t acc c i e o ht hl hst => by
   obtain⟨u,q1,q2⟩:=WH (N:=N) (by omega) hb hst
   refine⟨u,q2,?_⟩
   simp only[f17.lN.eq_2,hn,bg ht,av,q1,Option.bind_some,az (show acc.length+1≤10000000 by omega) (show 48≤1000 by omega),aj,aE (show t<9223372036854775807 by omega)]) h2.st (k:=N) (by omega)
 rw[g3,Option.bind_some]
 have hc1:=h2.cnt (p:=BU mE) (by rw[hn,Int.toNat_natCast];exact g1)
 simp only
 obtain⟨z0',h4,h5,h6⟩:=gE (N:=N) (by omega) hb hc1.st (m:=32) (by omega)
 rw[show ((32:Nat):Int)=32 from rfl] at h4
 rw[h4,Option.bind_some]
 obtain⟨n2,hn2⟩:=Int.eq_ofNat_of_zero_le h6.1
 obtain⟨z,k1,k2,k3⟩:=vM (p:=ki 64) (n:=n2) (g:=z0) (b:=b) (Lf:=fun k t acc c i e=>f17.mX N k (b,z0'.2.2.2,t,y.2.2.2,acc,c,i,e)) (G:=fun acc c i e=>(b,y.2.2.2,acc,c,i,e))
  (fun k acc c i e=>by simp only[f17.mX.eq_2,hn2,bp,ai])
  (fun k t acc c i e o ht hl hst => by
   obtain⟨u,q1,q2⟩:=F0 (N:=N) (by omega) hb hst (m:=64) (by omega)
   rw[show ((64:Nat):Int)=64 from rfl] at q1
   refine⟨u,q2,?_⟩
   simp only[f17.mX.eq_2,hn2,bg ht,av,q1,Option.bind_some,az (show acc.length+1≤10000000 by omega) (show 16≤1000 by omega),aj,aE (show t<9223372036854775807 by omega)]) h5.st (k:=N) (by omega)
 rw[k3,Option.bind_some]
 have mP:=h5.cnt (p:=ki 64) (by rw[hn2,Int.toNat_natCast];exact k1)
 simp only
 obtain⟨w0,h7,h8,h9⟩:=gE (N:=N) (by omega) hb mP.st (m:=32) (by omega)
 rw[show ((32:Nat):Int)=32 from rfl] at h7
 rw[h7,Option.bind_some]
 obtain⟨n3,hn3⟩:=Int.eq_ofNat_of_zero_le h9.1
 obtain⟨w,l1,l2,l3⟩:=vM (p:=yq mE) (n:=n3) (g:=z0) (b:=b) (Lf:=fun k t acc c i e=>f17.Bt N k (b,w0.2.2.2,t,y.2.2.2,z.2.2.2,acc,c,i,e)) (G:=fun acc c i e=>(b,y.2.2.2,z.2.2.2,acc,c,i,e))
  (fun k acc c i e=>by simp only[f17.Bt.eq_2,hn3,bp,ai])
  (fun k t acc c i e o ht hl hst => by
   obtain⟨u,q1,q2⟩:=Jc (N:=N) (by omega) hb hst
   refine⟨u,q2,?_⟩
   simp only[f17.Bt.eq_2,hn3,bg ht,av,q1,Option.bind_some,az (show acc.length+1≤10000000 by omega) (show 128≤1000 by omega),aj,aE (show t<9223372036854775807 by omega)]) h8.st (k:=N) (by omega)
 rw[l3,Option.bind_some]
 have JP:=h8.cnt (p:=yq mE) (by rw[hn3,Int.toNat_natCast];exact l1)
 have r1:=mP.then (p:=sU 32 (ki 64)) (q:=fun _=>sU 32 (yq mE)) JP
 have r2:=hc1.then (p:=sU 32 (BU mE)) (q:=fun _=>dG (sU 32 (ki 64)) fun _=>sU 32 (yq mE)) r1
 have r2:cR b (O2 mE b) z0 (w.1,w.2.1,w.2.2.1,y.2.2.2,z.2.2.2,w.2.2.2):=r2
 unfold BY
 simp only
 cases hp:O2 mE b with
 |none=>
  rw[hp] at r2
  have he:(w.2.2.1 != (0:Int))=true:=by simpa[z0] using (show ¬w.2.2.1=0 from r2)
  rw[he];rfl
 | some x =>
  rw[hp] at r2
  obtain⟨e1,e2,e3,e4⟩:=r2
  have e3:w.2.2.1=0:=e3
  have e2:At b x.2 w.2.1:=e2
  have hlen:=e2.len
  have hf:=vF (N:=N) hN (Jd ((BW kT.ok).bwd b x.1 x.2 hby hp).1).1
  rw[←e4] at hf
  simp only at hf ⊢
  rw[←e4]
  simp only
  rw[e3,iM,ai]
  by_cases hr:x.2=[]
  ·have : w.2.1 = (b.length : Int) := by rw [hr] at hlen; simpa using hlen.1
   rw[this,show ((b.length:Int) != (b.length:Int))=false by simp,ai,hf,Option.bind_some,Option.bind_some]
   by_cases hfi:cG y.2.2.2 z.2.2.2 w.2.2.2
   ·rw[dc hfi,if_pos ⟨hr,hfi⟩];rfl
   ·rw[cu hfi,if_neg fun h=>hfi h.2];rfl
  ·have : 0 < x.2.length := List.length_pos_iff.2 hr
   rw[show (w.2.1 != (b.length:Int))=true by rw[bne_iff_ne];omega,av,Option.bind_some,av,if_neg fun h=>hr h.1]
end
end Go.Proofs.YthphehfgekjooaaGreatDoor
