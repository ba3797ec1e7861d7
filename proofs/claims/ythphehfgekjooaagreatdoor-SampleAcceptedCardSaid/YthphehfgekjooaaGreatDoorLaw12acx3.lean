/- A part of the proof: Law12acx2, Law12acx3. -/
import Derived.Test.YthphehfgekjooaaGreatDoorLaw12acx
set_option linter.unusedVariables false
set_option linter.unusedSimpArgs false
namespace Go.Proofs.YthphehfgekjooaaGreatDoor
open Go Go.bq Go.Sym
open Classical
section
variable {α β ε : Type} {b:List Int} {g : ε→Prop}
noncomputable def cR (b:List Int) (q:Option (α×List Int)) (g : ε→Prop) (y:List Int×Int×ε×α):Prop:=
 match q with
 |some x=>y.1=b∧At b x.2 y.2.1∧g y.2.2.1∧y.2.2.2=x.1
 |none=>¬g y.2.2.1
noncomputable def Gu (b:List Int) (q:Option (List Int)) (g : ε→Prop) (c:List Int) (i:Int) (e : ε):Prop:=
 match q with
 |some s=>c=b∧At b s i∧g e
 |none=>¬g e
theorem cR.st {q:Option (α×List Int)} {y:List Int×Int×ε×α} (h:cR b q g y):Gu b (q.map (·.2)) g y.1 y.2.1 y.2.2.1:=by
 cases q with
 |none=>exact h
 |some x=>exact⟨h.1,h.2.1,h.2.2.1⟩
theorem cR.map {q:Option (α×List Int)} {y:List Int×Int×ε×α} (h:cR b q g y) (f : α→β):cR b (q.map fun x=>(f x.1,x.2)) g (y.1,y.2.1,y.2.2.1,f y.2.2.2):=by
 cases q with
 |none=>exact h
 |some x=>exact⟨h.1,h.2.1,h.2.2.1,congrArg f h.2.2.2⟩
theorem cR.then {o:Option (List Int)} {p:mD α} {q : α→mD β} {y1:List Int×Int×ε×α} {y2:List Int×Int×ε×β} (h1:cR b (o.bind p) g y1) (h2:cR b (((o.bind p).map (·.2)).bind (q y1.2.2.2)) g y2) :
  cR b (o.bind (dG p q)) g (y2.1,y2.2.1,y2.2.2.1,y1.2.2.2,y2.2.2.2):=by
 cases o with
 |none=>exact h2
 | some s =>
  simp only[Option.bind_some] at h1 h2 ⊢
  unfold dG
  cases hp:p s with
  |none=>rw[hp] at h2;exact h2
  |some x=>
   rw[hp] at h1 h2
   have e:y1.2.2.2=x.1:=h1.2.2.2
   rw[e] at h2
   simp only[Option.map_some,Option.bind_some] at h2 ⊢
   rw[e]
   exact h2.map fun z=>(x.1,z)
theorem cR.cnt {o:Option (List Int)} {p:mD α} {m:Nat} {y1:List Int×Int×ε×Int} {y2:List Int×Int×ε×List α} (h1:cR b (o.bind (pI m)) g y1) (h2:cR b (((o.bind (pI m)).map (·.2)).bind (gv p y1.2.2.2.toNat)) g y2):cR b (o.bind (sU m p)) g y2:=by
 cases o with
 |none=>exact h2
 | some s =>
  simp only[Option.bind_some] at h1 h2 ⊢
  rw[MY]
  cases hp:pI m s with
  |none=>rw[hp] at h2;exact h2
  |some x=>
   rw[hp] at h1 h2
   have e:y1.2.2.2=x.1:=h1.2.2.2
   rw[e] at h2
   exact h2
theorem cR.snoc {o:Option (List Int)} {p:mD α} {t:Nat} {c:List Int} {i:Int} {e : ε} {acc:List α} {y:List Int×Int×ε×α} (h1:cR b (o.bind (gv p t)) g (c,i,e,acc)) (h2:cR b (((o.bind (gv p t)).map (·.2)).bind p) g y) :
  cR b (o.bind (gv p (t+1))) g (y.1,y.2.1,y.2.2.1,acc++[y.2.2.2]):=by
 cases o with
 |none=>exact h2
 | some s =>
  simp only[Option.bind_some,gv] at h1 h2 ⊢
  cases hp:gv p t s with
  |none=>rw[hp] at h2;exact h2
  | some x =>
   rw[hp] at h1 h2
   obtain⟨xs,r⟩:=x
   have e:acc=xs:=h1.2.2.2
   subst e
   simp only[Option.map_some,Option.bind_some] at h2 ⊢
   cases hq:p r with
   |none=>rw[hq] at h2;exact h2
   |some z=>
    rw[hq] at h2
    exact⟨h2.1,h2.2.1,h2.2.2.1,by rw[h2.2.2.2]⟩
theorem vM {p:mD α} {n:Nat} {Lf:Nat→Int→List α→List Int→Int→ε→Option β} {G:List α→List Int→Int→ε→β}
  (h0:∀ k acc c i e,Lf (k+1) (n:Int) acc c i e=some (G acc c i e))
  (hs:∀ k (t:Nat) acc c i e (o:Option (List Int)),t<n→acc.length=t→Gu b o g c i e→∃ y,cR b (o.bind p) g y∧Lf (k+1) (t:Int) acc c i e=Lf k ((t+1:Nat):Int) (acc++[y.2.2.2]) y.1 y.2.1 y.2.2.1)
  {o:Option (List Int)} {c:List Int} {i:Int} {e : ε} (h:Gu b o g c i e) {k:Nat} (hk:n<k) :
  ∃ y:List Int×Int×ε×List α,cR b (o.bind (gv p n)) g y∧y.2.2.2.length=n∧Lf k 0 [] c i e=some (G y.2.2.2 y.1 y.2.1 y.2.2.1):=by
 have key:∀ (m t k:Nat) (acc:List α) (c:List Int) (i:Int) (e : ε),n=t+m→acc.length=t→cR b (o.bind (gv p t)) g (c,i,e,acc)→m<k→
   ∃ y:List Int×Int×ε×List α,cR b (o.bind (gv p n)) g y∧y.2.2.2.length=n∧Lf k (t:Int) acc c i e=some (G y.2.2.2 y.1 y.2.1 y.2.2.1):=by
  intro m
  induction m with
  |zero=>
   intro t k acc c i e hn hl hr hk
   obtain⟨k,rfl⟩:∃ j,k=j+1:=⟨k-1,by omega⟩
   have:n=t:=by omega
   subst this
   exact⟨(c,i,e,acc),hr,hl,h0 k acc c i e⟩
  |succ m ih=>
   intro t k acc c i e hn hl hr hk
   obtain⟨k,rfl⟩:∃ j,k=j+1:=⟨k-1,by omega⟩
   obtain⟨y,g1,g2⟩:=hs k t acc c i e _ (by omega) hl hr.st
   rw[g2]
   exact ih (t+1) k _ _ _ _ (by omega) (by simp[hl]) (hr.snoc g1) (by omega)
 refine key n 0 k [] c i e (by omega) rfl ?_ hk
 cases o with
 |none=>exact h
 |some s=>exact⟨h.1,h.2.1,h.2.2,rfl⟩
end
noncomputable def z0 (e:Int):Prop:=e=0
noncomputable def mE:yT:=⟨32,16,16,8,64,32,32,32,16,16,200⟩
theorem kT:mE.O4:=by
 constructor
 ·constructor<;>decide
 all_goals decide
noncomputable def qg (g:Nat→Nat→Nat):Nat→List (Nat×Nat)→List cI
 |_,[]=>[]
 |w,x :: r=>((g w x.1:Int),(x.2:Int)) :: qg g (g w x.1) r
noncomputable def w9 (g:Nat→Nat→Nat):Nat→List (Nat×Nat)→Nat
 |w,[]=>w
 |w,x :: r=>w9 g (g w x.1) r
theorem D7 (g:Nat→Nat→Nat):∀ (l:List (Nat×Nat)) (w:Nat) (x:Nat×Nat),qg g w (l++[x])=qg g w l++[((g (w9 g w l) x.1:Int),(x.2:Int))]∧w9 g w (l++[x])=g (w9 g w l) x.1
 |[],_,_=>⟨rfl,rfl⟩
 |y :: r,w,x=>by
  obtain⟨h1,h2⟩:=D7 g r (g w y.1) x
  exact⟨by simp only[List.cons_append,qg,w9,h1],by simp only[List.cons_append,w9,h2]⟩
theorem vN (g:Nat→Nat→Nat):∀ (l:List (Nat×Nat)) (w:Nat),(qg g w l).length=l.length
 |[],_=>rfl
 |x :: r,w=>by simp only[qg,List.length_cons,vN g r]
noncomputable def abE (g:Nat→Nat→Nat):Prop:=∀ w b,w<200→g w b=w+b∨(200≤g w b∧200≤w+b)
theorem FZ {g:Nat→Nat→Nat} (hg:abE g):∀ (l:List (Nat×Nat)) (w:Nat),w<200→((∀ x,x∈qg g w l→x.1<200)∨∀ x,x∈nu w l→x.1<200)→qg g w l=nu w l
 |[],_,_,_=>rfl
 | x :: r, w, hw, h => by
  have e:g w x.1=w+x.1∧w+x.1<200:=by
   rcases h with h|h
   ·have := h ((g w x.1 : Int), (x.2 : Int)) List.mem_cons_self
    simp only at this
    rcases hg w x.1 hw with h1|h1<;>omega
   ·have := h (((w + x.1 : Nat) : Int), (x.2 : Int)) List.mem_cons_self
    simp only at this
    rcases hg w x.1 hw with h1|h1<;>omega
  simp only[qg,nu,e.1]
  rw[FZ hg r (w+x.1) e.2 (h.imp (fun h y hy=>h y (by simp only[qg,e.1];exact List.mem_cons_of_mem _ hy)) fun h y hy=>h y (List.mem_cons_of_mem _ hy))]
theorem bO.lt {l:List cI} {n:Int} (h:bO l n):∀ x,x∈l→x.1<n:=fun x hx=>by
 obtain⟨i,hi,rfl⟩:=iX (0,0) hx
 exact h.2.2.2 i hi
theorem O6 {g:Nat→Nat→Nat} (hg:abE g) {l:List (Nat×Nat)} {n:Nat} (hn:n≤200):(bO (qg g 0 l) n↔bO (nu 0 l) n)∧(bO (nu 0 l) n→qg g 0 l=nu 0 l):=by
 have h2:bO (nu 0 l) n→qg g 0 l=nu 0 l:=fun h=>FZ hg l 0 (by omega) (.inr fun x hx=>by have:=h.lt x hx;omega)
 refine⟨⟨fun h=>?_,fun h=>by rw[h2 h];exact h⟩,h2⟩
 rw[←FZ hg l 0 (by omega) (.inl fun x hx=>by have:=h.lt x hx;omega)]
 exact h
section
variable {N:Nat} {b:List Int}
theorem gE (hN:20<N) (hb:Fit b) {o:Option (List Int)} {c:List Int} {i e:Int} (h:Gu b o z0 c i e) {m:Nat} (hm:m≤200000) :
  ∃ y,Gs N (c,i,e,(m:Int))=some y∧cR b (o.bind (pI m)) z0 y∧(0≤y.2.2.2∧y.2.2.2≤m):=by
 rw[Gs.eq_1]
 cases o with
 |none=>
  have he:(e != (0:Int))=true:=by simpa[Gu,z0] using h
  rw[he,av]
  exact⟨_,rfl,h,Int.le_refl _,by simp only;omega⟩
 | some s =>
  obtain⟨rfl,h1,h2⟩:=h
  have h2:e=0:=h2
  subst h2
  rw[iM,ai,iW (by omega)]
  rcases kS hN hb h1 m with⟨n,r,j,g1,g2,g3⟩|⟨g1,c,j,e,g2,g3⟩
  ·have hn := ((BS (by omega)).bwd s n r (h1.Tg hb) g1).1
   rw[g3,Option.bind_some]
   simp only[lP (show n≤9223372036854775807 by omega)]
   refine⟨_,rfl,?_,by simp only;omega,by simp only;omega⟩
   simp only[Option.bind_some,pI,ke,g1,Option.map_some]
   exact⟨rfl,g2,rfl,rfl⟩
  ·rw [g3, Option.bind_some]
   refine⟨_,rfl,?_,by simp only[show ah 0=0 by decide];omega,by simp only[show ah 0=0 by decide];omega⟩
   simp only[Option.bind_some,pI,ke,g1,Option.map_none]
   exact g2
theorem F0 (hN:20<N) (hb:Fit b) {o:Option (List Int)} {c:List Int} {i e:Int} (h:Gu b o z0 c i e) {m:Nat} (hm:m≤200000) :
  ∃ y,Yx N (c,i,e,(m:Int))=some y∧cR b (o.bind (ki m)) z0 y:=by
 rw[Yx.eq_1]
 cases o with
 |none=>
  have he:(e != (0:Int))=true:=by simpa[Gu,z0] using h
  rw[he,av]
  exact⟨_,rfl,h⟩
 | some s =>
  obtain⟨rfl,h1,h2⟩:=h
  have h2:e=0:=h2
  subst h2
  rw[iM,ai]
  rcases O5 hN hb h1 hm with⟨v,r,j,g1,g2,g3⟩|⟨g1,c,j,e,v,g2,g3⟩
  ·rw [g3, Option.bind_some]
   exact⟨_,rfl,by simp only[Option.bind_some,g1];exact⟨rfl,g2,rfl,rfl⟩⟩
  ·rw [g3, Option.bind_some]
   exact⟨_,rfl,by simp only[Option.bind_some,g1];exact g2⟩
theorem D8 (hN:300<N) (hb:Fit b) {o:Option (List Int)} {c:List Int} {i e:Int} (h:Gu b o z0 c i e) {m:Nat} (hm:m≤200) :
  ∃ y,VZ N (c,i,e,(m:Int))=some y∧cR b (o.bind (ld 16 32 m)) z0 y:=by
 rw[VZ.eq_1]
 obtain⟨y0,h1,h2,h3⟩:=gE (N:=N) (by omega) hb h (m:=m) (by omega)
 rw[h1,Option.bind_some]
 obtain⟨n,hn⟩:=Int.eq_ofNat_of_zero_le h3.1
 obtain⟨y,g1,g2,g3⟩:=vM (p:=Lz 16 32) (n:=n) (g:=z0) (b:=b) (Lf:=fun k t acc c i e=>f63.cB N k (acc,y0.2.2.2,t,c,i,e)) (G:=fun acc c i e=>(acc,c,i,e))
  (fun k acc c i e=>by simp only[f63.cB.eq_2,hn,bp,ai])
  (fun k t acc c i e o ht hl hst => by
   obtain⟨u,q1,q2⟩:=F0 (N:=N) (by omega) hb hst (m:=16) (by omega)
   obtain⟨v,q3,q4,_⟩:=gE (N:=N) (by omega) hb q2.st (m:=32) (by omega)
   refine⟨_,q2.then q4,?_⟩
   rw[show ((16:Nat):Int)=16 from rfl] at q1
   rw[show ((32:Nat):Int)=32 from rfl] at q3
   simp only[f63.cB.eq_2,hn,bg ht,av,q1,q3,Option.bind_some,az (show acc.length+1≤10000000 by omega) (show 24≤1000 by omega),aj,aE (show t<9223372036854775807 by omega)]) h2.st (k:=N) (by omega)
 rw[g3,Option.bind_some]
 exact⟨_,rfl,h2.cnt (by rw[hn,Int.toNat_natCast];exact g1)⟩
theorem WH (hN:300<N) (hb:Fit b) {o:Option (List Int)} {c:List Int} {i e:Int} (h:Gu b o z0 c i e) :
  ∃ y,F34 N (c,i,e)=some y∧cR b (o.bind (BU mE)) z0 y:=by
 rw[F34.eq_1]
 cases o with
 |none=>
  have he:(e==(0:Int))=false:=by simpa[Gu,z0] using h
  rw[he,ai,show ((0:Int)==7)=false from rfl,ai]
  exact⟨_,rfl,h⟩
 | some s =>
  obtain⟨rfl,h1,h2⟩:=h
  have h2:e=0:=h2
  subst h2
  rw[show ((0:Int)==0)=true from rfl,av]
  rcases LF (N:=N) (by omega) hb h1 with⟨v,r,j,g1,g2,g3⟩|⟨g1,c,j,e,g2,g3⟩
  ·cases s with
   |nil=>cases g1
   | cons x r =>
    injection g1 with g1;injection g1 with g4 g5;subst g4 g5
    have hx:=h1.Tg hb x List.mem_cons_self
    rw[g3,Option.bind_some]
    simp only[Z1 (show 0≤x∧x≤255 by omega),jW,Option.bind_some]
    have hst:Gu c (some r) z0 c j 0:=⟨rfl,g2,rfl⟩
    have ht:BU mE (x :: r)=(I4 mE x r).map fun z=>((x,z.1),z.2):=rfl
    rw[ht]
    unfold I4
    by_cases hk:x=4∨x=7
    ·have e1 : (x == (4 : Int) || x == (7 : Int)) = true := by simpa using hk
     obtain⟨u,q1,q2,_⟩:=gE (N:=N) (by omega) hb hst (m:=32) (by omega)
     rw[show ((32:Nat):Int)=32 from rfl] at q1
     rw[e1,av,q1,Option.bind_some,if_pos hk]
     exact⟨_,rfl,(q2.map fun v=>(v,(0:Int),([]:List Field))).map fun z=>(x,z)⟩
    ·have e1 : (x == (4 : Int) || x == (7 : Int)) = false := by simpa using hk
     rw[e1,ai,if_neg hk]
     by_cases h6:x=6
     ·have e2 : (x == (6 : Int)) = true := by simpa using h6
      obtain⟨u,q1,q2,_⟩:=gE (N:=N) (by omega) hb hst (m:=32) (by omega)
      obtain⟨v,q3,q4,_⟩:=gE (N:=N) (by omega) hb q2.st (m:=16) (by omega)
      rw[show ((32:Nat):Int)=32 from rfl] at q1
      rw[show ((16:Nat):Int)=16 from rfl] at q3
      rw[e2,av,q1,Option.bind_some,q3,Option.bind_some,if_pos h6]
      have:=q2.then (p:=pI 32) (q:=fun _=>pI 16) q4
      exact⟨_,rfl,(this.map fun v=>(v.1,v.2,([]:List Field))).map fun z=>(x,z)⟩
     ·have e2 : (x == (6 : Int)) = false := by simpa using h6
      rw[e2,ai,if_neg h6]
      by_cases h5:x=5
      ·have e3 : (x == (5 : Int)) = true := by simpa using h5
       obtain⟨u,q1,q2⟩:=D8 (N:=N) (by omega) hb hst (m:=8) (by omega)
       rw[show ((8:Nat):Int)=8 from rfl] at q1
       rw[e3,av,q1,Option.bind_some,if_pos h5]
       exact⟨_,rfl,(q2.map fun v=>((0:Int),(0:Int),v)).map fun z=>(x,z)⟩
      ·have e3 : (x == (5 : Int)) = false := by simpa using h5
       rw[e3,ai,if_neg h5]
       exact⟨_,rfl,rfl,g2,rfl,rfl⟩
  ·rw [g3, Option.bind_some]
   simp only[show JA 0=0 by decide,jW,Option.bind_some,show ((0:Int)==(4:Int)||(0:Int)==(7:Int))=false from rfl,ai,show ((0:Int)==(6:Int))=false from rfl,show ((0:Int)==(5:Int))=false from rfl]
   refine⟨_,rfl,?_⟩
   cases s with
   |nil=>exact g2
   |cons x r=>cases g1
noncomputable def opD (N:Nat) (s:Bool) (c:List Int) (i:Int):Option (List Int×Int×Int×Int):=
 bif s then zn N (c,i) else (vz N (c,i,18446744073709551615)).map fun y=>(y.1,y.2.1,ah (min y.2.2.1 1048576),y.2.2.2)
theorem abF (hN:20<N) (hb:Fit b) {s:List Int} {i:Int} (h:At b s i) {a:UInt8} (ha:a≠45) :
  (∃ v r j,PJ a s=some (v,r)∧At b r j∧opD N (JC a) b i=some (b,j,v,0))∨(PJ a s=none∧∃ c j e v,(e != (0:Int))=true∧opD N (JC a) b i=some (c,j,v,e)):=by
 unfold opD PJ
 rw[if_neg ha]
 cases hs:JC a with
 |true=>
  rw[av,if_pos rfl]
  rcases yu hN hb h with h1|⟨h1,c,j,e,v,h2,h3⟩
  ·exact .inl h1
  ·exact .inr ⟨h1,c,j,e,v,by simpa using h2,h3⟩
 | false =>
  rw[ai,if_neg (by decide)]
  have JL:=w8 s (h.Tg hb)
  rcases kS hN hb h 18446744073709551615 with⟨n,r,j,g1,g2,g3⟩|⟨g1,c,j,e,g2,g3⟩
  ·rw [JL] at g1
   rw[show ((18446744073709551615:Nat):Int)=18446744073709551615 from rfl] at g3
   refine .inl ⟨min (n:Int) 1048576,r,j,by simp only[ke,g1,Option.map_some],g2,?_⟩
   rw[g3,Option.map_some]
   simp only[bn (show -9223372036854775808≤min (n:Int) 1048576∧min (n:Int) 1048576≤9223372036854775807 by omega)]
  ·rw [JL] at g1
   rw[show ((18446744073709551615:Nat):Int)=18446744073709551615 from rfl] at g3
   exact .inr ⟨by simp only[ke,g1,Option.map_none],c,j,e,_,by simpa using g2,by rw[g3];rfl⟩
theorem M4 (hb:Fit b) {s:List Int} {i:Int} (h:At b s i):KW N (b,i)=some ((s.length:Int),0):=by
 have hl:=hb.2
 have hr:=h.len
 rw[KW.eq_1,vL hb h,Option.bind_some,iM,ai,bn (by omega)]
 congr 2;omega
end
end Go.Proofs.YthphehfgekjooaaGreatDoor
namespace Go.Proofs.YthphehfgekjooaaGreatDoor
open Go Go.bq Go.Sym
open Classical
section
variable {N:Nat} {b:List Int}
noncomputable def O7 (b:List Int) (q:Option (Instr×List Int)) (t:Option (List Int×Int×Int×Int×Int×Int×Int)):Prop:=
 match q with
 |some x=>∃ j,At b x.2 j∧t=some (b,j,x.1.1,x.1.2.1,x.1.2.2.1,x.1.2.2.2,0)
 |none=>∃ c j x y z w e,(e != (0:Int))=true∧t=some (c,j,x,y,z,w,e)
theorem abG {β : Type} (s:Bool) (u v:Option (List Int×Int×Int×Int)) {K1 K2:List Int×Int×Int×Int→Option β} (hK:∀ c j m e,K2 (c,j,m,e)=K1 (c,j,ah (min m 1048576),e)) :
  (bif s then Option.bind u K1 else Option.bind v K2)=Option.bind (bif s then u else v.map fun y=>(y.1,y.2.1,ah (min y.2.2.1 1048576),y.2.2.2)) K1:=by
 cases s with
 |true=>rfl
 | false =>
  cases v with
  |none=>rfl
  |some y=>
   obtain⟨c,j,m,e⟩:=y
   exact hK c j m e
theorem xb (hN:20<N) (hb:Fit b) {s:List Int} {i:Int} (h:At b s i) {a:UInt8} (ha:a≠45) {S:Int×List Int→Option (Instr×List Int)} {K1 K2:List Int×Int×Int×Int→Option (List Int×Int×Int×Int×Int×Int×Int)}
  (hK:∀ c j m e,K2 (c,j,m,e)=K1 (c,j,ah (min m 1048576),e)) (hf:∀ c j v e,(e != (0:Int))=true→O7 b none (K1 (c,j,v,e))) (hk:∀ v r j,At b r j→O7 b (S (v,r)) (K1 (b,j,v,0))) :
  O7 b ((PJ a s).bind S) (bif JC a then Option.bind (zn N (b,i)) K1 else Option.bind (vz N (b,i,18446744073709551615)) K2):=by
 have hd:=abF hN hb h ha
 unfold opD at hd
 rw[abG _ _ _ hK]
 rcases hd with⟨v,r,j,g1,g2,g3⟩|⟨g1,c,j,e,v,g2,g3⟩
 ·rw[g1,g3];exact hk v r j g2
 ·rw[g1,g3];exact hf c j v e g2
theorem vO {e:Int} (he:(e != (0:Int))=true):O7 b none (some (([]:List Int),(0:Int),(0:Int),(0:Int),(0:Int),(0:Int),e)):=⟨[],0,0,0,0,0,e,he,rfl⟩
theorem WI {op x y z:Int} {r:List Int} {j:Int} (hj:At b r j):O7 b (if fk (op,x,y,z)=true then some ((op,x,y,z),r) else none)
  (Option.bind (yO N (op,x,y,z)) fun q=>bif q != (0:Int) then some (([]:List Int),(0:Int),(0:Int),(0:Int),(0:Int),(0:Int),(12:Int)) else some (b,j,op,x,y,z,(0:Int))):=by
 have:=oP N (op,x,y,z)
 simp only at this
 rw[this,Option.bind_some]
 cases hc:fk (op,x,y,z) with
 |true=>rw[if_pos rfl,av,iM,ai];exact⟨j,hj,rfl⟩
 |false=>rw[if_neg (by decide),ai];exact vO rfl
theorem Ti (hN:20<N) (hb:Fit b) {s:List Int} {i:Int} (h:At b s i):O7 b (nZ s) (F66 N (b,i)):=by
 have hl:=hb.2
 rw[F66.eq_1,M4 hb h,Option.bind_some]
 simp only[iM,ai,gM.eq_1,Option.bind_some]
 cases s with
 |nil=>exact vO rfl
 | cons op r0 =>
  have hr:=h.len
  simp only[List.length_cons] at hr
  rw[show (((op :: r0).length:Int)==0)=false by rw[beq_eq_false_iff_ne,List.length_cons];omega,ai,h.idx,Option.bind_some,p5,Option.bind_some,bn (n:=i+1) (by omega)]
  have qq:=h.next
  simp only[nZ]
  cases hs:Gt op with
  |none=>exact vO rfl
  | some abc =>
   obtain⟨a,a2,a3⟩:=abc
   simp only[Se,ai,FE]
   have d01:decide ((0:Int)<1)=true:=rfl
   have d02:decide ((0:Int)<2)=true:=rfl
   have d03:decide ((0:Int)<3)=true:=rfl
   have d12:decide ((1:Int)<2)=true:=rfl
   have d13:decide ((1:Int)<3)=true:=rfl
   have d23:decide ((2:Int)<3)=true:=rfl
   have d00:decide ((0:Int)<0)=false:=rfl
   have d11:decide ((1:Int)<1)=false:=rfl
   have d22:decide ((2:Int)<2)=false:=rfl
   have d33:decide ((3:Int)<3)=false:=rfl
   have p45:∀ r:List Int,PJ 45 r=some (0,r):=fun _=>rfl
   rcases MN (IE hs) with⟨rfl,rfl,rfl⟩|⟨ha,rfl,rfl⟩|⟨ha,Q4,rfl⟩|⟨ha,Q4,ha3⟩
   ·simp only [show cnt 45 45 45 = 0 from rfl, d00, ai, p45]
    exact WI qq
   ·simp only [show cnt a 45 45 = 1 by simp [cnt, ha], d01, d11, av, ai, p45]
    refine xb hN hb qq ha ?_ (fun c j v e he=>?_) fun v r j hj=>?_
    ·exact fun _ _ _ _=>rfl
    ·simp only[he,av];exact vO he
    ·simp only[iM,ai];exact WI hj
   ·simp only [show cnt a a2 45 = 2 by simp [cnt, Q4], d02, d12, d22, av, ai, p45]
    refine xb hN hb qq ha ?_ (fun c j v e he=>?_) fun v r j hj=>?_
    ·exact fun _ _ _ _=>rfl
    ·simp only[he,av];exact vO he
    ·simp only [iM, ai]
     refine xb hN hb hj Q4 ?_ (fun c j v e he=>?_) fun v r j hj=>?_
     ·exact fun _ _ _ _=>rfl
     ·simp only[he,av];exact vO he
     ·simp only[iM,ai];exact WI hj
   ·simp only [show cnt a a2 a3 = 3 by simp [cnt, ha3], d03, d13, d23, d33, av, ai]
    refine xb hN hb qq ha ?_ (fun c j v e he=>?_) fun v r j hj=>?_
    ·exact fun _ _ _ _=>rfl
    ·simp only[he,av];exact vO he
    ·simp only [iM, ai]
     refine xb hN hb hj Q4 ?_ (fun c j v e he=>?_) fun v r j hj=>?_
     ·exact fun _ _ _ _=>rfl
     ·simp only[he,av];exact vO he
     ·simp only [iM, ai]
      refine xb hN hb hj ha3 ?_ (fun c j v e he=>?_) fun v r j hj=>?_
      ·exact fun _ _ _ _=>rfl
      ·simp only[he,av];exact vO he
      ·simp only[iM,ai];exact WI hj
end
end Go.Proofs.YthphehfgekjooaaGreatDoor
