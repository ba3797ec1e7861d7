/- The machine over typed data: regions, code, loops, functions. -/
import Derived.Test.YtokjmkblnafppaaGreatDoorSymJ
import Derived.Test.YtokjmkblnafppaaGreatDoorSymGM
set_option linter.unusedVariables false
set_option linter.unusedSimpArgs false
namespace Go.Sym
open Go Go.bI
section
variable {Fs:Tb} {E:aA} {wk:Wk} {α : Type} {ρ : bG} {nx rem p:Nat} {os:List (Tr AV)} {s2:S2} {s:St} {ctx row d:Nat} {K:gi→Option α} {r : α}
theorem D3 (hwk:IF Fs wk) (hE:aC Fs E) (hi:RI ρ nx (rem+1) os s2 s p) {op:bM} (h:bP E wk ctx s2 row d nx op K=some r) :
  ∃ r2 e,(∃ n0,∀ n,n0≤n→op.run (ig Fs n) (yu Fs) s row d p=some e)∧nU ρ nx os s2 s r2 e∧K r2=some r:=by
 have eE : ρ nx=some p:=by simpa using hi.xV 0 (by omega)
 have hm:=hi.mem
 have ht:=hi.aE
 have bV:=hi.slots
 have hB:nx≤nx:=Nat.le_refl _
 have xA:nx≤nx+1:=by omega
 have hinj:=hi.af.inj
 have conv:dx ρ nx (nx+1) s2 s op row d p K r→∃ r2 e,(∃ n0,∀ n,n0≤n→op.run (ig Fs n) (yu Fs) s row d p=some e)∧nU ρ nx os s2 s r2 e∧K r2=some r:=by
  rintro⟨E',e,h1,h2,h3⟩
  exact⟨.bS E',.bS e,⟨0,fun n _=>h1 _ _⟩,h2,h3⟩
 cases op with
 |ED x=>exact conv (NZ hm ht bV hB eE h)
 |compact x=>exact conv (DZ hm ht bV hB eE h)
 |pick c a b=>exact conv (LG hm ht bV xA h)
 |alloc z=>exact conv (Iz hm ht hB eE h)
 |box x=>exact conv (NY hm ht bV hB eE h)
 |build z ps=>exact conv (Iv hm ht bV xA h)
 |buildSlice sz n z ps=>exact conv (xU hm ht bV hB eE h)
 |load sz agg x=>exact conv (LP hm ht bV hB h)
 |store sz x v=>exact conv (IA hm ht bV hB h)
 |nilCheck x=>exact conv (BD hm ht bV xA h)
 |bin op x y=>exact conv (NU hm ht bV xA h)
 |QT neg x y=>exact conv (NV hm ht bV xA h)
 |QU neg sz l x y=>exact conv (NW hm ht bV xA h)
 |un op x=>exact conv (RN hm ht bV xA h)
 |conv k x=>exact conv (LI hm ht bV xA h)
 |field off sz agg x=>exact conv (Iy hm ht bV xA h)
 |fieldAddr off x=>exact conv (Ad hm ht bV xA h)
 |indexAddr sz x i=>exact conv (Af hm ht bV xA h)
 |jE n sz x i=>exact conv (BE hm ht bV xA h)
 |n8 n sz agg x i=>exact conv (FO hm ht bV xA h)
 |n9 x i=>exact conv (FQ hm ht bV xA h)
 |slice sz x lo hi mx=>exact conv (IB hm ht bV hB eE h)
 |oa x lo hi=>exact conv (FR hm ht bV xA h)
 |extract x i=>exact conv (DV hm ht bV xA h)
 |len x=>exact conv (NX hm ht bV xA h)
 |C9 x=>exact conv (LL hm ht bV xA h)
 |EE x=>exact conv (LK hm ht bV xA h)
 |Bv n=>exact conv (LM hm ht xA h)
 |Da x y=>exact conv (LN hm ht bV xA h)
 |Db x y=>exact conv (LO hm ht bV xA h)
 |append sz bytes x y=>exact conv (FV hm ht bV hB eE hinj h)
 |mK sz bytes z x n=>exact conv (DY hm ht bV hB eE hinj h)
 |clone sz bytes x=>exact conv (IC hm ht bV hB eE hinj h)
 |sort x=>exact conv (LU hm ht bV hB h)
 |copy sz x y=>exact conv (LR hm ht bV hB h)
 |makeSlice sz bytes z l c=>exact conv (Aj hm ht bV hB eE h)
 |makeFunc f cap=>exact conv (BF hm ht bV xA h)
 |clear sz z x=>exact conv (ID hm ht bV hB h)
 |grow sz x n=>exact conv (LV hm ht bV hB eE h)
 | call f args =>
  simp only[bP] at h
  split at h
  ·rename_i h7 h8 h9 h10
   obtain⟨vs,hv,h⟩:=au h
   obtain⟨r2,e,⟨n0,h1⟩,h2,h3⟩:=Ap hwk hE hi (by omega) h (oJ bV hv)
   exact⟨r2,e,⟨n0,fun n hn=>by simp only[bM.run,h7,h8,h9,h10];exact h1 n hn⟩,h2,h3⟩
  ·rename_i h7 h8 h9
   obtain⟨vs,hv,h⟩:=au h
   obtain⟨r2,e,⟨n0,h1⟩,h2,h3⟩:=N9 hE hi h (oJ bV hv)
   exact⟨r2,e,⟨n0,fun n hn=>by simp only[bM.run,h7,h8,h9];exact h1 n hn⟩,h2,h3⟩
  ·cases h
 | tB f args =>
  simp only[bP] at h
  obtain⟨vs,hv,h⟩:=au h
  have hse:E.sh f=yu Fs f:=by simp only[aA.sh,yu,hE.fns]
  rw[hse] at h
  cases Ub:yu Fs f with
  |true=>
   rw[Ub] at h
   obtain⟨r2,e,⟨n0,h1⟩,h2,h3⟩:=Ap hwk hE hi (by omega) h (oJ bV hv)
   refine⟨r2,e,⟨n0,fun n hn=>?_⟩,h2,h3⟩
   have:=h1 n hn
   rw[Ub] at this
   simp only[bM.run,Ub,this]
  |false=>
   rw[Ub] at h
   obtain⟨r2,e,⟨n0,h1⟩,h2,h3⟩:=L3 hE hi h (oJ bV hv)
   exact⟨r2,e,⟨n0,fun n hn=>by simp only[bM.run,Ub,h1 n hn]⟩,h2,h3⟩
 | yS x args =>
  simp only[bP] at h
  split at h
  ·rename_i f cap hx
   obtain⟨vs,hv,h⟩:=au h
   obtain⟨aK,he,hc⟩:=bg bV hx
   have hc:az (RV ρ nx s2.mem) (cap.map .c) aK:=by
    have:∀ {cs:List Cell} {aK:List AV},az (RC ρ nx s2.mem) cs aK→az (RV ρ nx s2.mem) (cs.map .c) aK:=by
     intro cs
     induction cs with
     |nil=>intro aK h;match aK,h with|[],_=>trivial
     |cons c cs ih=>intro aK h;match aK,h with|a :: aK,h=>exact⟨h.1,ih h.2⟩
    exact this hc
   obtain⟨r2,e,⟨n0,h1⟩,h2,h3⟩:=Ap hwk hE hi (by omega) h ((oJ bV hv).append hc)
   exact⟨r2,e,⟨n0,fun n hn=>by simp only[bM.run,he];exact h1 n hn⟩,h2,h3⟩
  ·cases h
 |sliceB n sz x=>exact conv (FT hm ht bV xA h)
 |TY x=>exact conv (Oe hm ht bV hB h)
 |TZ x=>exact conv (Of hm ht bV hB h)
 |mkSet=>exact conv (IJ hm ht hB eE h)
 |EF x y=>exact conv (L4 hm ht bV hB h)
 |EG x y=>exact conv (L5 hm ht bV hB h)
 |wo neg x=>exact conv (Ix hm ht bV xA h)
 |pP lo n sz x=>exact conv (FN hm ht bV xA h)
 |bad=>simp[bP] at h
theorem RI.Og (hi:RI ρ nx rem os s2 s p) {g:Nat} {t:Bool} (hg:jC s.slots g=.d (.sc (.bool t))):RI ρ nx rem os { s2 with slots:=s2.slots.set g (some (.c (.bool t))) } s p:=by
 refine⟨fun k v hk=>?_,hi.outer,hi.mem,hi.aE,hi.af,hi.xV,hi.nv,hi.pn⟩
 simp only at hk
 rw[Tr.cr] at hk
 split at hk
 ·rename_i e; subst e
  injection hk with hk;subst hk
  exact hg
 ·exact hi.slots k v hk
theorem Gg (hwk:IF Fs wk) (hE:aC Fs E) (hi:RI ρ nx (rem+1) os s2 s p) {o:bA} {K:S2→gi→Option α} (h:step2 E wk ctx s2 nx o K=some r) :
  ∃ s2' r2 e,(∃ n0,∀ n,n0≤n→o.step (ig Fs n) (yu Fs) s p=some e)∧RI ρ nx (rem+1) os s2' s p∧nU ρ nx os s2' s r2 e∧K s2' r2=some r:=by
 have skip:∀ {s2'},RI ρ nx (rem+1) os s2' s p→nU ρ nx os s2' s (jP (.gZ [])) (.bS { val:=jr,cK:=[],cx:=[],rd:=[] }):=fun hi'=>
  mj.vD hi'.mem hi'.aE (by omega) kX aU.nil
 unfold step2 at h
 split at h
 ·rename_i hg
  obtain⟨r2,e,⟨n0,h1⟩,h2,h3⟩:=D3 hwk hE hi h
  refine⟨s2,r2,e,⟨n0,fun n hn=>?_⟩,hi,h2,h3⟩
  simp only[bA.step,jl,hg]
  exact h1 n hn
 ·rename_i g b hg
  split at h
  ·rename_i t ht
   have hv:jC s.slots g=.d (.sc (.bool t)):=hi.slots g _ ht
   have hi':=hi.Og hv
   cases t with
   | true =>
    simp only[cond_true] at h
    cases b with
    |true=>
     obtain⟨r2,e,⟨n0,h1⟩,h2,h3⟩:=D3 hwk hE hi' h
     refine⟨_,r2,e,⟨n0,fun n hn=>?_⟩,hi',h2,h3⟩
     simp only[bA.step,jl,hg,hv,beq_self_eq_true]
     exact h1 n hn
    |false=>
     refine⟨_,_,_,⟨0,fun n _=>?_⟩,hi',skip hi',h⟩
     simp only[bA.step,jl,hg,hv]
     rfl
   | false =>
    simp only[cond_false] at h
    cases b with
    |true=>
     refine⟨_,_,_,⟨0,fun n _=>?_⟩,hi',skip hi',h⟩
     simp only[bA.step,jl,hg,hv]
     rfl
    |false=>
     obtain⟨r2,e,⟨n0,h1⟩,h2,h3⟩:=D3 hwk hE hi' h
     refine⟨_,r2,e,⟨n0,fun n hn=>?_⟩,hi',h2,h3⟩
     simp only[bA.step,jl,hg,hv,beq_self_eq_true]
     exact h1 n hn
  ·rename_i ht
   obtain⟨aK,hv,_⟩:=hi.slots g _ ht
   refine⟨_,_,_,⟨0,fun n _=>?_⟩,hi,skip hi,h⟩
   simp only[bA.step,jl,hg,hv]
   rfl
  ·cases h
theorem Kk {B:Nat} {m:List (Tr E2)} {t:Tr V2} {o:Tr AV} (h:tw ρ B m t o) {v:V2} {a:AV} (hv:RV ρ B m v a) (dst:Option Nat):tw ρ B m (Rz t dst v) (tC o dst a):=by
 cases dst with
 |none=>exact h
 | some n =>
  intro k w hk
  simp only[Rz] at hk
  simp only[tC,jC]
  rw[Tr.cr] at hk ⊢
  split at hk
  ·rename_i e; subst e
   injection hk with hk;subst hk
   simpa using hv
  ·rename_i hne
   rw[if_neg hne]
   exact h k w hk
theorem RI.bS (hi:RI ρ nx (rem+1) os s2 s p) {E':DK} {e:eX} (h:mj ρ nx (nx+1) s2 s E' e) (dst:Option Nat):RI ρ (nx+1) rem os (s2.app dst (.bS E')) (s.app dst (.bS e)) (p+1):=by
 refine⟨?_,?_,h.mem,h.aE,hi.af,fun j hj=>?_,?_,?_⟩
 ·exact Kk (hi.slots.move h.Z4 (by omega) fun _ _=>rfl) h.val dst
 ·exact gO h.Z4 (by omega) (fun _ _=>rfl) hi.outer
 ·have := hi.xV (j + 1) (by omega)
  rw[show nx+1+j=nx+(j+1) from by omega,this]
  congr 1
  omega
 ·have := hi.nv
  show nx+1+rem=s2.nv
  omega
 ·have := hi.pn
  show p+1+rem≤s.nv
  omega
theorem RI.all (hi:RI ρ nx (rem+1) os s2 s p) {v:V2} {t2:S2} {a:AV} {m:List (Tr bH)} {t:Tr Unit} {n:Nat} (h:nU ρ nx os s2 s (.all v t2) (.all a m t n)) (dst:Option Nat) :
  ∃ ρ',RI ρ' t2.nv rem os { t2.app dst (.all v t2) with nv:=t2.nv+rem } (s.app dst (.all a m t n)) (p+1)∧Fr ρ (nx+1) s.nv ρ' t2.nv∧s.nv≤n:=by
 obtain⟨ρ1,hs,hv,hf,hn⟩:=h
 have hpn:=hi.pn
 have yl:=hi.nv
 let ρ':bG:=fun v=>if v<t2.nv then ρ1 v else if v<t2.nv+rem then some (p+1+(v-t2.nv)) else some (n+(v-(t2.nv+rem)))
 have e1:∀ v,v<t2.nv→ρ' v = ρ1 v:=fun v h=>if_pos h
 have e2:∀ v,t2.nv≤v→v<t2.nv+rem→ρ' v=some (p+1+(v-t2.nv)):=fun v h h'=>by
  show (if v<t2.nv then _ else _)=_
  rw[if_neg (by omega),if_pos h']
 have e3:∀ v,t2.nv+rem≤v→ρ' v=some (n+(v-(t2.nv+rem))):=fun v h=>by
  show (if v<t2.nv then _ else _)=_
  rw[if_neg (by omega),if_neg (by omega)]
 have apart:∀ v u,v<t2.nv→ρ1 v=some u→u<p+1∨p+1+rem≤u:=by
  intro v u hv hu
  rcases hf v u hv hu with⟨w,hw,Aq⟩|h'
  ·rcases Nat.lt_or_ge u (p + 1) with h1 | h1
   ·exact .inl h1
   ·rcases Nat.lt_or_ge u (p + 1 + rem) with h2 | h2
    ·exfalso
     have:=hi.xV (u-p) (by omega)
     rw[show p+(u-p)=u from by omega] at this
     have:=hi.af.inj _ _ _ Aq this
     omega
    ·exact .inr h2
  ·exact .inr (by omega)
 refine⟨ρ',⟨?_,?_,?_,?_,?_,fun j hj=>?_,rfl,?_⟩,?_,hn⟩
 ·exact Kk (hs.slots.move (eg.refl _ _) (Nat.le_refl _) e1) (hv.move (eg.refl _ _) (Nat.le_refl _) e1) dst
 ·exact gO (eg.refl _ _) (Nat.le_refl _) e1 hs.outer
 ·exact hs.mem.ren e1
 ·intro v hv
  obtain⟨h1,h2⟩:=hs.aE v hv
  exact⟨h1,fun u hu=>h2 u (by rw[←e1 v h1];exact hu)⟩
 ·refine ⟨fun v u hv hu => ?_, fun v hv => e3 v hv, fun v v' u hu dw => ?_⟩
  ·have hv : v < t2.nv + rem := hv
   show u<n
   rcases Nat.lt_or_ge v t2.nv with h1|h1
   ·rw [e1 v h1] at hu
    exact hs.af.low v u h1 hu
   ·rw [e2 v h1 hv] at hu
    injection hu with hu
    omega
  ·rcases Nat.lt_or_ge v t2.nv with h1 | h1
   ·rw [e1 v h1] at hu
    have mb:=hs.af.low v u h1 hu
    have hap:=apart v u h1 hu
    rcases Nat.lt_or_ge v' t2.nv with h2|h2
    ·rw [e1 v' h2] at dw
     exact hs.af.inj v v' u hu dw
    ·rcases Nat.lt_or_ge v' (t2.nv + rem) with h3 | h3
     ·rw[e2 v' h2 h3] at dw;injection dw with dw;omega
     ·rw [e3 v' h3] at dw; injection dw with dw
      have:u<n:=mb
      omega
   ·rcases Nat.lt_or_ge v (t2.nv + rem) with h3 | h3
    ·rw [e2 v h1 h3] at hu; injection hu with hu
     rcases Nat.lt_or_ge v' t2.nv with h2|h2
     ·rw [e1 v' h2] at dw
      have hap:=apart v' u h2 dw
      omega
     ·rcases Nat.lt_or_ge v' (t2.nv + rem) with h4 | h4
      ·rw[e2 v' h2 h4] at dw;injection dw with dw;omega
      ·rw[e3 v' h4] at dw;injection dw with dw;omega
    ·rw [e3 v h3] at hu; injection hu with hu
     rcases Nat.lt_or_ge v' t2.nv with h2|h2
     ·rw [e1 v' h2] at dw
      have:u<n:=hs.af.low v' u h2 dw
      omega
     ·rcases Nat.lt_or_ge v' (t2.nv + rem) with h4 | h4
      ·rw[e2 v' h2 h4] at dw;injection dw with dw;omega
      ·rw[e3 v' h4] at dw;injection dw with dw;omega
 ·rw [e2 _ (by omega) (by omega)]
  congr 1
  omega
 ·show p + 1 + rem ≤ n
  omega
 ·intro v u hv hu
  rw[e1 v hv] at hu
  exact hf v u hv hu
theorem RI.done (hi:RI ρ nx 0 os s2 s p):xq ρ os s2 s:=by
 have:nx=s2.nv:=hi.nv
 subst this
 exact⟨hi.slots,hi.outer,hi.mem,hi.aE,hi.af,Nat.le_refl _⟩
def Oh (ρ : bG) (nx:Nat) (os:List (Tr AV)) (lo n:Nat) (K:S2→Option α) (r : α) (s':St):Prop:=
 ∃ ρ' s2',xq ρ' os s2' s'∧Fr ρ nx lo ρ' s2'.nv∧n≤s'.nv∧K s2'=some r
theorem sV (hwk : IF Fs wk) (hE : aC Fs E) {K : S2 → Option α} {lg lo : Nat} : ∀ {ops : List bA} {i nx : Nat} {ρ : bG} {s2 : S2} {s : St}, uC E wk ctx nx ops s2 K = some r → RI ρ nx ops.length os s2 s (lg + i) → lo ≤ lg →
  ∃ s',(∃ n0,∀ n,n0≤n→jK (ig Fs n) (yu Fs) lg i ops s=some s')∧Oh ρ nx os lo s.nv K r s'
 | [], i, nx, ρ, s2, s, h, hi, _ => ⟨s, ⟨0, fun _ _ => rfl⟩, ρ, s2, hi.done, by
   have:nx=s2.nv:=hi.nv
   subst this
   exact Fr.refl _ _ _,Nat.le_refl _,h⟩
 | o :: ops, i, nx, ρ, s2, s, h, hi, hlo => by
  simp only[uC] at h
  obtain⟨s2',r2,e,⟨n0,h1⟩,h2,h3,h4⟩:=Gg hwk hE hi h
  cases r2 with
  | bS E' =>
   cases e with
   | bS e =>
    simp only at h4
    have hi':=h2.bS h3 o.dst
    rw[Nat.add_assoc] at hi'
    obtain⟨s',⟨n1,g1⟩,ρ',s3,g2,g3,g4,g5⟩:=sV hwk hE h4 hi' hlo
    refine⟨s',⟨max n0 n1,fun n hn=>?_⟩,ρ',s3,g2,fun v u hv hu=>?_,g4,g5⟩
    ·simp only [jK, h1 n (by omega)]
     exact g1 n (by omega)
    ·rcases g3 v u hv hu with ⟨w, hw, Aq⟩ | h'
     ·by_cases hwn : w = nx
      ·subst hwn
       have:=hi.xV 0 (by simp)
       rw[Nat.add_zero,Aq] at this
       injection this with this
       exact .inr (by omega)
      ·exact .inl ⟨w,by omega,Aq⟩
     ·exact .inr h'
   |all=>exact h3.elim
  | all v t2 =>
   cases e with
   |bS e=>exact h3.elim
   | all a m t n' =>
    simp only at h4
    obtain⟨ρ1,hi',hf,hn'⟩:=h2.all h3 o.dst
    rw[Nat.add_assoc] at hi'
    obtain⟨s',⟨n1,g1⟩,ρ',s3,g2,g3,g4,g5⟩:=sV hwk hE h4 hi' hlo
    have hsn:lo≤s.nv:=by have:=hi.pn;omega
    refine⟨s',⟨max n0 n1,fun n hn=>?_⟩,ρ',s3,g2,fun v u hv hu=>?_,Nat.le_trans hn' g4,g5⟩
    ·simp only [jK, h1 n (by omega)]
     exact g1 n (by omega)
    ·rcases g3 v u hv hu with ⟨w, hw, Aq⟩ | h'
     ·rcases hf w u hw Aq with ⟨w', hw', Oi⟩ | h'
      ·by_cases hwn : w' = nx
       ·subst hwn
        have:=hi.xV 0 (by simp)
        rw[Nat.add_zero,Oi] at this
        injection this with this
        exact .inr (by omega)
       ·exact .inl ⟨w',by omega,Oi⟩
      ·exact .inr (by omega)
     ·exact .inr h'
def sW (ρ : bG):gi→fW→Prop
 |.bS E,.bS e=>aU ρ E.rd e.rd∧aU ρ E.wr e.wr
 |.all _ _,_=>True
 |_,_=>False
def Kl (ρ : bG):List (Nat×gi)→List (Nat×fW)→Prop:=az fun x y=>x.1=y.1∧sW ρ x.2 y.2
theorem Oj {a b:Nat×Nat×Nat} : keq a b=true↔a=b:=by
 obtain⟨a1,a2,a3⟩:=a
 obtain⟨b1,b2,b3⟩:=b
 simp[keq,and_assoc]
theorem KR.inj (hinj:∀ v v' u,ρ v=some u→ρ v'=some u→v=v') {a b k:Nat×Nat×Nat} (ha:KR ρ a k) (hb:KR ρ b k):a=b:=by
 rcases ha with⟨rfl,h⟩|⟨v,u,rfl,rfl,hu⟩
 ·rcases hb with ⟨rfl, _⟩ | ⟨v', u', rfl, rfl, _⟩
  ·rfl
  ·cases h
 ·rcases hb with ⟨rfl, h⟩ | ⟨v', u', rfl, h, dw⟩
  ·cases h
  ·have : u = u' := by simpa [jF] using h
   subst this
   rw[hinj _ _ _ hu dw]
theorem Ar (hinj:∀ v v' u,ρ v=some u→ρ v'=some u→v=v') {a2 b2 a b:List (Nat×Nat×Nat)} (ha:aU ρ a2 a) (hb:aU ρ b2 b) (h:vA a2 b2=false):meets a b=false:=by
 rw[Bool.eq_false_iff]
 intro hm
 unfold meets at hm
 rw[List.any_eq_true] at hm
 obtain⟨k,hk,hc⟩:=hm
 obtain⟨k2,h1,h2⟩:=ha k hk
 obtain⟨k2',h3,h4⟩:=hb k (by simpa using hc)
 have:=KR.inj hinj h2 h4
 subst this
 have:vA a2 b2=true:=by
  unfold vA
  rw[List.any_eq_true]
  exact⟨k2,h1,by rw[List.any_eq_true];exact⟨k2,h3,Oj.2 rfl⟩⟩
 rw[h] at this
 cases this
theorem keys_nil {l:List (Nat×Nat×Nat)} (h:aU ρ [] l):l=[]:=by
 cases l with
 |nil=>rfl
 |cons k l=>obtain⟨_,h1,_⟩:=h k List.mem_cons_self;cases h1
theorem quiet {E':DK} {e:eX} (h:nM (.bS E')=false) (hr:sW ρ (.bS E') (.bS e)):e.rd=[]∧e.cK=[]∧e.cx=[]:=by
 simp only[nM,Bool.not_eq_false',Bool.and_eq_true,List.isEmpty_iff] at h
 obtain⟨⟨h1,h2⟩,h3⟩:=h
 obtain⟨k1,k2⟩:=hr
 rw[h1] at k1
 have hw:E'.wr=[]:=by simp[DK.wr,h2,h3]
 rw[hw] at k2
 have:=keys_nil k2
 simp only[eX.wr,List.append_eq_nil_iff,List.map_eq_nil_iff] at this
 exact⟨keys_nil k1,this.1,this.2⟩
theorem IK {e:eX} (h:e.rd=[]∧e.cK=[]∧e.cx=[]):lN (.bS e)=false:=by
 obtain⟨h1,h2,h3⟩:=h
 simp[lN,h1,h2,h3]
theorem xB {x:fW} {e:eX} (h:e.rd=[]∧e.cK=[]∧e.cx=[]):rS x (.bS e)=false∧rS (.bS e) x=false:=by
 have hl:=IK h
 obtain⟨h1,h2,h3⟩:=h
 have hw:e.wr=[]:=by simp[eX.wr,h2,h3]
 cases x with
 |bS a=>simp[rS,h1,hw,meets]
 |all=>simp[rS,hl]
theorem Ol (hinj:∀ v v' u,ρ v=some u→ρ v'=some u→v=v') {x2 r2:gi} {x e:fW} (hx:sW ρ x2 x) (he:sW ρ r2 e) (hr:∀ v t,r2=.all v t→∃ a m tt n,e=.all a m tt n) (h:vB x2 r2=false):rS x e=false:=by
 cases r2 with
 | bS E' =>
  cases e with
  |all=>exact he.elim
  | bS e =>
   cases x2 with
   | bS X =>
    cases x with
    |all=>exact hx.elim
    |bS x=>
     simp only[vB,Bool.or_eq_false_iff] at h
     simp only[rS,Bool.or_eq_false_iff]
     exact⟨⟨Ar hinj hx.1 he.2 h.1.1,Ar hinj hx.2 he.1 h.1.2⟩,Ar hinj hx.2 he.2 h.2⟩
   |all v t=>
    have:nM (.bS E')=false:=by simpa[vB,nM] using h
    exact (xB (quiet this he)).1
 | all v t =>
  obtain⟨a,m,tt,n,rfl⟩:=hr v t rfl
  cases x2 with
  | bS X =>
   cases x with
   |all=>exact hx.elim
   |bS x=>
    have:nM (.bS X)=false:=by simpa[vB,nM] using h
    exact (xB (quiet this hx)).2
  |all v' t'=>simp[vB,nM] at h
theorem tU (hinj:∀ v v' u,ρ v=some u→ρ v'=some u→v=v') {lY:Nat} {r2:gi} {e:fW} (he:sW ρ r2 e) (hr:∀ v t,r2=.all v t→∃ a m tt n,e=.all a m tt n):∀ {xl:List (Nat×gi)} {past:List (Nat×fW)},Kl ρ xl past→DS lY r2 xl=true→clear lY e past=true
 |[],[],_,_=>rfl
 |(i,x2) :: r2',(j,x) :: r',hp,h=>by
  obtain⟨⟨h1,h2⟩,h3⟩:=hp
  simp only at h1 h2
  subst h1
  simp only[DS,Bool.and_eq_true,Bool.or_eq_true,Bool.not_eq_true'] at h
  simp only[clear,Bool.and_eq_true,Bool.or_eq_true,Bool.not_eq_true']
  exact⟨h.1.imp id (Ol hinj h2 he hr),tU hinj he hr h3 h.2⟩
 |[],_ :: _,h,_=>h.elim
 |_ :: _,[],h,_=>h.elim
theorem Gh {ρ':bG} : ∀ {l2:List (Nat×gi)} {l:List (Nat×fW)},Kl ρ l2 l→Kl ρ' (xl l2) l
 |[],[],_=>trivial
 | (i, x2) :: r2', (j, x) :: r', hp => by
  obtain⟨⟨h1,h2⟩,h3⟩:=hp
  refine⟨⟨h1,?_⟩,Gh h3⟩
  simp only at h2
  show sW ρ' (match nM x2 with|true=>_|false=>x2) x
  cases hl:nM x2 with
  |true=>trivial
  | false =>
   cases x2 with
   |all=>simp[nM] at hl
   | bS X =>
    cases x with
    |all=>exact h2.elim
    | bS x =>
     obtain⟨q1,q2,q3⟩:=quiet hl h2
     refine⟨?_,?_⟩
     ·rw[q1];exact aU.nil
     ·have : x.wr = [] := by simp [eX.wr, q2, q3]
      rw[this];exact aU.nil
 |[],_ :: _,h=>h.elim
 |_ :: _,[],h=>h.elim
theorem nU.key {r2:gi} {e:fW} (h:nU ρ nx os s2 s r2 e):sW ρ r2 e∧∀ v t,r2=.all v t→∃ a m tt n,e=.all a m tt n:=by
 cases r2 with
 |bS E'=>cases e with
  |bS e=>exact⟨⟨h.rd,h.wr⟩,fun _ _ h=>by cases h⟩
  |all=>exact h.elim
 |all v t=>cases e with
  |bS e=>exact h.elim
  |all a m tt n=>exact⟨trivial,fun _ _ _=>⟨_,_,_,_,rfl⟩⟩
theorem sX (hwk : IF Fs wk) (hE : aC Fs E) {K : S2 → Option α} {lg lo : Nat} : ∀ {ops : List bA} {i nx : Nat} {ρ : bG} {s2 : S2} {s : St} {xl : List (Nat × gi)} {past : List (Nat × fW)}, uD E wk ctx i nx ops xl s2 K = some r → Kl ρ xl past → RI ρ nx ops.length os s2 s (lg + i) → lo ≤ lg →
  ∃ s',(∃ n0,∀ n,n0≤n→jL (ig Fs n) (yu Fs) lg i ops past s=some s')∧Oh ρ nx os lo s.nv K r s'
 | [], i, nx, ρ, s2, s, _, _, h, _, hi, _ => ⟨s, ⟨0, fun _ _ => rfl⟩, ρ, s2, hi.done, by
   have:nx=s2.nv:=hi.nv
   subst this
   exact Fr.refl _ _ _,Nat.le_refl _,h⟩
 | o :: ops, i, nx, ρ, s2, s, pa2, past, h, hp, hi, hlo => by
  simp only[uD] at h
  obtain⟨s2',r2,e,⟨n0,h1⟩,h2,h3,h4⟩:=Gg hwk hE hi h
  split at h4
  ·rename_i hcl
   have hkey:=h3.key
   have hcl:=tU hi.af.inj hkey.1 hkey.2 hp hcl
   cases r2 with
   | bS E' =>
    cases e with
    | bS e =>
     simp only at h4
     have hi':=h2.bS h3 o.dst
     rw[Nat.add_assoc] at hi'
     obtain⟨s',⟨n1,g1⟩,ρ',s3,g2,g3,g4,g5⟩:=sX hwk hE h4 (past:=(i,.bS e) :: past) ⟨⟨rfl,hkey.1⟩,hp⟩ hi' hlo
     refine⟨s',⟨max n0 n1,fun n hn=>?_⟩,ρ',s3,g2,fun v u hv hu=>?_,g4,g5⟩
     ·simp only [jL, h1 n (by omega), hcl]
      exact g1 n (by omega)
     ·rcases g3 v u hv hu with ⟨w, hw, Aq⟩ | h'
      ·by_cases hwn : w = nx
       ·subst hwn
        have:=hi.xV 0 (by simp)
        rw[Nat.add_zero,Aq] at this
        injection this with this
        exact .inr (by omega)
       ·exact .inl ⟨w,by omega,Aq⟩
      ·exact .inr h'
    |all=>exact h3.elim
   | all v t2 =>
    cases e with
    |bS e=>exact h3.elim
    | all a m t n' =>
     simp only at h4
     obtain⟨ρ1,hi',hf,hn'⟩:=h2.all h3 o.dst
     rw[Nat.add_assoc] at hi'
     obtain⟨s',⟨n1,g1⟩,ρ',s3,g2,g3,g4,g5⟩:=sX hwk hE h4 (past:=(i,.all a m t n') :: past) ⟨⟨rfl,trivial⟩,Gh hp⟩ hi' hlo
     have hsn:lo≤s.nv:=by have:=hi.pn;omega
     refine⟨s',⟨max n0 n1,fun n hn=>?_⟩,ρ',s3,g2,fun v u hv hu=>?_,Nat.le_trans hn' g4,g5⟩
     ·simp only [jL, h1 n (by omega), hcl]
      exact g1 n (by omega)
     ·rcases g3 v u hv hu with ⟨w, hw, Aq⟩ | h'
      ·rcases hf w u hw Aq with ⟨w', hw', Oi⟩ | h'
       ·by_cases hwn : w' = nx
        ·subst hwn
         have:=hi.xV 0 (by simp)
         rw[Nat.add_zero,Oi] at this
         injection this with this
         exact .inr (by omega)
        ·exact .inl ⟨w',by omega,Oi⟩
       ·exact .inr (by omega)
      ·exact .inr h'
  ·cases h4
theorem D4 (hwk:IF Fs wk) (hE:aC Fs E) {ops:List bA} {draw:Bool} {K:S2→Option α} (h:RD E wk ctx ops draw s2 K=some r) (hs:xq ρ os s2 s) :
  ∃ s',Ev Fs (.region ops draw) s (.normal,s')∧Oh ρ s2.nv os s.nv s.nv K r s':=by
 have start:RI ρ s2.nv ops.length os { s2 with nv:=s2.nv+ops.length } { s with nv:=s.nv+ops.length } (s.nv+0):=by
  refine⟨hs.slots,hs.outer,hs.mem,hs.aE,⟨fun v u hv hu=>?_,fun v hv=>?_,hs.af.inj⟩,fun j hj=>?_,rfl,Nat.le_refl _⟩
  ·show u < s.nv + ops.length
   have hv:v<s2.nv+ops.length:=hv
   rcases Nat.lt_or_ge v s2.nv with h1|h1
   ·have:=hs.af.low v u h1 hu;omega
   ·rw[hs.af.high v h1] at hu;injection hu with hu;omega
  ·have hv : s2.nv + ops.length ≤ v := hv
   rw[hs.af.high v (by omega)]
   congr 1
   show _=s.nv+ops.length+(v-(s2.nv+ops.length))
   omega
  ·rw [hs.af.high _ (by omega)]
   congr 1
   omega
 have lift:∀ {s':St},Oh ρ s2.nv os s.nv (s.nv+ops.length) K r s'→Oh ρ s2.nv os s.nv s.nv K r s':=by
  rintro s' ⟨ρ',s3,g2,g3,g4,g5⟩
  exact⟨ρ',s3,g2,g3,by omega,g5⟩
 cases draw with
 |false=>
  obtain⟨s',⟨n0,h1⟩,g⟩:=sV hwk hE (lo:=s.nv) h start (Nat.le_refl _)
  refine⟨s',⟨n0+1,fun k n hk hn=>?_⟩,lift g⟩
  obtain⟨n,rfl⟩:∃ q,n=q+1:=⟨n-1,by omega⟩
  simp only[exec,fk,h1 k (by omega),Option.map_some]
 |true=>
  obtain⟨s',⟨n0,h1⟩,g⟩:=sX hwk hE (lo:=s.nv) (past:=[]) h trivial start (Nat.le_refl _)
  refine⟨s',⟨n0+1,fun k n hk hn=>?_⟩,lift g⟩
  obtain⟨n,rfl⟩:∃ q,n=q+1:=⟨n-1,by omega⟩
  simp only[exec,fk,h1 k (by omega),Option.map_some]
end
section
variable {Fs:Tb} {E:aA}
theorem SR.sS {ρ : bG} {os:List (Tr AV)} {s2:S2} {s:St} {c:bR} {b:Bool} (hs:xq ρ os s2 s) (hb:iG (c.ev s.slots)=some b):xq ρ os (sS s2 c b) s:=by
 cases c with
 |c v=>exact hs
 | t n =>
  have he:jC s.slots n=.d (.sc (.bool b)):=by
   simp only[bR.ev] at hb
   unfold iG at hb
   split at hb
   ·rename_i b' e;injection hb with hb;subst hb;exact e
   ·cases hb
  refine⟨fun k v hk=>?_,hs.outer,hs.mem,hs.aE,hs.af,hs.le⟩
  simp only[Go.Sym.sS] at hk
  rw[Tr.cr] at hk
  split at hk
  ·rename_i e; subst e
   injection hk with hk;subst hk
   exact he
  ·exact hs.slots k v hk
theorem Om {call:bI.Call} {sh:Nat→Bool} {s:St} {dst aR:Nat} {op:bM} {e:fW} (hm:NQ sh op=true) (h:op.run call sh s 0 dst aR=some e):∃ v rd,e=.bS { val:=v,cK:=[],cx:=[],rd }:=by
 have pure:∀ {v:AV},eX.pure v=some e→∃ v rd,e=.bS { val:=v,cK:=[],cx:=[],rd }:=fun h=>by injection h with h;exact⟨_,_,h.symm⟩
 have Uj:∀ {α : Type} {o:Option α} {k : α→Option fW},Option.bind o k=some e→∃ x,k x=some e:=fun {α o k} h=>by
  cases o with
  |none=>cases h
  |some x=>exact⟨x,h⟩
 cases op with
 |ED x=>
  simp only[bM.run,xO] at h
  rw[show (Nat.beq (0 % 65536) 6&&isRow (x.ev s.slots))=false from rfl] at h
  injection h with h
  exact⟨_,_,h.symm⟩
 |load sz agg x=>
  obtain⟨cs,h⟩:=Uj h
  cases hw:fq agg cs with
  |none=>rw[hw] at h;cases h
  |some v=>rw[hw] at h;injection h with h;exact⟨_,_,h.symm⟩
 | tB f args =>
  simp only[NQ,Bool.not_eq_true'] at hm
  simp only[bM.run,hm,jJ] at h
  split at h
  ·cases h
  ·split at h
   ·cases h
   ·split at h
    ·split at h
     ·injection h with h;exact⟨_,_,h.symm⟩
     ·cases h
    ·cases h
 | slice sz x lo hi mx =>
  simp only[bM.run] at h
  split at h
  ·split at h
   ·rename_i hz;simp at hz
   ·obtain⟨v,h⟩:=Uj h;exact pure h
  ·cases h
 |_=>first
  |(cases hm;done)
  |(simp only[bM.run] at h;repeat' (first|split at h|(simp only[Option.bind_eq_some_iff] at h;obtain⟨_,_,h⟩:=h)|(cases h;done)|exact pure h))
structure qz (l:List Nat) (s s':St):Prop where
 mem:s'.mem=s.mem
 aE:s'.aE=s.aE
 nv:s.nv≤s'.nv
 slots:∀ k,¬k∈l→jC s'.slots k=jC s.slots k
theorem qz.refl (l:List Nat) (s:St):qz l s s:=⟨rfl,rfl,Nat.le_refl _,fun _ _=>rfl⟩
theorem qz.trans {l:List Nat} {s s' s'':St} (h:qz l s s') (k:qz l s' s''):qz l s s'':=
 ⟨k.mem.trans h.mem,k.aE.trans h.aE,Nat.le_trans h.nv k.nv,fun i hi=>(k.slots i hi).trans (h.slots i hi)⟩
theorem qz.mono {l l':List Nat} {s s':St} (h:qz l s s') (hl:∀ k,k∈l→k∈l'):qz l' s s':=⟨h.mem,h.aE,h.nv,fun k hk=>h.slots k fun h'=>hk (hl k h')⟩
theorem CJ {call:bI.Call} {sh:Nat→Bool} {s:St} {aR:Nat} {o:bA} {e:fW} (hm:Cs sh o=true) (h:o.step call sh s aR=some e):qz o.dst.toList s (s.app o.dst e):=by
 simp only[Cs,Bool.and_eq_true] at hm
 have hr:=Nat.eq_of_beq_eq_true hm.1
 have key:∃ v rd,e=.bS { val:=v,cK:=[],cx:=[],rd }:=by
  simp only[bA.step] at h
  split at h
  ·cases h
  ·rw[hr] at h;exact Om hm.2 h
  ·injection h with h;exact⟨_,_,h.symm⟩
 obtain⟨v,rd,rfl⟩:=key
 refine⟨rfl,rfl,Nat.le_refl _,fun k hk=>?_⟩
 simp only[St.app,tC]
 cases hd:o.dst with
 |none=>rfl
 |some n=>
  rw[hd] at hk
  simp only[Option.toList,List.mem_singleton] at hk
  simp only[jC,Tr.cr]
  rw[if_neg (fun e=>hk e.symm)]
theorem Gi {call:bI.Call} {sh:Nat→Bool} {lg:Nat} : ∀ {ops:List bA} {i:Nat} {s s':St},ops.all (Cs sh)=true→jK call sh lg i ops s=some s'→qz (ops.flatMap fun o=>o.dst.toList) s s'
 |[],_,s,s',_,h=>by injection h with h;subst h;exact qz.refl _ _
 | o :: r, i, s, s', hm, h => by
  simp only[List.all_cons,Bool.and_eq_true] at hm
  simp only[jK] at h
  split at h
  ·cases h
  ·rename_i e he
   exact ((CJ hm.1 he).mono fun k hk=>by simp only[List.flatMap_cons,List.mem_append];exact .inl hk).trans
    ((Gi hm.2 h).mono fun k hk=>by simp only[List.flatMap_cons,List.mem_append];exact .inr hk)
theorem Gj {call:bI.Call} {sh:Nat→Bool} {lg:Nat} : ∀ {ops:List bA} {i:Nat} {past:List (Nat×fW)} {s s':St},ops.all (Cs sh)=true→jL call sh lg i ops past s=some s'→qz (ops.flatMap fun o=>o.dst.toList) s s'
 |[],_,_,s,s',_,h=>by injection h with h;subst h;exact qz.refl _ _
 | o :: r, i, past, s, s', hm, h => by
  simp only[List.all_cons,Bool.and_eq_true] at hm
  simp only[jL] at h
  split at h
  ·cases h
  ·rename_i e he
   split at h
   ·exact ((CJ hm.1 he).mono fun k hk=>by simp only[List.flatMap_cons,List.mem_append];exact .inl hk).trans
     ((Gj hm.2 h).mono fun k hk=>by simp only[List.flatMap_cons,List.mem_append];exact .inr hk)
   ·cases h
theorem kj {call:bI.Call} {sh:Nat→Bool} : ∀ {n:Nat} {c:AC} {s s':St} {ax:AX},pF sh c=true→exec call sh n c s=some (ax,s')→qz (nN c) s s'
 |0,_,_,_,_,_,h=>by cases h
 | n + 1, c, s, s', ax, hm, h => by
  cases c with
  |skip=>simp only[exec] at h;injection h with h;injection h with _ h;subst h;exact qz.refl _ _
  | region ops draw =>
   simp only[pF] at hm
   simp only[exec] at h
   cases hr:fk call sh ops draw s with
   |none=>rw[hr] at h;cases h
   | some t =>
    rw[hr] at h;injection h with h;injection h with _ h;subst h
    cases draw with
    |false=>
     have g:=Gi hm hr
     exact⟨g.mem,g.aE,by have:=g.nv;simp only at this;omega,g.slots⟩
    |true=>
     have g:=Gj hm hr
     exact⟨g.mem,g.aE,by have:=g.nv;simp only at this;omega,g.slots⟩
  | seq a b =>
   simp only[pF,Bool.and_eq_true] at hm
   simp only[exec] at h
   split at h
   ·rename_i t ht
    exact ((kj hm.1 ht).mono fun k hk=>by simp only[nN,List.mem_append];exact .inl hk).trans
     ((kj hm.2 h).mono fun k hk=>by simp only[nN,List.mem_append];exact .inr hk)
   ·exact (kj hm.1 h).mono fun k hk=>by simp only[nN,List.mem_append];exact .inl hk
  |cond c a b=>
   simp only[pF,Bool.and_eq_true] at hm
   simp only[exec] at h
   split at h
   ·exact (kj hm.1 h).mono fun k hk=>by simp only[nN,List.mem_append];exact .inl hk
   ·exact (kj hm.2 h).mono fun k hk=>by simp only[nN,List.mem_append];exact .inr hk
   ·cases h
  |block=>cases hm
  |loop=>cases hm
  |exit=>cases hm
  |ret=>cases hm
theorem CK:∀ (l:List Nat) (t:Tr V2) (k:Nat) (v:V2),(FH l t).get? k=some v→¬k∈l∧t.get? k=some v
 |[],t,k,v,h=>⟨by simp,h⟩
 | n :: r, t, k, v, h => by
  obtain⟨h1,h2⟩:=CK r _ k v h
  rw[Tr.cr] at h2
  split at h2
  ·cases h2
  ·rename_i hne
   exact⟨by simp only[List.mem_cons,not_or];exact⟨fun e=>hne e.symm,h1⟩,h2⟩
theorem Gk {ρ : bG} {B:Nat} {m:List (Tr E2)} {t:Ty} {c c':Cell} {x:t.den} {a:AV} (h:DT t c=some x) (h':vC t x=some c') (hc:RC ρ B m c a):∀ {ρ':bG} {B':Nat} {m':List (Tr E2)},RC ρ' B' m' c' a:=by
 intro ρ' B' m'
 unfold DT at h
 split at h
 ·split at h
  ·rename_i e _
   injection h with h
   subst h
   subst e
   simp only[vC] at h'
   injection h' with h';subst h'
   exact hc
  ·cases h
 ·injection h with h; subst h
  simp only[vC] at h'
  injection h' with h';subst h'
  exact hc
 ·injection h with h; subst h
  simp only[vC] at h'
  injection h' with h';subst h'
  exact hc
 ·cases h
theorem As {t:Ty} {m:Nat} {ax:AX} {s2:S2} {x:t.den} (h:FI t m ax s2=some x):ax=.normal∧∃ c,s2.slots.get? m=some (.c c)∧DT t c=some x:=by
 unfold FI at h
 split at h
 ·split at h
  ·rename_i c hc
   exact⟨rfl,c,hc,h⟩
  ·cases h
 ·cases h
theorem Au {ρ : bG} {os:List (Tr AV)} {s2:S2} {s t:St} {l:List Nat} {m:Nat} {y:Cell} (hs:xq ρ os s2 s) (hm:qz l s t) (hy:∀ {ρ':bG} {B':Nat} {m':List (Tr E2)},RC ρ' B' m' y (jC t.slots m)) :
  ∃ ρ',xq ρ' os { s2 with slots:=(FH l s2.slots).set m (some (.c y)) } t∧Fr ρ s2.nv s.nv ρ' s2.nv:=by
 let ρ':bG:=fun v=>if v<s2.nv then ρ v else some (t.nv+(v-s2.nv))
 have hρ : ∀ v,v<s2.nv→ρ' v = ρ v:=fun v hv=>if_pos hv
 have hρ2:∀ v,s2.nv≤v→ρ' v=some (t.nv+(v-s2.nv)):=fun v hv=>if_neg (by omega)
 have yl:=hm.nv
 refine⟨ρ',⟨fun k v hk=>?_,hs.outer.mono fun _ _ h=>h.move (eg.refl _ _) (Nat.le_refl _) hρ,?_,fun v hv=>?_,⟨fun v u hv hu=>?_,fun v hv=>hρ2 v hv,fun v v' u hu dw=>?_⟩,Nat.le_refl _⟩,fun v u hv hu=>.inl ⟨v,hv,by rw[←hρ v hv];exact hu⟩⟩
 ·simp only at hk
  rw[Tr.cr] at hk
  split at hk
  ·rename_i e; subst e
   injection hk with hk;subst hk
   exact hy
  ·obtain ⟨h1, h2⟩ := CK _ _ _ _ hk
   rw[hm.slots k h1]
   exact (hs.slots k v h2).move (eg.refl _ _) (Nat.le_refl _) hρ
 ·rw [hm.mem]
  refine⟨hs.mem.len,fun lv sl e2 he=>?_⟩
  obtain⟨e,h1,h2⟩:=hs.mem.ec lv sl e2 he
  exact⟨e,h1,RE.mono (Nat.le_refl _) hρ (fun _ _=>RC.move (eg.refl _ _) (Nat.le_refl _) hρ) h2⟩
 ·rw [hm.aE]
  obtain⟨h1,h2⟩:=hs.aE v hv
  exact⟨h1,fun u hu=>h2 u (by rw[←hρ v h1];exact hu)⟩
 ·rw [hρ v hv] at hu
  have:=hs.af.low v u hv hu
  omega
 ·by_cases h1 : v < s2.nv
  ·rw [hρ v h1] at hu
   by_cases h2:v'<s2.nv
   ·rw[hρ v' h2] at dw;exact hs.af.inj _ _ _ hu dw
   ·rw [hρ2 v' (by omega)] at dw
    injection dw with dw
    have:=hs.af.low v u h1 hu
    omega
  ·rw [hρ2 v (by omega)] at hu
   injection hu with hu
   by_cases h2:v'<s2.nv
   ·rw [hρ v' h2] at dw
    have:=hs.af.low v' u h2 dw
    omega
   ·rw [hρ2 v' (by omega)] at dw
    injection dw with dw
    omega
theorem yw (hE:aC Fs E):∀ n,IF Fs (walk E n)
 |0=>fun _ _ _ _ _ _ _ h=>by cases h
 | n + 1 => by
  have ih:=yw hE n
  intro α ctx i c s2 K r h ρ os s hs
  simp only[walk] at h
  have meet:∀ {outs:ck} {y:(nK outs).den} {ax:AX} {t2:S2} {ρ':bG} {t:St},lD outs ax t2=some y→xq ρ' os t2 t→Fr ρ s2.nv s.nv ρ' t2.nv→s.nv≤t.nv→nL outs y K=some r→
    ∃ t3 ρ3,xq ρ3 os t3 t∧Fr ρ s2.nv s.nv ρ3 t3.nv∧K ax t3=some r:=by
   intro outs y ax t2 ρ' t hy xX hfr hn hk
   obtain⟨t3,ρ3,g1,g2,g3⟩:=yt xX hy
   exact⟨t3,ρ3,g1,hfr.trans g2 hn,(g3 K).symm.trans hk⟩
  cases c with
  |skip=>exact⟨.normal,s2,ρ,s,⟨1,fun k n _ hn=>by obtain⟨n,rfl⟩:∃ q,n=q+1:=⟨n-1,by omega⟩;rfl⟩,hs,Fr.refl _ _ _,Nat.le_refl _,h⟩
  |exit id=>exact⟨.exit id,s2,ρ,s,⟨1,fun k n _ hn=>by obtain⟨n,rfl⟩:∃ q,n=q+1:=⟨n-1,by omega⟩;rfl⟩,hs,Fr.refl _ _ _,Nat.le_refl _,h⟩
  |ret=>exact⟨.ret,s2,ρ,s,⟨1,fun k n _ hn=>by obtain⟨n,rfl⟩:∃ q,n=q+1:=⟨n-1,by omega⟩;rfl⟩,hs,Fr.refl _ _ _,Nat.le_refl _,h⟩
  | region ops draw =>
   simp only at h
   split at h
   ·rename_i m _
    split at h
    ·rename_i Av
     have hsh:E.sh=yu Fs:=by funext g;simp only[aA.sh,yu,hE.fns]
     rw[hsh] at Av
     obtain⟨y,hy,h⟩:=bind_some h
     obtain⟨s',⟨n0,hev⟩,ρ',s3,g2,g3,g4,g5⟩:=D4 ih hE hy hs
     obtain⟨_,c',yY,g5⟩:=As g5
     obtain⟨y',hy',h⟩:=au h
     obtain⟨ρ3,q1,q2⟩:=Au hs (kj (c:=.region ops draw) Av (hev n0 n0 (Nat.le_refl _) (Nat.le_refl _))) (Gk g5 hy' (show RC _ _ _ c' _ from g2.slots m.1 _ yY))
     exact⟨.normal,_,ρ3,s',⟨n0,hev⟩,q1,q2,g4,h⟩
    ·cases h
   split at h
   ·obtain ⟨s', hev, ρ', s3, g2, g3, g4, g5⟩ := D4 ih hE h hs
    exact⟨.normal,s3,ρ',s',hev,g2,g3,g4,g5⟩
   ·obtain ⟨y, hy, h⟩ := bind_some h
    obtain⟨s',hev,ρ',s3,g2,g3,g4,g5⟩:=D4 ih hE hy hs
    obtain⟨t3,ρ3,q1,q2,q3⟩:=meet g5 g2 g3 g4 h
    exact⟨.normal,t3,ρ3,s',hev,q1,q2,g4,q3⟩
  | seq a b =>
   simp only at h
   obtain⟨ax,t2,ρ',t,⟨n0,hev⟩,g2,g3,g4,g5⟩:=ih _ _ _ _ _ _ _ h _ _ _ hs
   cases ax with
   |normal=>
    obtain⟨ax',t3,ρ3,t',⟨n1,On⟩,q2,q3,q4,q5⟩:=ih _ _ _ _ _ _ _ g5 _ _ _ g2
    refine⟨ax',t3,ρ3,t',⟨max n0 n1+1,fun k m hk hm=>?_⟩,q2,g3.trans q3 g4,Nat.le_trans g4 q4,q5⟩
    obtain⟨m,rfl⟩:∃ q,m=q+1:=⟨m-1,by omega⟩
    simp only[exec,hev k m (by omega) (by omega)]
    exact On k m (by omega) (by omega)
   |exit id=>
    refine⟨.exit id,t2,ρ',t,⟨n0+1,fun k m hk hm=>?_⟩,g2,g3,g4,g5⟩
    obtain⟨m,rfl⟩:∃ q,m=q+1:=⟨m-1,by omega⟩
    simp only[exec,hev k m (by omega) (by omega)]
   |ret=>
    refine⟨.ret,t2,ρ',t,⟨n0+1,fun k m hk hm=>?_⟩,g2,g3,g4,g5⟩
    obtain⟨m,rfl⟩:∃ q,m=q+1:=⟨m-1,by omega⟩
    simp only[exec,hev k m (by omega) (by omega)]
  | cond c a b =>
   have way:∀ {β : Type} {K':AX→S2→Option β} {r' : β},(uw (iF s2 c) fun t=>cond t (walk E n β ctx (i+1) a (sS s2 c true) K') (walk E n β ctx (i+1+sR a) b (sS s2 c false) K'))=some r'→
     ∃ ax t2 ρ' t,Ev Fs (.cond c a b) s (ax,t)∧xq ρ' os t2 t∧Fr ρ s2.nv s.nv ρ' t2.nv∧s.nv≤t.nv∧K' ax t2=some r':=by
    intro β K' r' h
    obtain⟨t,ht,h⟩:=oI h
    have hb:=oK (bg hs.slots ht)
    cases t with
    |true=>
     have yl:(sS s2 c true).nv=s2.nv:=by cases c<;>rfl
     obtain⟨ax,t2,ρ',t,⟨n0,hev⟩,g2,g3,g4,g5⟩:=ih _ _ _ _ _ _ _ h _ _ _ (hs.sS hb)
     rw[yl] at g3
     refine⟨ax,t2,ρ',t,⟨n0+1,fun k m hk hm=>?_⟩,g2,g3,g4,g5⟩
     obtain⟨m,rfl⟩:∃ q,m=q+1:=⟨m-1,by omega⟩
     simp only[exec,hb]
     exact hev k m (by omega) (by omega)
    |false=>
     have yl:(sS s2 c false).nv=s2.nv:=by cases c<;>rfl
     obtain⟨ax,t2,ρ',t,⟨n0,hev⟩,g2,g3,g4,g5⟩:=ih _ _ _ _ _ _ _ h _ _ _ (hs.sS hb)
     rw[yl] at g3
     refine⟨ax,t2,ρ',t,⟨n0+1,fun k m hk hm=>?_⟩,g2,g3,g4,g5⟩
     obtain⟨m,rfl⟩:∃ q,m=q+1:=⟨m-1,by omega⟩
     simp only[exec,hb]
     exact hev k m (by omega) (by omega)
   simp only at h
   split at h
   ·rename_i m _
    split at h
    ·rename_i Av
     simp only[Bool.and_eq_true] at Av
     have hsh:E.sh=yu Fs:=by funext g;simp only[aA.sh,yu,hE.fns]
     rw[hsh] at Av
     obtain⟨y,hy,h⟩:=bind_some h
     obtain⟨ax,t2,ρ',t,⟨n0,hev⟩,g2,g3,g4,g5⟩:=way hy
     obtain⟨rfl,c',yY,g5⟩:=As g5
     obtain⟨y',hy',h⟩:=au h
     have hmd:pF (yu Fs) (.cond c a b)=true:=by simp only[pF,Av.1,Av.2,Bool.and_true]
     obtain⟨ρ3,q1,q2⟩:=Au hs (kj hmd (hev n0 n0 (Nat.le_refl _) (Nat.le_refl _))) (Gk g5 hy' (show RC _ _ _ c' _ from g2.slots m.1 _ yY))
     exact⟨.normal,_,ρ3,t,⟨n0,hev⟩,q1,q2,g4,h⟩
    ·cases h
   ·split at h
    ·exact way h
    ·obtain ⟨y, hy, h⟩ := bind_some h
     obtain⟨ax,t2,ρ',t,hev,g2,g3,g4,g5⟩:=way hy
     obtain⟨t3,ρ3,q1,q2,q3⟩:=meet g5 g2 g3 g4 h
     exact⟨ax,t3,ρ3,t,hev,q1,q2,g4,q3⟩
  | block id c =>
   have way:∀ {β : Type} {K':AX→S2→Option β} {r' : β},(walk E n β ctx (i+1) c s2 fun ax s'=>match ax with
      |.exit id'=>match Nat.beq id' id with
       |true=>K' .normal s'
       |false=>K' (.exit id') s'
      |ax=>K' ax s')=some r'→
     ∃ ax t2 ρ' t,Ev Fs (.block id c) s (ax,t)∧xq ρ' os t2 t∧Fr ρ s2.nv s.nv ρ' t2.nv∧s.nv≤t.nv∧K' ax t2=some r':=by
    intro β K' r' h
    obtain⟨ax,t2,ρ',t,⟨n0,hev⟩,g2,g3,g4,g5⟩:=ih _ _ _ _ _ _ _ h _ _ _ hs
    cases ax with
    |normal=>
     refine⟨.normal,t2,ρ',t,⟨n0+1,fun k m hk hm=>?_⟩,g2,g3,g4,g5⟩
     obtain⟨m,rfl⟩:∃ q,m=q+1:=⟨m-1,by omega⟩
     simp only[exec,hev k m (by omega) (by omega)]
    |ret=>
     refine⟨.ret,t2,ρ',t,⟨n0+1,fun k m hk hm=>?_⟩,g2,g3,g4,g5⟩
     obtain⟨m,rfl⟩:∃ q,m=q+1:=⟨m-1,by omega⟩
     simp only[exec,hev k m (by omega) (by omega)]
    | exit id' =>
     simp only at g5
     cases hb:Nat.beq id' id with
     |true=>
      rw[hb] at g5
      refine⟨.normal,t2,ρ',t,⟨n0+1,fun k m hk hm=>?_⟩,g2,g3,g4,g5⟩
      obtain⟨m,rfl⟩:∃ q,m=q+1:=⟨m-1,by omega⟩
      simp only[exec,hev k m (by omega) (by omega),hb]
     |false=>
      rw[hb] at g5
      refine⟨.exit id',t2,ρ',t,⟨n0+1,fun k m hk hm=>?_⟩,g2,g3,g4,g5⟩
      obtain⟨m,rfl⟩:∃ q,m=q+1:=⟨m-1,by omega⟩
      simp only[exec,hev k m (by omega) (by omega),hb]
   simp only at h
   split at h
   ·exact way h
   ·obtain ⟨y, hy, h⟩ := bind_some h
    obtain⟨ax,t2,ρ',t,hev,g2,g3,g4,g5⟩:=way hy
    obtain⟨t3,ρ3,q1,q2,q3⟩:=meet g5 g2 g3 g4 h
    exact⟨ax,t3,ρ3,t,hev,q1,q2,g4,q3⟩
  | loop c =>
   simp only at h
   split at h
   ·obtain ⟨ax, t2, ρ', t, ⟨n0, hev⟩, g2, g3, g4, g5⟩ := ih _ _ _ _ _ _ _ h _ _ _ hs
    cases ax with
    |normal=>
     obtain⟨ax',t3,ρ3,t',⟨n1,On⟩,q2,q3,q4,q5⟩:=ih _ _ _ _ _ _ _ g5 _ _ _ g2
     refine⟨ax',t3,ρ3,t',⟨max n0 n1+1,fun k m hk hm=>?_⟩,q2,g3.trans q3 g4,Nat.le_trans g4 q4,q5⟩
     obtain⟨m,rfl⟩:∃ q,m=q+1:=⟨m-1,by omega⟩
     simp only[exec,hev k m (by omega) (by omega)]
     exact On k m (by omega) (by omega)
    |exit id=>
     refine⟨.exit id,t2,ρ',t,⟨n0+1,fun k m hk hm=>?_⟩,g2,g3,g4,g5⟩
     obtain⟨m,rfl⟩:∃ q,m=q+1:=⟨m-1,by omega⟩
     simp only[exec,hev k m (by omega) (by omega)]
    |ret=>
     refine⟨.ret,t2,ρ',t,⟨n0+1,fun k m hk hm=>?_⟩,g2,g3,g4,g5⟩
     obtain⟨m,rfl⟩:∃ q,m=q+1:=⟨m-1,by omega⟩
     simp only[exec,hev k m (by omega) (by omega)]
   obtain⟨L,hL,h⟩:=au h
   obtain⟨ds,hd,h⟩:=au h
   obtain⟨x,hx,h⟩:=au h
   obtain⟨y,hy,h⟩:=bind_some h
   obtain⟨t2,ρ',g1,g2,g3⟩:=yq hd hs
   obtain⟨ax,t3,ρ3,t,q1,q2,q3,q4,q5⟩:=hE.loops ctx _ c L hL x y hy t2 (by rw[cO hx];exact g1) _ _ _ g2
   exact⟨ax,t3,ρ3,t,q1,q2,g3.trans q3 (Nat.le_refl _),q4,(q5 K).symm.trans h⟩
theorem Km (hE:aC Fs E) (N ctx i:Nat) (body:AC) (T:cw) (outs:ck):∀ k,N8 Fs body ⟨T,outs,bJ (aL E N ctx i body T outs) k⟩
 |0=>fun x y h=>by cases h
 | k + 1 => by
  have ih:=Km hE N ctx i body T outs k
  intro x y h s2 hst ρ os s hs
  simp only[bJ,aL] at h
  obtain⟨s2',R2,h⟩:=au h
  simp only at hst
  rw[hst] at R2
  injection R2 with R2;subst R2
  obtain⟨ax,t2,ρ',t,⟨n0,hev⟩,g2,g3,g4,g5⟩:=yw hE N _ _ _ _ _ _ _ h _ _ _ hs
  have leave:∀ {ax:AX},ax≠.normal→Ev Fs body s (ax,t)→lD outs ax t2=some y→∃ ax s2' ρ' s',Ev Fs (.loop body) s (ax,s')∧xq ρ' os s2' s'∧Fr ρ s2.nv s.nv ρ' s2'.nv∧s.nv≤s'.nv∧∀ {α : Type} (K:AX→S2→Option α),nL outs y K=K ax s2':=by
   rintro ax Ob ⟨n0,hev⟩ hy
   obtain⟨t3,ρ3,q1,q2,q3⟩:=yt g2 hy
   refine⟨ax,t3,ρ3,t,⟨n0+1,fun k m hk hm=>?_⟩,q1,g3.trans q2 g4,g4,q3⟩
   obtain⟨m,rfl⟩:∃ q,m=q+1:=⟨m-1,by omega⟩
   simp only[exec,hev k m (by omega) (by omega)]
   cases ax with
   |normal=>exact absurd rfl Ob
   |_=>rfl
  cases ax with
  |normal=>
   obtain⟨ds,hd,g5⟩:=au g5
   obtain⟨x',hx,g5⟩:=au g5
   obtain⟨t3,ρ3,q1,q2,q3⟩:=yq hd g2
   obtain⟨ax',t4,ρ4,t',⟨n1,On⟩,w2,w3,w4,w5⟩:=ih x' y g5 t3 (by simp only;rw[cO hx];exact q1) _ _ _ q2
   refine⟨ax',t4,ρ4,t',⟨max n0 n1+1,fun k m hk hm=>?_⟩,w2,(g3.trans q3 g4).trans w3 g4,Nat.le_trans g4 w4,w5⟩
   obtain⟨m,rfl⟩:∃ q,m=q+1:=⟨m-1,by omega⟩
   simp only[exec,hev k m (by omega) (by omega)]
   exact On k m (by omega) (by omega)
  |exit id=>exact leave (fun h=>by cases h) ⟨n0,hev⟩ g5
  |ret=>exact leave (fun h=>by cases h) ⟨n0,hev⟩ g5
theorem Ro (x:Cell):QG 0 x=true:=by
 cases x<;>first|rfl|exact Nat.ble_eq.2 (Nat.zero_le _)
theorem R3 {ρ : bG} {B:Nat} {m2:List (Tr E2)} {m:List (Tr bH)} (hm:MR ρ B m2 m) {top k lv sl af:Nat} {c:cG} {x x':Cell} {ks:List (Nat×Nat)} {a:AV} {d:List ff} (hh:QG top x=true) (h:Io m2 x=some (x',ks)) (hd:jR c x'=some d) (hx:RC ρ B m2 x a) :
  ∃ y x2,bu m top 0 k lv sl af a=some (.d y,[])∧(∀ rest,c.fill (d++rest)=some (x2,rest))∧∀ (ρ : bG) (B:Nat) (m:List (Tr E2)),RC ρ B m x2 (.d y):=by
 have imp:∃ y,qo x'=some y∧bu m top 0 k lv sl af a=some (.d y,[]):=by
  unfold Io at h
  split at h
  ·injection h with h;injection h with h1 h2;subst h1 h2;cases hx;exact⟨_,rfl,rfl⟩
  ·injection h with h;injection h with h1 h2;subst h1 h2;cases hx;exact⟨_,rfl,rfl⟩
  ·injection h with h;injection h with h1 h2;subst h1 h2;cases hx;exact⟨_,rfl,rfl⟩
  ·injection h with h;injection h with h1 h2;subst h1 h2;cases hx;exact⟨_,rfl,rfl⟩
  ·injection h with h; injection h with h1 h2; subst h1 h2
   rcases (fM (m:=m) hx).2 with rfl|⟨o,ho,rfl⟩
   ·exact⟨_,rfl,rfl⟩
   ·exact⟨_,rfl,uM ho⟩
  ·cases h
  ·rename_i t l o hne
   injection h with h;injection h with h1 h2;subst h1 h2
   rcases (gj (m:=m) hx).2.2 (fun e=>hne e) with rfl|⟨o',ho,rfl⟩
   ·exact⟨_,rfl,rfl⟩
   ·exact⟨_,rfl,uM ho⟩
  ·split at h
   ·rename_i r hr
    injection h with h;injection h with h1 h2;subst h1 h2
    have he:=jS hm hx hr
    obtain⟨_,u,n,hu,rfl,hn⟩:=hx
    refine⟨_,rfl,?_⟩
    simp only[QG] at hh
    simp only[bu,he,hh,beq_true.2 rfl]
   ·cases h
  ·split at h
   ·rename_i r hr
    injection h with h;injection h with h1 h2;subst h1 h2
    have he:=jh hm hx hr (hx.2.choose_spec.2.2 r hr)
    obtain⟨_,u,hu,rfl,hn⟩:=hx
    refine⟨_,rfl,?_⟩
    simp only[QG] at hh
    simp only[bu,he,hh,beq_true.2 rfl]
   ·cases h
  ·cases h
 obtain⟨y,h1,h2⟩:=imp
 obtain⟨x2,h3,h4⟩:=uK hd h1
 exact⟨y,x2,h2,h3,h4⟩
theorem uN {ρ : bG} {B:Nat} {m2:List (Tr E2)} {m:List (Tr bH)} (hm:MR ρ B m2 m) {top lv sl af:Nat} : ∀ {cs:List cG} {xs xs':List Cell} {ks:List (Nat×Nat)} {aK:List AV} {d:List ff} {k:Nat},(∀ x∈xs,QG top x=true)→j5 m2 xs=some (xs',ks)→dX cs xs'=some d→az (RC ρ B m2) xs aK→
  ∃ as' pK,cA m top 0 lv sl af k aK=some (as',[])∧(∀ rest,cH cs (d++rest)=some (pK,rest))∧as'.all yV=true∧∀ (ρ : bG) (B:Nat) (m:List (Tr E2)),az (RC ρ B m) pK as'
 | cs, [], xs', ks, aK, d, k, _, h, hd, ha => by
  simp only[j5,Option.some.injEq,Prod.mk.injEq] at h
  obtain⟨rfl,rfl⟩:=h
  match aK,ha with
  | [], _ =>
   match cs,hd with
   |[],hd=>
    simp only[dX,Option.some.injEq] at hd;subst hd
    exact⟨[],[],rfl,fun _=>rfl,rfl,fun _ _ _=>trivial⟩
 | cs, x :: xs, xs', ks, aK, d, k, hh, h, hd, ha => by
  simp only[j5] at h
  split at h
  ·rename_i y k1 ys k2 h1 h2
   injection h with h;injection h with h3 h4;subst h3 h4
   match aK,ha with
   | a :: aK, ha =>
    match cs,hd with
    |[],hd=>simp[dX] at hd
    | c :: cs, hd =>
     simp only[dX] at hd
     split at hd
     ·rename_i d1 d2 h5 h6
      injection hd with hd;subst hd
      obtain⟨a',x2,g1,g2,g3⟩:=R3 hm (k:=k) (lv:=lv) (sl:=sl) (af:=af) (hh x List.mem_cons_self) h1 h5 ha.1
      obtain⟨as',pK,g4,g5,g7,g6⟩:=uN hm (lv:=lv) (sl:=sl) (af:=af) (k:=k+1) (fun x hx=>hh x (List.mem_cons_of_mem _ hx)) h2 h6 ha.2
      exact⟨.d a' :: as',x2 :: pK,by simp only[cA,g1,g4,List.append_nil],fun rest=>by simp only[cH,List.append_assoc,g2,g5],by rw[List.all_cons,g7];rfl,fun ρ B m=>⟨g3 _ _ _,g6 _ _ _⟩⟩
     ·cases hd
  ·cases h
theorem R4 {ρ : bG} {B:Nat} {m2:List (Tr E2)} {m:List (Tr bH)} (hm:MR ρ B m2 m) {top lv sl af k:Nat} {b:Bool} {cs:List cG} {xs xs':List Cell} {ks:List (Nat×Nat)} {a:AV} {d:List ff} (hh:∀ x∈xs,QG top x=true) (h:j5 m2 xs=some (xs',ks)) (hd:dX cs xs'=some d) (ha:R1 ρ B m2 (b,xs) a) :
  ∃ a' pK,jG m top 0 lv sl af k a=some (a',[])∧(∀ rest,cH cs (d++rest)=some (pK,rest))∧vk a'=true∧∀ (ρ : bG) (B:Nat) (m:List (Tr E2)),R1 ρ B m (b,pK) a':=by
 cases b with
 |true=>
  obtain⟨aK,rfl,ha⟩:=ha
  obtain⟨as',pK,g1,g2,g4,g3⟩:=uN hm (k:=k) (lv:=lv) (sl:=sl) (af:=af) hh h hd ha
  exact⟨.agg as',pK,by simp only[jG,g1,Option.map_some],g2,g4,fun ρ B m=>⟨as',rfl,g3 _ _ _⟩⟩
 | false =>
  obtain⟨c,rfl,ha⟩:=ha
  obtain⟨as',pK,g1,g2,g0,g3⟩:=uN hm (k:=k) (lv:=lv) (sl:=sl) (af:=af) (aK:=[a]) hh h hd ⟨ha,trivial⟩
  simp only[cA] at g1
  have hc:=RC.cell ha
  split at g1
  ·rename_i y u ys us h1 h2
   simp only[Option.some.injEq,Prod.mk.injEq] at h2
   obtain⟨rfl,rfl⟩:=h2
   injection g1 with g1;injection g1 with g4 g5
   subst g4
   rw[List.append_nil] at g5
   subst g5
   have hx:=g3 ρ B m2
   match pK,hx with
   |[x2],_=>
    rw[List.all_cons,List.all_nil,Bool.and_true] at g0
    refine⟨y,[x2],?_,g2,(by cases y<;>first|rfl|cases g0),fun ρ B m=>⟨x2,rfl,(g3 ρ B m).1⟩⟩
    cases a<;>first|exact h1|cases hc.2.1
  ·cases g1
theorem CL {ρ : bG} {B:Nat} {m2:List (Tr E2)} {m:List (Tr bH)} (hm:MR ρ B m2 m) {top lv sl af:Nat} : ∀ {res:List (Bool×List cG)} {vs:List (Bool×List Cell)} {aK:List AV} {ds:List ff} {k:Nat},(∀ v∈vs,∀ x∈v.2,QG top x=true)→gR m2 res vs=some ds→az (R1 ρ B m2) vs aK→
  ∃ as' ws,fc m top 0 lv sl af k aK=some (as',[])∧(∀ rest,fY res (ds++rest)=some (ws,rest))∧ws.length=aK.length∧as'.all vk=true∧∀ (ρ : bG) (B:Nat) (m:List (Tr E2)),az (R1 ρ B m) ws as'
 |[],[],aK,ds,k,_,h,ha=>by
  simp only[gR,Option.some.injEq] at h;subst h
  match aK,ha with
  |[],_=>exact⟨[],[],rfl,fun _=>rfl,rfl,rfl,fun _ _ _=>trivial⟩
 | (a, l) :: ps, (b, cs) :: vs, aK, ds, k, hh, h, ha => by
  simp only[gR] at h
  split at h
  ·rename_i cs' ks ds2 hab hf hr
   obtain⟨d,hd,rfl⟩:=aM h
   have hab:a=b:=by simpa using hab
   subst hab
   match aK,ha with
   |x :: aK,ha=>
    obtain⟨a',pK,g1,g2,g8,g3⟩:=R4 hm (k:=k) (lv:=lv) (sl:=sl) (af:=af) (hh _ List.mem_cons_self) hf hd ha.1
    obtain⟨as',ws,g4,g5,g6,g9,g7⟩:=CL hm (lv:=lv) (sl:=sl) (af:=af) (k:=k+64) (fun v hv=>hh v (List.mem_cons_of_mem _ hv)) hr ha.2
    exact⟨a' :: as',(a,pK) :: ws,by simp only[fc,g1,g4,List.append_nil],fun rest=>by simp only[fY,List.append_assoc,g2,g5],by simp[g6],by rw[List.all_cons,g8,g9];rfl,fun ρ B m=>⟨g3 _ _ _,g7 _ _ _⟩⟩
  ·cases h
 |[],_ :: _,_,_,_,_,h,_=>by simp[gR] at h
 |_ :: _,[],_,_,_,_,h,_=>by simp[gR] at h
theorem Kn {ρ : bG} {B:Nat} {m2:List (Tr E2)} {m:List (Tr bH)} (hm:MR ρ B m2 m) {top lv sl af:Nat} {res:List (Bool×List cG)} {vs:List (Bool×List Cell)} {aK:List AV} {ds:List ff} (hh:∀ v∈vs,∀ x∈v.2,QG top x=true) (h:gR m2 res vs=some ds) (ha:az (R1 ρ B m2) vs aK) {ws:List (Bool×List Cell)} {w:V2} (hw:fY res ds=some (ws,[])) (ht:gX ws=some w) :
  ∃ a',fI m top 0 lv sl af (gU aK)=some (a',[])∧Dd a'=true∧∀ (ρ : bG) (B:Nat) (m:List (Tr E2)),RV ρ B m w a':=by
 obtain⟨as',Am,g1,g2,g3,g0,g4⟩:=CL hm (lv:=lv) (sl:=sl) (af:=af) (k:=1) hh h ha
 have rE:=g2 []
 rw[List.append_nil,hw] at rE
 injection rE with rE;injection rE with rE _;subst rE
 match aK,ha,g1,g3 with
 | [], _, g1, g3 =>
  match ws,g3 with
  |[],_=>
   simp only[gX,Option.some.injEq] at ht;subst ht
   exact⟨.gZ [],rfl,rfl,fun _ _ _=>⟨[],rfl,trivial⟩⟩
 | [a], ha, g1, g3 =>
  match ws,g3 with
  | [(b, cs)], _ =>
   simp only[fc] at g1
   split at g1
   ·rename_i y u ys us h1 h2
    simp only[Option.some.injEq,Prod.mk.injEq] at h2
    obtain⟨rfl,rfl⟩:=h2
    injection g1 with g1;injection g1 with g5 g6
    subst g5
    rw[List.append_nil] at g6
    subst g6
    rw[List.all_cons,List.all_nil,Bool.and_true] at g0
    refine⟨y,?_,(by cases y<;>first|exact g0|cases g0),fun ρ B m=>?_⟩
    ·match vs, ha with
     |[(b',cs')],ha=>
      have hn:=R1.fO ha.1
      simp only[gU]
      cases a<;>first|exact h1|cases hn
    ·have hx := (g4 ρ B m).1
     simp only[gX] at ht
     cases b with
     |true=>
      obtain⟨bs,rfl,g7⟩:=hx
      simp only[jz,Option.some.injEq] at ht;subst ht
      exact⟨bs,rfl,g7⟩
     |false=>
      obtain⟨c,rfl,g7⟩:=hx
      simp only[jz,Option.some.injEq] at ht;subst ht
      exact g7
   ·cases g1
 | a :: b :: aK, ha, g1, g3 =>
  match ws,g3 with
  |x :: y :: ws,_=>
   simp only[gX,Option.some.injEq] at ht;subst ht
   exact⟨.gZ as',by simp only[gU,fI,g1,Option.map_some],g0,fun ρ B m=>⟨as',rfl,g4 _ _ _⟩⟩
theorem Oo {ρ : bG} {B:Nat} {m2:List (Tr E2)} {m:List (Tr bH)} (hm:MR ρ B m2 m) {k lv sl af p row rk:Nat} (h0:rk≠0) (yy:row % 65536=rk) (hr2:row / 65536≠0) (Ao:row % 65536≠65535) {c:cG} {x x':Cell} {ks:List (Nat×Nat)} {a:AV} {d:List ff}
  (hk:Ir m2 rk k x=true) (h:Io m2 x=some (x',ks)) (hd:jR c x'=some d) (hx:RC ρ B m2 x a) :
  ∃ x2,(∀ rest,c.fill (d++rest)=some (x2,rest))∧∀ x3 us,Cr rk lv sl af k x2=some (x3,us)→(∀ u∈us,row / 65536=u.t.size)→
   ∃ a',bu m 0 row k lv sl p a=some (a',us.map fun u=>bx u.t u.l)∧∀ (ρ : bG) (B:Nat) (m:List (Tr E2)),jU ρ B m lv sl af p us→RC ρ B m x3 a':=by
 have hrow:Nat.beq row 0=false:=beq_false.2 (by intro e;subst e;simp at hr2)
 have hsz:(!Nat.beq (row / 65536) 0)=true:=by rw[beq_false.2 hr2];rfl
 have fin:∀ {y:D},qo x'=some y→∃ x2,(∀ rest,c.fill (d++rest)=some (x2,rest))∧∀ (ρ : bG) (B:Nat) (m:List (Tr E2)),RC ρ B m x2 (.d y):=by
  intro y hy
  unfold jR at hd
  split at hd
  ·split at hd
   ·injection hd with hd; subst hd; injection hy with hy; subst hy
    exact⟨_,fun _=>rfl,fun _ _ _=>rfl⟩
   ·cases hd
  ·injection hd with hd; subst hd; injection hy with hy; subst hy
   exact⟨_,fun _=>rfl,fun _ _ _=>rfl⟩
  ·injection hd with hd; subst hd; injection hy with hy; subst hy
   exact⟨_,fun _=>rfl,fun _ _ _=>rfl⟩
  ·injection hd with hd; subst hd; injection hy with hy; subst hy
   exact⟨_,fun _=>rfl,fun _ _ _=>.inl rfl⟩
  ·injection hd with hd; subst hd; injection hy with hy; subst hy
   exact⟨_,fun _=>rfl,fun _ _ _=>.inl rfl⟩
  ·cases hd
 have off:k≠rk→(∃ y,qo x'=some y∧bu m 0 row k lv sl p a=some (.d y,[]))→∃ x2,(∀ rest,c.fill (d++rest)=some (x2,rest))∧∀ x3 us,Cr rk lv sl af k x2=some (x3,us)→(∀ u∈us,row / 65536=u.t.size)→
   ∃ a',bu m 0 row k lv sl p a=some (a',us.map fun u=>bx u.t u.l)∧∀ (ρ : bG) (B:Nat) (m:List (Tr E2)),jU ρ B m lv sl af p us→RC ρ B m x3 a':=by
  rintro hne ⟨y,h1,h2⟩
  obtain⟨x2,h3,h4⟩:=fin h1
  refine⟨x2,h3,fun x3 us hp _=>?_⟩
  simp only[Cr,beq_false.2 hne,Option.some.injEq,Prod.mk.injEq] at hp
  obtain⟨rfl,rfl⟩:=hp
  exact⟨_,h2,fun _ _ _ _=>h4 _ _ _⟩
 have nk:(!Nat.beq k rk)=true→k≠rk:=by
  intro h e
  rw[e,beq_true.2 rfl] at h
  cases h
 have Uk:lM 0 row=false:=by
  unfold lM
  cases Nat.beq row 0<;>rfl
 have own:k≠rk→∀ {els:List (List D)} {o:MZ},o≠.aJ→bu m 0 row k lv sl p (.own els o)=some (.d (.sl els),[]):=by
  intro hne els o ho
  cases o with
  |aJ=>exact absurd rfl ho
  |cx=>simp only[bu,Uk]
  |full=>
   simp only[bu,yy,beq_false.2 hne,Bool.and_false,Uk,beq_false.2 (show rk≠65535 by rw[←yy];exact Ao),Bool.or_self]
 unfold Io at h
 split at h
 ·injection h with h;injection h with h1 h2;subst h1 h2;cases hx;exact off (nk hk) ⟨_,rfl,rfl⟩
 ·injection h with h;injection h with h1 h2;subst h1 h2;cases hx;exact off (nk hk) ⟨_,rfl,rfl⟩
 ·injection h with h;injection h with h1 h2;subst h1 h2;cases hx;exact off (nk hk) ⟨_,rfl,rfl⟩
 ·injection h with h;injection h with h1 h2;subst h1 h2;cases hx;exact off (nk hk) ⟨_,rfl,rfl⟩
 ·rename_i f
  injection h with h;injection h with h1 h2;subst h1 h2
  cases f with
  |false=>
   rcases (fM (m:=m) hx).2 with rfl|⟨o,ho,rfl⟩
   ·exact off (nk hk) ⟨_,rfl,rfl⟩
   ·exact off (nk hk) ⟨_,rfl,own (nk hk) ho⟩
  | true =>
   have hx:a=.own [] .full:=hx
   subst hx
   by_cases hne:k=rk
   ·subst hne
    have hc:∃ t,c=.sl t .d∧d=[⟨.sl t,[]⟩]:=by
     unfold jR at hd
     cases c with
     |sl t o=>cases o<;>first|(injection hd with hd;exact⟨t,rfl,hd.symm⟩)|cases hd
     |_=>cases hd
    obtain⟨t,rfl,rfl⟩:=hc
    ·refine ⟨.sl t [] .d, fun _ => rfl, fun x3 us hp hu => ?_⟩
     simp only[Cr,beq_true.2 rfl,Option.some.injEq,Prod.mk.injEq] at hp
     obtain⟨rfl,rfl⟩:=hp
     have hu:=hu _ (List.mem_singleton.2 rfl)
     simp only at hu
     refine⟨.ref lv sl p 0 0 (row / 65536),?_,fun ρ B m hf=>⟨hf.1,p,0,hf.2.1,by rw[hu],fun r hr=>?_⟩⟩
     ·simp only [bu, yy, hsz, beq_true.2 rfl, Bool.and_true]
      rfl
     ·have := hf.2.2 _ (List.mem_singleton.2 rfl) r hr
      simpa using this.symm
   ·exact off hne ⟨_,rfl,own hne (fun h=>by cases h)⟩
 ·cases h
 ·rename_i t l o hne
  injection h with h;injection h with h1 h2;subst h1 h2
  rcases (gj (m:=m) hx).2.2 (fun e=>hne e) with rfl|⟨o',ho,rfl⟩
  ·exact off (nk hk) ⟨_,rfl,rfl⟩
  ·exact off (nk hk) ⟨_,rfl,own (nk hk) ho⟩
 ·rename_i cl cX eZ t
  split at h
  ·rename_i r hr
   injection h with h;injection h with h1 h2;subst h1 h2
   have he:=jS hm hx hr
   obtain⟨_,u,n,hu,rfl,hn⟩:=hx
   simp only[Ir,hr,Bool.and_eq_true] at hk
   obtain⟨hk1,hk2⟩:=hk
   have hk1:=beq_true.1 hk1
   have hk2:=beq_true.1 hk2
   subst hk1
   obtain⟨e,g1,g2⟩:=hm.ec _ _ _ (cy hr)
   obtain⟨_,u',g3,rfl⟩:=g2
   rw[hu] at g3;injection g3 with g3;subst g3
   have hat:bI.rowAt m cl cX u=some (bx r.t r.l):=by
    unfold bI.rowAt
    rw[g1]
    simp only[beq_true.2 rfl]
   have hc:∃ t0,c=.sl t0 .d∧d=[⟨.sl r.t,r.l⟩]:=by
    unfold jR at hd
    cases c with
    |sl t o=>cases o<;>first|(injection hd with hd;exact⟨t,rfl,hd.symm⟩)|cases hd
    |_=>cases hd
   obtain⟨t0,rfl,rfl⟩:=hc
   ·refine ⟨.sl r.t r.l .d, fun _ => rfl, fun x3 us hp hu => ?_⟩
    simp only[Cr,beq_true.2 rfl,Option.some.injEq,Prod.mk.injEq] at hp
    obtain⟨rfl,rfl⟩:=hp
    refine⟨.ref lv sl p 0 n t.size,?_,fun ρ B m hf=>⟨hf.1,p,n,hf.2.1,by rw[hk2],fun r' hr'=>?_⟩⟩
    ·simp only [bu, he, hrow, yy, beq_true.2 rfl, hat]
     rfl
    ·rw [hf.2.2 _ (List.mem_singleton.2 rfl) r' hr']
     exact hn r hr
  ·cases h
 ·cases hk
 ·cases h
theorem vJ {ρ : bG} {B:Nat} {m2:List (Tr E2)} {m:List (Tr bH)} (hm:MR ρ B m2 m) {lv sl af p row rk:Nat} (h0:rk≠0) (yy:row % 65536=rk) (hr2:row / 65536≠0) (Ao:row % 65536≠65535) :
  ∀ {cs:List cG} {xs xs':List Cell} {ks:List (Nat×Nat)} {aK:List AV} {d:List ff} {k:Nat},RA m2 rk k xs=true→j5 m2 xs=some (xs',ks)→dX cs xs'=some d→az (RC ρ B m2) xs aK→
  ∃ pK,(∀ rest,cH cs (d++rest)=some (pK,rest))∧∀ EA us,oH rk lv sl af k pK=some (EA,us)→(∀ u∈us,row / 65536=u.t.size)→
   ∃ as',cA m 0 row lv sl p k aK=some (as',us.map fun u=>bx u.t u.l)∧∀ (ρ : bG) (B:Nat) (m:List (Tr E2)),jU ρ B m lv sl af p us→az (RC ρ B m) EA as'
 | cs, [], xs', ks, aK, d, k, _, h, hd, ha => by
  simp only[j5,Option.some.injEq,Prod.mk.injEq] at h
  obtain⟨rfl,rfl⟩:=h
  match aK,ha with
  | [], _ =>
   match cs,hd with
   |[],hd=>
    simp only[dX,Option.some.injEq] at hd;subst hd
    refine⟨[],fun _=>rfl,fun EA us hp _=>?_⟩
    simp only[oH,Option.some.injEq,Prod.mk.injEq] at hp
    obtain⟨rfl,rfl⟩:=hp
    exact⟨[],rfl,fun _ _ _ _=>trivial⟩
   |_ :: _,hd=>simp[dX] at hd
 | cs, x :: xs, xs', ks, aK, d, k, hk, h, hd, ha => by
  simp only[RA,Bool.and_eq_true] at hk
  simp only[j5] at h
  split at h
  ·rename_i y k1 ys k2 h1 h2
   injection h with h;injection h with h3 h4;subst h3 h4
   match aK,ha with
   | a :: aK, ha =>
    match cs,hd with
    |[],hd=>simp[dX] at hd
    | c :: cs, hd =>
     simp only[dX] at hd
     split at hd
     ·rename_i d1 d2 h5 h6
      injection hd with hd;subst hd
      obtain⟨x2,g2,g3⟩:=Oo hm (k:=k) (lv:=lv) (sl:=sl) (af:=af) (p:=p) h0 yy hr2 Ao hk.1 h1 h5 ha.1
      obtain⟨pK,g5,g6⟩:=vJ hm (lv:=lv) (sl:=sl) (af:=af) (p:=p) h0 yy hr2 Ao (k:=k+1) hk.2 h2 h6 ha.2
      refine⟨x2 :: pK,fun rest=>by simp only[cH,List.append_assoc,g2,g5],fun EA us hp hu=>?_⟩
      simp only[oH] at hp
      split at hp
      ·rename_i z u1 zs u2 p1 p2
       simp only[Option.some.injEq,Prod.mk.injEq] at hp
       obtain⟨rfl,rfl⟩:=hp
       obtain⟨a',q1,q2⟩:=g3 _ _ p1 (fun u h=>hu u (List.mem_append_left _ h))
       obtain⟨as',q3,q4⟩:=g6 _ _ p2 (fun u h=>hu u (List.mem_append_right _ h))
       exact⟨a' :: as',by simp only[cA,q1,q3,List.map_append],fun ρ B m hf=>⟨q2 _ _ _ ⟨hf.1,hf.2.1,fun u h=>hf.2.2 u (List.mem_append_left _ h)⟩,q4 _ _ _ ⟨hf.1,hf.2.1,fun u h=>hf.2.2 u (List.mem_append_right _ h)⟩⟩⟩
      ·cases hp
     ·cases hd
  ·cases h
theorem L6 {m:List (Tr bH)} {row lv sl p k:Nat} {a:AV} (h:lK a=true) (h2:bI.fO a=true):jG m 0 row lv sl p k a=bu m 0 row k lv sl p a:=by
 cases a<;>first|rfl|cases h
theorem Aw {ρ : bG} {B : Nat} {m2 : List (Tr E2)} {m : List (Tr bH)} (hm : MR ρ B m2 m) {lv sl af p row rk : Nat} (h0 : rk ≠ 0) (yy : row % 65536 = rk) (hr2 : row / 65536 ≠ 0) (Ao : row % 65536 ≠ 65535) :
  ∀ {res:List (Bool×List cG)} {vs:List (Bool×List Cell)} {aK:List AV} {ds:List ff} {k:Nat},Cq m2 rk k vs=true→gR m2 res vs=some ds→az (R1 ρ B m2) vs aK→
  ∃ ws,(∀ rest,fY res (ds++rest)=some (ws,rest))∧ws.length=aK.length∧∀ Am us,zX rk lv sl af k ws=some (Am,us)→(∀ u∈us,row / 65536=u.t.size)→
   ∃ as',fc m 0 row lv sl p k aK=some (as',us.map fun u=>bx u.t u.l)∧Am.length=aK.length∧∀ (ρ : bG) (B:Nat) (m:List (Tr E2)),jU ρ B m lv sl af p us→az (R1 ρ B m) Am as'
 | [], [], aK, ds, k, _, h, ha => by
  simp only[gR,Option.some.injEq] at h;subst h
  match aK,ha with
  |[],_=>
   refine⟨[],fun _=>rfl,rfl,fun Am us hp _=>?_⟩
   simp only[zX,Option.some.injEq,Prod.mk.injEq] at hp
   obtain⟨rfl,rfl⟩:=hp
   exact⟨[],rfl,rfl,fun _ _ _ _=>trivial⟩
 | (a, l) :: ps, (b, cs) :: vs, aK, ds, k, hk, h, ha => by
  simp only[Cq,Bool.and_eq_true] at hk
  simp only[gR] at h
  split at h
  ·rename_i cs' ks ds2 hab hf hr
   obtain⟨d,hd,rfl⟩:=aM h
   have hab:a=b:=by simpa using hab
   subst hab
   match aK,ha with
   | x :: aK, ha =>
    obtain⟨ws,g5,g6,g7⟩:=Aw hm (lv:=lv) (sl:=sl) (af:=af) (p:=p) h0 yy hr2 Ao (k:=k+64) hk.2 hr ha.2
    have one : ∃ pK, (∀ rest, cH l (d ++ rest) = some (pK, rest)) ∧ ∀ EA us, oH rk lv sl af k pK = some (EA, us) → (∀ u ∈ us, row / 65536 = u.t.size) →
      ∃ a',jG m 0 row lv sl p k x=some (a',us.map fun u=>bx u.t u.l)∧∀ (ρ : bG) (B:Nat) (m:List (Tr E2)),jU ρ B m lv sl af p us→R1 ρ B m (a,EA) a':=by
     cases a with
     |true=>
      obtain⟨as2,rfl,YW⟩:=ha.1
      obtain⟨pK,q1,q2⟩:=vJ hm (k:=k) (lv:=lv) (sl:=sl) (af:=af) (p:=p) h0 yy hr2 Ao hk.1 hf hd YW
      refine⟨pK,q1,fun EA us hp hu=>?_⟩
      obtain⟨as',q3,q4⟩:=q2 EA us hp hu
      exact⟨.agg as',by simp only[jG,q3,Option.map_some],fun ρ B m hf=>⟨as',rfl,q4 _ _ _ hf⟩⟩
     | false =>
      obtain⟨c,rfl,YW⟩:=ha.1
      obtain⟨pK,q1,q2⟩:=vJ hm (k:=k) (lv:=lv) (sl:=sl) (af:=af) (p:=p) h0 yy hr2 Ao (aK:=[x]) hk.1 hf hd ⟨YW,trivial⟩
      refine⟨pK,q1,fun EA us hp hu=>?_⟩
      obtain⟨as',q3,q4⟩:=q2 EA us hp hu
      have hc:=RC.cell YW
      simp only[cA] at q3
      split at q3
      ·rename_i y u ys us' h1 h2
       simp only[Option.some.injEq,Prod.mk.injEq] at h2
       obtain⟨rfl,rfl⟩:=h2
       simp only[List.append_nil,Option.some.injEq,Prod.mk.injEq] at q3
       obtain⟨rfl,rfl⟩:=q3
       have hlen : ∃ x3, EA = [x3] := by
        have hq:=q1 []
        rw[List.append_nil] at hq
        have h1:∀ {l:List cG} {d:List ff} {xs:List Cell},cH l d=some (xs,[])→xs.length=l.length:=by
         intro l
         induction l with
         |nil=>intro d xs h;simp only[cH,Option.some.injEq,Prod.mk.injEq] at h;rw[←h.1];rfl
         | cons c l ih =>
          intro d xs h
          simp only[cH] at h
          split at h
          ·split at h
           ·rename_i h3
            simp only[Option.some.injEq,Prod.mk.injEq] at h
            obtain⟨rfl,rfl⟩:=h
            simp[ih h3]
           ·cases h
          ·cases h
        have h2:∀ {k:Nat} {xs EA:List Cell} {us:List SL},oH rk lv sl af k xs=some (EA,us)→EA.length=xs.length:=by
         intro k xs
         induction xs generalizing k with
         |nil=>intro EA us h;simp only[oH,Option.some.injEq,Prod.mk.injEq] at h;rw[←h.1]
         | cons c l ih =>
          intro EA us h
          simp only[oH] at h
          split at h
          ·rename_i h3
           simp only[Option.some.injEq,Prod.mk.injEq] at h
           obtain⟨rfl,rfl⟩:=h
           simp[ih h3]
          ·cases h
        have h3:l.length=1:=by
         have tV:∀ {cs:List cG} {xs:List Cell} {d:List ff},dX cs xs=some d→cs.length=xs.length:=by
          intro cs
          induction cs with
          |nil=>intro xs d h;cases xs with|nil=>rfl|cons _ _=>simp[dX] at h
          | cons c cs ih =>
           intro xs d h
           cases xs with
           |nil=>simp[dX] at h
           |cons x xs=>
            simp only[dX] at h
            split at h
            ·rename_i h3;simp[ih h3]
            ·cases h
         rw[tV hd]
         simp only[j5] at hf
         split at hf
         ·rename_i h3 h4
          simp only[Option.some.injEq,Prod.mk.injEq] at h4
          obtain⟨rfl,rfl⟩:=h4
          injection hf with hf;injection hf with hf _
          rw[←hf];rfl
         ·cases hf
        have:=h2 hp
        rw[h1 hq,h3] at this
        match EA,this with
        |[x3],_=>exact⟨x3,rfl⟩
       obtain⟨x3,rfl⟩:=hlen
       exact⟨y,by rw[L6 hc.2.1 hc.2.2];exact h1,fun ρ B m hf=>⟨x3,rfl,(q4 _ _ _ hf).1⟩⟩
      ·cases q3
    obtain⟨pK,q1,q2⟩:=one
    refine⟨(a,pK) :: ws,fun rest=>by simp only[fY,List.append_assoc,q1,g5],by simp[g6],fun Am us hp hu=>?_⟩
    simp only[zX] at hp
    split at hp
    ·rename_i z u1 zs u2 p1 p2
     simp only[Option.some.injEq,Prod.mk.injEq] at hp
     obtain⟨rfl,rfl⟩:=hp
     obtain⟨a',q3,q4⟩:=q2 _ _ p1 (fun u h=>hu u (List.mem_append_left _ h))
     obtain⟨as',q5,q6,q7⟩:=g7 _ _ p2 (fun u h=>hu u (List.mem_append_right _ h))
     exact⟨a' :: as',by simp only[fc,q3,q5,List.map_append],by simp[q6],fun ρ B m hf=>⟨q4 _ _ _ ⟨hf.1,hf.2.1,fun u h=>hf.2.2 u (List.mem_append_left _ h)⟩,q7 _ _ _ ⟨hf.1,hf.2.1,fun u h=>hf.2.2 u (List.mem_append_right _ h)⟩⟩⟩
    ·cases hp
  ·cases h
 |[],_ :: _,_,_,_,_,h,_=>by simp[gR] at h
 |_ :: _,[],_,_,_,_,h,_=>by simp[gR] at h
theorem Oq {ρ : bG} {B:Nat} {m2:List (Tr E2)} {m:List (Tr bH)} (hm:MR ρ B m2 m) {lv sl af p row rk:Nat} (h0:rk≠0) (yy:row % 65536=rk) (hr2:row / 65536≠0) (Ao:row % 65536≠65535) {res:List (Bool×List cG)} {vs ws Am:List (Bool×List Cell)} {aK:List AV} {ds:List ff} {us:List SL} {w:V2}
  (hk:Cq m2 rk 1 vs=true) (h:gR m2 res vs=some ds) (ha:az (R1 ρ B m2) vs aK) (hw:fY res ds=some (ws,[])) (hp:zX rk lv sl af 1 ws=some (Am,us)) (hu:∀ u∈us,row / 65536=u.t.size) (ht:gX Am=some w) :
  ∃ a',fI m 0 row lv sl p (gU aK)=some (a',us.map fun u=>bx u.t u.l)∧∀ (ρ : bG) (B:Nat) (m:List (Tr E2)),jU ρ B m lv sl af p us→RV ρ B m w a':=by
 obtain⟨ws1,g2,g3,g4⟩:=Aw hm (lv:=lv) (sl:=sl) (af:=af) (p:=p) h0 yy hr2 Ao (k:=1) hk h ha
 have rE:=g2 []
 rw[List.append_nil,hw] at rE
 injection rE with rE;injection rE with rE _;subst rE
 obtain⟨as',g1,g5,g6⟩:=g4 _ _ hp hu
 match aK,ha,g1,g5 with
 | [], _, g1, g5 =>
  match Am,g5 with
  |[],_=>
   simp only[gX,Option.some.injEq] at ht;subst ht
   simp only[fc,Option.some.injEq,Prod.mk.injEq] at g1
   obtain⟨rfl,g7⟩:=g1
   exact⟨.gZ [],by simp only[gU,fI,fc,Option.map_some];rw[←g7],fun _ _ _ _=>⟨[],rfl,trivial⟩⟩
 | [a], ha, g1, g5 =>
  match Am,g5 with
  | [(b, cs)], _ =>
   simp only[fc] at g1
   split at g1
   ·rename_i y u ys us' h1 h2
    simp only[Option.some.injEq,Prod.mk.injEq] at h2
    obtain⟨rfl,rfl⟩:=h2
    simp only[List.append_nil,Option.some.injEq,Prod.mk.injEq] at g1
    obtain⟨rfl,rfl⟩:=g1
    refine⟨y,?_,fun ρ B m hf=>?_⟩
    ·match vs, ha with
     |[(b',cs')],ha=>
      have hn:=R1.fO ha.1
      simp only[gU]
      cases a<;>first|exact h1|cases hn
    ·have hx := (g6 ρ B m hf).1
     simp only[gX] at ht
     cases b with
     |true=>
      obtain⟨bs,rfl,g7⟩:=hx
      simp only[jz,Option.some.injEq] at ht;subst ht
      exact⟨bs,rfl,g7⟩
     |false=>
      obtain⟨c,rfl,g7⟩:=hx
      simp only[jz,Option.some.injEq] at ht;subst ht
      exact g7
   ·cases g1
 | a :: b :: aK, ha, g1, g5 =>
  match Am,g5 with
  |x :: y :: Am,_=>
   simp only[gX,Option.some.injEq] at ht;subst ht
   exact⟨.gZ as',by simp only[gU,fI,g1,Option.map_some],fun ρ B m hf=>⟨as',rfl,g6 _ _ _ hf⟩⟩
theorem IL {ρ : bG} {s2:S2} {s:St} {α : Type} {K:List Cell→Option α} {r : α} {o:Tr AV} (hs:xq ρ [o] s2 s) (ho:jC o 0=.ptr 0 0 0 0 0) (h:yp s2 K=some r) :
  ∃ cs aK,fX s.mem 0 0 0=some aK∧az (RC ρ s2.nv s2.mem) cs aK∧K cs=some r:=by
 unfold yp at h
 split at h
 ·rename_i o2 h2
  have hout:=hs.outer
  rw[h2] at hout
  split at h
  ·rename_i lv sl af i off hp
   have hp:=hout.1 0 _ hp
   rw[ho] at hp
   obtain⟨_,u,hu,he⟩:=hp
   injection he with e1 e2 e3 e4 e5
   subst e1 e2 e3
   split at h
   ·rename_i v cs hb
    split at h
    ·rename_i hv
     have hv:=Nat.eq_of_beq_eq_true hv
     subst hv
     obtain⟨e,g1,_,u',bs,g2,rfl,g3⟩:=hs.mem.ec _ _ _ hb
     rw[hu] at g2;injection g2 with g2;subst g2
     refine⟨cs,bs,?_,g3,h⟩
     unfold fX
     rw[g1]
    ·cases h
   ·cases h
  ·cases h
 ·cases h
theorem Ko {f:Nat} {fn:cV} {aK:List AV} {Iu:List AV} {mem:List (Tr bH)} {nv n0:Nat} {ax:AX} {t:St} (hf:Fs f=some fn) (hnp:Nat.beq aK.length fn.np=true) (Ob:∀ id,ax≠.exit id) (q1:j6 t fn.res=some Iu)
  (hev:∀ k n,n0≤k→n0≤n→exec (ig Fs k) (yu Fs) n fn.body { slots:=dN 0 aK .lf,mem,aE:=.lf,nv } = some (ax,t)):∀ n,n0+1≤n→ig Fs n f aK mem .lf nv=some (gU Iu,t.mem,t.aE,t.nv):=by
 intro n hn
 obtain⟨n,rfl⟩:∃ k,n=k+1:=⟨n-1,by omega⟩
 simp only[ig,hf,hnp]
 have:=hev n n (by omega) (by omega)
 unfold yu at this
 rw[this]
 cases ax with
 |normal=>simp only[q1,Option.map_some]
 |ret=>simp only[q1,Option.map_some]
 |exit id=>exact absurd rfl (Ob id)
theorem VF (hE:aC Fs E) (N f:Nat) (args:List dJ) (ta:List Ty) (res:List (Bool×List cG)) (tr:List Ty) (rk:Nat) {l:List cG} {ps:List dJ} (hb:DQ args=some (l,ps)):N7 Fs f ⟨args,ta,res,tr,rk,bC E N f args ta res tr rk⟩ l ps:=by
 intro x y h
 simp only[bC] at h
 obtain⟨fn,hf,h⟩:=au h
 rw[hE.fns] at hf
 rw[hb] at h
 simp only at h
 split at h
 ·rename_i cs r hcs
  split at h
  ·rename_i vs hvs
   split at h
   ·rename_i hnp
    refine⟨cs,r,vs,hcs,hvs,fun bs aK HM has=>?_⟩
    let ρ : bG:=fun v=>some v
    have hst:∀ m,eg 0 [] m:=fun m _ _ _ _ h=>absurd h (by omega)
    have HY:MR ρ 1 (eN [.lf,.lf] [(0,0,some (.box 0 cs))]) (pS bs):=by
     have h0:MR ρ 1 [.lf,.lf] [.lf,.lf]:=⟨rfl,fun lv sl e he=>by
      have:=mo 2 lv sl
      rw[show ([.lf,.lf]:List (Tr E2))=List.replicate 2 .lf from rfl,this] at he
      cases he⟩
     exact h0.cK (us:=[(0,0,some (.box 0 bs))]) (Nat.le_refl _) (dA (ks:=[]) (e:=.box 0 cs) trivial) (dB ⟨by omega,0,bs,rfl,rfl,HM.mono fun _ _=>RC.move (hst _) (by omega) fun _ h=>absurd h (by omega)⟩)
    have aab:∀ m,RV ρ 1 m (.c (.ptr 0 0 0 0 0)) (.ptr 0 0 0 0 0):=fun m=>⟨by omega,0,rfl,rfl⟩
    have tR:jC (Tr.set .lf 0 (some (.ptr 0 0 0 0 0))) 0=AV.ptr 0 0 0 0 0:=rfl
    have start:xq ρ [Tr.set .lf 0 (some (.ptr 0 0 0 0 0))] { slots:=gN 0 (.c (.ptr 0 0 0 0 0) :: vs) .lf,outer:=[Tr.set .lf 0 (some (.c (.ptr 0 0 0 0 0)))],mem:=eN [.lf,.lf] [(0,0,some (.box 0 cs))],aE:=.lf,nv:=1 } { slots:=dN 0 (.ptr 0 0 0 0 0 :: aK) .lf,mem:=pS bs,aE:=.lf,nv:=1 }:=by
     refine⟨oO ⟨aab _,has.mono fun _ _=>RV.move (hst _) (by omega) fun _ h=>absurd h (by omega)⟩,⟨fun k v hk=>?_,trivial⟩,HY,fun v hv=>?_,⟨fun v u hv hu=>?_,fun v hv=>?_,fun v v' u h h'=>?_⟩,Nat.le_refl _⟩
     ·rw [Tr.cr] at hk
      split at hk
      ·rename_i e
       subst e
       injection hk with hk;subst hk
       exact aab _
      ·simp[Tr.get?] at hk
     ·simp at hv
     ·injection hu with hu;subst hu;exact hv
     ·have hv : 1 ≤ v := hv
      show some v=some (1+(v-1))
      congr 1
      omega
     ·injection h with h;injection h' with h';rw[h,h']
    obtain⟨ax,t2,ρ',t,⟨n0,hev⟩,g2,g3,g4,g5⟩:=yw hE N _ _ _ _ _ _ _ h _ _ _ start
    have Ob:∀ id,ax≠.exit id:=by intro id e;subst e;cases g5
    have g5:(yp t2 fun cs'=>uA t2 fn.res fun vs=>match hiR 1 ((true,cs') :: vs) with
      |true=>bW (gR t2.mem res ((true,cs') :: vs)) fun ds=>pack tr ds
      |false=>none)=some y:=by
     cases ax with
     |exit id=>cases g5
     |normal=>exact g5
     |ret=>exact g5
    obtain⟨cs1,bs1,q1,q2,g5⟩:=IL g2 tR g5
    obtain⟨Ui,Iu,q3,q4,g5⟩:=uL g2.mem g2.slots g5
    split at g5
    case h_2=>cases g5
    rename_i hhi
    obtain⟨ds,q5,q6⟩:=au g5
    have hhi:∀ v∈(true,cs1) :: Ui,∀ x∈v.2,QG 1 x=true:=fun v hv x hx=>List.all_eq_true.1 (List.all_eq_true.1 hhi v hv) x hx
    refine⟨n0+1,gU Iu,t.mem,t.aE,t.nv,Ko hf (by simpa[←has.length] using hnp) Ob q3 hev,fun new ws w iM hw=>?_⟩
    simp only at iM
    rw[cO q6] at iM
    match res,q5,iM with
    | (a, l1) :: ps1, q5, iM =>
     simp only[gR] at q5
     split at q5
     ·rename_i cs' ks ds2 hab hfz hr
      obtain⟨d,hd,rfl⟩:=aM q5
      obtain⟨as',pK,g6,g7,g8,g9⟩:=uN g2.mem (k:=0) (lv:=0) (sl:=0) (af:=0) (hhi _ List.mem_cons_self) hfz hd q2
      simp only[fY,g7] at iM
      split at iM
      ·rename_i xs r'' h2
       simp only[Option.some.injEq,Prod.mk.injEq,List.cons.injEq] at iM
       obtain⟨⟨⟨_,rfl⟩,rfl⟩,rfl⟩:=iM
       obtain⟨a',g10,g11,g12⟩:=Kn g2.mem (lv:=0) (sl:=0) (af:=0) (fun v hv=>hhi v (List.mem_cons_of_mem _ hv)) hr q4 h2 hw
       exact⟨bs1,as',a',q1,g6,g8,g10,g11,fun ρ B m=>⟨g9 _ _ _,g12 _ _ _⟩⟩
      ·cases iM
     ·cases q5
   ·cases h
  ·cases h
 ·cases h
theorem bF (hE:aC Fs E) (N f:Nat) (args:List dJ) (ta:List Ty) (res:List (Bool×List cG)) (tr:List Ty) (rk:Nat):bt Fs f ⟨args,ta,res,tr,rk,bC E N f args ta res tr rk⟩:=by
 refine⟨fun hb=>?_,fun l ps hb=>VF hE N f args ta res tr rk hb⟩
 intro x y h
 simp only[bC] at h
 obtain⟨fn,hf,h⟩:=au h
 rw[hE.fns] at hf
 simp only at hb
 rw[hb] at h
 simp only at h
 split at h
 ·rename_i vs hvs
  split at h
  ·rename_i hnp
   refine⟨vs,hvs,fun aK has=>?_⟩
   let ρ : bG:=fun v=>some v
   have start:xq ρ [] { slots:=gN 0 vs .lf,outer:=[],mem:=[.lf],aE:=.lf,nv:=0 } { slots:=dN 0 aK .lf,mem:=[.lf],aE:=.lf,nv:=0 }:=by
    refine⟨oO (has.mono fun _ _=>RV.move (fun _ _ _ _ h=>absurd h (by omega)) (Nat.le_refl _) fun _ h=>absurd h (by omega)),trivial,⟨rfl,fun lv sl e he=>?_⟩,fun v hv=>?_,⟨fun v u hv=>?_,fun v _=>?_,fun v v' u h h'=>?_⟩,Nat.le_refl _⟩
    ·have := mo 1 lv sl
     rw[show ([.lf]:List (Tr E2))=List.replicate 1 .lf from rfl,this] at he
     cases he
    ·simp at hv
    ·exact absurd hv (by simp)
    ·show some v=_;simp
    ·injection h with h;injection h' with h';rw[h,h']
   obtain⟨ax,t2,ρ',t,⟨n0,hev⟩,g2,g3,g4,g5⟩:=yw hE N _ _ _ _ _ _ _ h _ _ _ start
   have Ob:∀ id,ax≠.exit id:=by intro id e;subst e;cases g5
   have g5:(uA t2 fn.res fun vs=>match Vr t2.mem rk vs && !Nat.beq rk 65535 with
     |true=>bW (gR t2.mem res vs) fun ds=>pack tr ds
     |false=>none)=some y:=by
    cases ax with
    |exit id=>cases g5
    |normal=>exact g5
    |ret=>exact g5
   obtain⟨Ui,Iu,q1,q2,g5⟩:=uL g2.mem g2.slots g5
   split at g5
   case h_2=>cases g5
   rename_i xW
   rw[Bool.and_eq_true] at xW
   obtain⟨xW,Ao⟩:=xW
   have Ao:rk≠65535:=by intro e;rw[e] at Ao;cases Ao
   obtain⟨ds,q3,q4⟩:=au g5
   refine⟨n0+1,gU Iu,t.mem,t.aE,t.nv,fun n hn=>?_,fun ws iM=>⟨fun _ w hw lv sl aR=>?_,fun row lv sl af p Am us w h0 yy hr2 hp hu hw=>?_⟩⟩
   ·exact Ko hf (by rw[←has.length];exact hnp) Ob q1 hev n hn
   ·simp only at iM
    rw[cO q4] at iM
    obtain⟨a',p1,_,p2⟩:=Kn (top:=0) g2.mem (fun _ _ _ _=>Ro _) q3 q2 iM hw
    exact⟨a',p1,p2⟩
   ·simp only at iM
    rw[cO q4] at iM
    simp only at h0 yy hp
    have xW:Cq t2.mem rk 1 Ui=true:=by
     unfold Vr at xW
     rw[beq_false.2 h0] at xW
     exact xW
    exact Oq g2.mem h0 yy hr2 (by rw[yy];exact Ao) xW q3 q2 iM hp hu hw
  ·cases h
 ·cases h
end
end Go.Sym
