/- The machine over typed data: regions, code, loops, functions. -/
import Derived.Test.YthphehfgekjooaaGreatDoorSymJ
import Derived.Test.YthphehfgekjooaaGreatDoorSymGM
set_option linter.unusedVariables false
set_option linter.unusedSimpArgs false
namespace Go.Sym
open Go Go.bq
section
variable {Fs:Tb} {E:au} {wk:Wk} {α : Type} {ρ : aR} {nx rem p:Nat} {os:List (Tr AV)} {s2:S2} {s:St} {ctx row d:Nat} {K:fP→Option α} {r : α}
theorem Ff (hwk:Kw Fs wk) (hE:aF Fs E) (hi:RI ρ nx (rem+1) os s2 s p) {op:bL} (h:ck E wk ctx s2 row d nx op K=some r) :
  ∃ r2 e,(∃ n0,∀ n,n0≤n→op.run (gU Fs n) (ze Fs) s row d p=some e)∧nM ρ nx os s2 s r2 e∧K r2=some r:=by
 have dY : ρ nx=some p:=by simpa using hi.yJ 0 (by omega)
 have hm:=hi.mem
 have ht:=hi.aB
 have bI:=hi.slots
 have hB:nx≤nx:=Nat.le_refl _
 have x5:nx≤nx+1:=by omega
 have hinj:=hi.aa.inj
 have conv:cV ρ nx (nx+1) s2 s op row d p K r→∃ r2 e,(∃ n0,∀ n,n0≤n→op.run (gU Fs n) (ze Fs) s row d p=some e)∧nM ρ nx os s2 s r2 e∧K r2=some r:=by
  rintro⟨E',e,h1,h2,h3⟩
  exact⟨.bC E',.bC e,⟨0,fun n _=>h1 _ _⟩,h2,h3⟩
 cases op with
 |Gv x=>exact conv (QS hm ht bI hB dY h)
 |compact x=>exact conv (E8 hm ht bI hB dY h)
 |pick c a b=>exact conv (NT hm ht bI x5 h)
 |alloc z=>exact conv (Kp hm ht hB dY h)
 |box x=>exact conv (QO hm ht bI hB dY h)
 |build z ps=>exact conv (Kl hm ht bI x5 h)
 |buildSlice sz n z ps=>exact conv (yI hm ht bI hB dY h)
 |load sz agg x=>exact conv (N2 hm ht bI hB h)
 |store sz x v=>exact conv (Kq hm ht bI hB h)
 |nilCheck x=>exact conv (Co hm ht bI x5 h)
 |bin op x y=>exact conv (QK hm ht bI x5 h)
 |TT neg x y=>exact conv (QL hm ht bI x5 h)
 |TU neg sz l x y=>exact conv (QM hm ht bI x5 h)
 |un op x=>exact conv (UJ hm ht bI x5 h)
 |conv k x=>exact conv (NV hm ht bI x5 h)
 |field off sz agg x=>exact conv (Ko hm ht bI x5 h)
 |fieldAddr off x=>exact conv (AG hm ht bI x5 h)
 |indexAddr sz x i=>exact conv (AI hm ht bI x5 h)
 |jz n sz x i=>exact conv (Cp hm ht bI x5 h)
 |oY n sz agg x i=>exact conv (HH hm ht bI x5 h)
 |oZ x i=>exact conv (HJ hm ht bI x5 h)
 |slice sz x lo hi mx=>exact conv (Kr hm ht bI hB dY h)
 |o6 x lo hi=>exact conv (HK hm ht bI x5 h)
 |extract x i=>exact conv (E5 hm ht bI x5 h)
 |len x=>exact conv (QN hm ht bI x5 h)
 |Eg x=>exact conv (NY hm ht bI x5 h)
 |Gw x=>exact conv (NX hm ht bI x5 h)
 |Cf n=>exact conv (NZ hm ht x5 h)
 |Eh x y=>exact conv (N0 hm ht bI x5 h)
 |Ei x y=>exact conv (N1 hm ht bI x5 h)
 |append sz bytes x y=>exact conv (HN hm ht bI hB dY hinj h)
 |ny sz bytes z x n=>exact conv (E7 hm ht bI hB dY hinj h)
 |clone sz bytes x=>exact conv (Ks hm ht bI hB dY hinj h)
 |sort x=>exact conv (N6 hm ht bI hB h)
 |copy sz x y=>exact conv (N4 hm ht bI hB h)
 |makeSlice sz bytes z l c=>exact conv (AN hm ht bI hB dY h)
 |makeFunc f cap=>exact conv (Cq hm ht bI x5 h)
 |clear sz z x=>exact conv (Kt hm ht bI hB h)
 |grow sz x n=>exact conv (N7 hm ht bI hB dY h)
 | call f args =>
  simp[ck] at h
  split at h
  ·rename_i h7 h8 h9 h10
   obtain⟨vs,hv,h⟩:=ak h
   obtain⟨r2,e,⟨n0,h1⟩,h2,h3⟩:=AS hwk hE hi (by omega) h (pR bI hv)
   exact⟨r2,e,⟨n0,fun n hn=>by simp only[bL.run,h7,h8,h9,h10];exact h1 n hn⟩,h2,h3⟩
  ·rename_i h7 h8 h9
   obtain⟨vs,hv,h⟩:=ak h
   obtain⟨r2,e,⟨n0,h1⟩,h2,h3⟩:=Q7 hE hi h (pR bI hv)
   exact⟨r2,e,⟨n0,fun n hn=>by simp only[bL.run,h7,h8,h9];exact h1 n hn⟩,h2,h3⟩
  grind
 | um f args =>
  obtain⟨vs,hv,h⟩:=ak h
  have hse:E.sh f=ze Fs f:=by simp[au.sh,ze,hE.fns]
  rw[hse] at h
  cases Xa:ze Fs f with
  |true=>
   rw[Xa] at h
   obtain⟨r2,e,⟨n0,h1⟩,h2,h3⟩:=AS hwk hE hi (by omega) h (pR bI hv)
   refine⟨r2,e,⟨n0,fun n hn=>?_⟩,h2,h3⟩
   have:=h1 n hn
   rw[Xa] at this
   simp[bL.run,Xa,this]
  |false=>
   rw[Xa] at h
   obtain⟨r2,e,⟨n0,h1⟩,h2,h3⟩:=Of hE hi h (pR bI hv)
   exact⟨r2,e,⟨n0,fun n hn=>by simp only[bL.run,Xa,h1 n hn]⟩,h2,h3⟩
 | zA x args =>
  simp[ck] at h
  split at h
  ·rename_i f cap hx
   obtain⟨vs,hv,h⟩:=ak h
   obtain⟨aD,he,hc⟩:=aO bI hx
   have hc:aq (RV ρ nx s2.mem) (cap.map .c) aD:=by
    have:∀ {cs:List Cell} {aD:List AV},aq (RC ρ nx s2.mem) cs aD→aq (RV ρ nx s2.mem) (cs.map .c) aD:=by
     intro cs
     induction cs with
     |nil=>intro aD h;match aD,h with|[],_=>trivial
     |cons c cs ih=>intro aD h;match aD,h with|a :: aD,h=>exact⟨h.1,ih h.2⟩
    grind
   obtain⟨r2,e,⟨n0,h1⟩,h2,h3⟩:=AS hwk hE hi (by omega) h ((pR bI hv).append hc)
   exact⟨r2,e,⟨n0,fun n hn=>by simp only[bL.run,he];exact h1 n hn⟩,h2,h3⟩
  grind
 |sliceB n sz x=>exact conv (HL hm ht bI x5 h)
 |W1 x=>exact conv (QU hm ht bI hB h)
 |W2 x=>exact conv (QV hm ht bI hB h)
 |mkSet=>exact conv (Ku hm ht hB dY h)
 |Gx x y=>exact conv (N8 hm ht bI hB h)
 |Gy x y=>exact conv (N9 hm ht bI hB h)
 |xe neg x=>exact conv (Kn hm ht bI x5 h)
 |qA lo n sz x=>exact conv (HG hm ht bI x5 h)
 |bad=>simp[ck] at h
theorem RI.Ra (hi:RI ρ nx rem os s2 s p) {g:Nat} {t:Bool} (hg:iJ s.slots g=.d (.sc (.bool t))):RI ρ nx rem os { s2 with slots:=s2.slots.set g (some (.c (.bool t))) } s p:=by
 refine⟨fun k v hk=>?_,hi.outer,hi.mem,hi.aB,hi.aa,hi.yJ,hi.nv,hi.pn⟩
 rw[Tr.bQ] at hk
 split at hk
 ·subst_vars
  cases hk
  exact hg
 ·exact hi.slots k v hk
theorem H6 (hwk:Kw Fs wk) (hE:aF Fs E) (hi:RI ρ nx (rem+1) os s2 s p) {o:aY} {K:S2→fP→Option α} (h:step2 E wk ctx s2 nx o K=some r) :
  ∃ s2' r2 e,(∃ n0,∀ n,n0≤n→o.step (gU Fs n) (ze Fs) s p=some e)∧RI ρ nx (rem+1) os s2' s p∧nM ρ nx os s2' s r2 e∧K s2' r2=some r:=by
 have skip:∀ {s2'},RI ρ nx (rem+1) os s2' s p→nM ρ nx os s2' s (jJ (.gN [])) (.bC { val:=je,cv:=[],bR:=[],rd:=[] }):=fun hi'=>
  mU.wE hi'.mem hi'.aB (by omega) lJ aK.nil
 unfold step2 at h
 split at h
 ·rename_i hg
  obtain⟨r2,e,⟨n0,h1⟩,h2,h3⟩:=Ff hwk hE hi h
  refine⟨s2,r2,e,⟨n0,fun n hn=>?_⟩,hi,h2,h3⟩
  simp[aY.step,ja,hg]<;>grind
 ·rename_i g b hg
  split at h
  ·rename_i t ht
   have hv:iJ s.slots g=.d (.sc (.bool t)):=hi.slots g _ ht
   have hi':=hi.Ra hv
   cases t with
   | true =>
    cases b with
    |true=>
     obtain⟨r2,e,⟨n0,h1⟩,h2,h3⟩:=Ff hwk hE hi' h
     refine⟨_,r2,e,⟨n0,fun n hn=>?_⟩,hi',h2,h3⟩
     simp[aY.step,ja,hg,hv,beq_self_eq_true]<;>grind
    |false=>
     refine⟨_,_,_,⟨0,fun n _=>?_⟩,hi',skip hi',h⟩
     simp[aY.step,ja,hg,hv]
     rfl
   | false =>
    cases b with
    |true=>
     refine⟨_,_,_,⟨0,fun n _=>?_⟩,hi',skip hi',h⟩
     simp[aY.step,ja,hg,hv]
     rfl
    |false=>
     obtain⟨r2,e,⟨n0,h1⟩,h2,h3⟩:=Ff hwk hE hi' h
     refine⟨_,r2,e,⟨n0,fun n hn=>?_⟩,hi',h2,h3⟩
     simp[aY.step,ja,hg,hv,beq_self_eq_true]<;>grind
  ·rename_i ht
   obtain⟨aD,hv,_⟩:=hi.slots g _ ht
   refine⟨_,_,_,⟨0,fun n _=>?_⟩,hi,skip hi,h⟩
   simp[aY.step,ja,hg,hv]
   rfl
  grind
theorem MB {B:Nat} {m:List (Tr E2)} {t:Tr V2} {o:Tr AV} (h:tM ρ B m t o) {v:V2} {a:AV} (hv:RV ρ B m v a) (dst:Option Nat):tM ρ B m (Uv t dst v) (uo o dst a):=by
 cases dst with
 |none=>exact h
 | some n =>
  intro k w hk
  simp[Uv] at hk
  simp[uo,iJ]
  rw[Tr.bQ] at hk ⊢
  split at hk
  ·grind
  ·rename_i hne
   rw[if_neg hne]
   exact h k w hk
theorem RI.bC (hi:RI ρ nx (rem+1) os s2 s p) {E':Ho} {e:eU} (h:mU ρ nx (nx+1) s2 s E' e) (dst:Option Nat):RI ρ (nx+1) rem os (s2.app dst (.bC E')) (s.app dst (.bC e)) (p+1):=by
 refine⟨?_,?_,h.mem,h.aB,hi.aa,fun j hj=>?_,?_,?_⟩
 ·exact MB (hi.slots.move h.adk (by omega) fun _ _=>rfl) h.val dst
 ·exact gC h.adk (by omega) (fun _ _=>rfl) hi.outer
 ·have:=hi.yJ (j+1) (by omega)<;>grind
 ·have := hi.nv
  show nx+1+rem=s2.nv
  omega
 ·have := hi.pn
  show p+1+rem≤s.nv
  omega
theorem RI.all (hi:RI ρ nx (rem+1) os s2 s p) {v:V2} {t2:S2} {a:AV} {m:List (Tr aZ)} {t:Tr Unit} {n:Nat} (h:nM ρ nx os s2 s (.all v t2) (.all a m t n)) (dst:Option Nat) :
  ∃ ρ',RI ρ' t2.nv rem os { t2.app dst (.all v t2) with nv:=t2.nv+rem } (s.app dst (.all a m t n)) (p+1)∧Fr ρ (nx+1) s.nv ρ' t2.nv∧s.nv≤n:=by
 obtain⟨ρ1,hs,hv,hf,hn⟩:=h
 have hpn:=hi.pn
 let ρ':aR:=fun v=>if v<t2.nv then ρ1 v else if v<t2.nv+rem then some (p+1+(v-t2.nv)) else some (n+(v-(t2.nv+rem)))
 have e1:∀ v,v<t2.nv→ρ' v = ρ1 v:=fun v h=>if_pos h
 have e3:∀ v,t2.nv+rem≤v→ρ' v=some (n+(v-(t2.nv+rem))):=fun v h=>by
  show (if v<t2.nv then _ else _)=_
  rw[if_neg (by omega),if_neg (by omega)]
 have apart:∀ v u,v<t2.nv→ρ1 v=some u→u<p+1∨p+1+rem≤u:=by
  intro v u hv hu
  rcases hf v u hv hu with⟨w,hw,Fe⟩|h'
  ·rcases Nat.lt_or_ge u (p + 1) with h1 | h1
   ·grind
   ·rcases Nat.lt_or_ge u (p + 1 + rem) with h2 | h2
    ·have := hi.yJ (u - p) (by omega)
     rw[show p+(u-p)=u from by omega] at this
     have:=hi.aa.inj _ _ _ Fe this<;>omega
    omega
  omega
 refine⟨ρ',⟨?_,?_,?_,?_,?_,fun j hj=>?_,rfl,?_⟩,?_,hn⟩
 ·exact MB (hs.slots.move (dR.refl _ _) (Nat.le_refl _) e1) (hv.move (dR.refl _ _) (Nat.le_refl _) e1) dst
 ·exact gC (dR.refl _ _) (Nat.le_refl _) e1 hs.outer
 ·exact hs.mem.ren e1
 ·intro v hv
  obtain⟨h1,h2⟩:=hs.aB v hv
  exact⟨h1,fun u hu=>h2 u (by rw[←e1 v h1];exact hu)⟩
 ·refine ⟨fun v u hv hu => ?_, fun v hv => e3 v hv, fun v v' u hu j7 => ?_⟩
  ·show u < n
   rcases Nat.lt_or_ge v t2.nv with h1|h1
   ·rw [e1 v h1] at hu
    exact hs.aa.low v u h1 hu
   grind
  ·rcases Nat.lt_or_ge v t2.nv with h1 | h1
   ·rw [e1 v h1] at hu
    have mw:=hs.aa.low v u h1 hu
    rcases Nat.lt_or_ge v' t2.nv with h2|h2
    ·rw [e1 v' h2] at j7
     exact hs.aa.inj v v' u hu j7
    grind
   ·rcases Nat.lt_or_ge v (t2.nv + rem) with h3 | h3
    ·grind
    ·simp_all
     rcases Nat.lt_or_ge v' t2.nv with h2|h2
     ·rw [e1 v' h2] at j7
      have:u<n:=hs.aa.low v' u h2 j7<;>omega
     grind
 ·grind
 ·show p + 1 + rem ≤ n
  omega
 ·intro v u hv hu
  rw[e1 v hv] at hu
  exact hf v u hv hu
theorem RI.done (hi:RI ρ nx 0 os s2 s p):xX ρ os s2 s:=by
 have:nx=s2.nv:=hi.nv
 subst this
 exact⟨hi.slots,hi.outer,hi.mem,hi.aB,hi.aa,Nat.le_refl _⟩
def Rb (ρ : aR) (nx:Nat) (os:List (Tr AV)) (lo n:Nat) (K:S2→Option α) (r : α) (s':St):Prop:=
 ∃ ρ' s2',xX ρ' os s2' s'∧Fr ρ nx lo ρ' s2'.nv∧n≤s'.nv∧K s2'=some r
theorem tO (hwk:Kw Fs wk) (hE:aF Fs E) {K:S2→Option α} {lW lo:Nat} : ∀ {ops:List aY} {i nx:Nat} {ρ : aR} {s2:S2} {s:St},y9 E wk ctx nx ops s2 K=some r→RI ρ nx ops.length os s2 s (lW+i)→lo≤lW→
  ∃ s',(∃ n0,∀ n,n0≤n→ko (gU Fs n) (ze Fs) lW i ops s=some s')∧Rb ρ nx os lo s.nv K r s'
 | [], i, nx, ρ, s2, s, h, hi, _ => ⟨s, ⟨0, fun _ _ => rfl⟩, ρ, s2, hi.done, by
   have:nx=s2.nv:=hi.nv
   subst this
   exact Fr.refl _ _ _,Nat.le_refl _,h⟩
 | o :: ops, i, nx, ρ, s2, s, h, hi, hlo => by
  obtain⟨s2',r2,e,⟨n0,h1⟩,h2,h3,h4⟩:=H6 hwk hE hi h
  cases r2 with
  | bC E' =>
   cases e with
   | bC e =>
    have hi':=h2.bC h3 o.dst
    rw[Nat.add_assoc] at hi'
    obtain⟨s',⟨n1,g1⟩,ρ',s3,g2,g3,g4,g5⟩:=tO hwk hE h4 hi' hlo
    refine⟨s',⟨max n0 n1,fun n hn=>?_⟩,ρ',s3,g2,fun v u hv hu=>?_,g4,g5⟩
    ·simp[ko,h1 n (by omega)]<;>grind
    ·rcases g3 v u hv hu with ⟨w, hw, Fe⟩ | h'
     ·by_cases hwn : w = nx
      ·have:=hi.yJ 0 (by simp)<;>grind
      grind
     omega
   |all=>exact h3.elim
  | all v t2 =>
   cases e with
   |bC e=>exact h3.elim
   | all a m t n' =>
    obtain⟨ρ1,hi',hf,hn'⟩:=h2.all h3 o.dst
    rw[Nat.add_assoc] at hi'
    obtain⟨s',⟨n1,g1⟩,ρ',s3,g2,g3,g4,g5⟩:=tO hwk hE h4 hi' hlo
    have hsn:lo≤s.nv:=by have:=hi.pn;omega
    refine⟨s',⟨max n0 n1,fun n hn=>?_⟩,ρ',s3,g2,fun v u hv hu=>?_,Nat.le_trans hn' g4,g5⟩
    ·simp[ko,h1 n (by omega)]<;>grind
    ·rcases g3 v u hv hu with ⟨w, hw, Fe⟩ | h'
     ·rcases hf w u hw Fe with ⟨w', hw', ahx⟩ | h'
      ·by_cases hwn : w' = nx
       ·have:=hi.yJ 0 (by simp)<;>grind
       grind
      omega
     omega
def rH (ρ : aR):fP→cR→Prop
 |.bC E,.bC e=>aK ρ E.rd e.rd∧aK ρ E.wr e.wr
 |.all _ _,_=>True
 |_,_=>False
def MC (ρ : aR):List (Nat×fP)→List (Nat×cR)→Prop:=aq fun x y=>x.1=y.1∧rH ρ x.2 y.2
theorem Rc {a b:Nat×Nat×Nat} : keq a b=true↔a=b:=by
 obtain⟨a1,a2,a3⟩:=a
 obtain⟨b1,b2,b3⟩:=b
 simp[keq,and_assoc]
theorem KR.inj (hinj:∀ v v' u,ρ v=some u→ρ v'=some u→v=v') {a b k:Nat×Nat×Nat} (ha:KR ρ a k) (hb:KR ρ b k):a=b:=by
 rcases ha with⟨rfl,h⟩|⟨v,u,rfl,rfl,hu⟩
 ·rcases hb with ⟨rfl, _⟩ | ⟨v', u', rfl, rfl, _⟩
  ·rfl
  ·cases h
 ·rcases hb with ⟨rfl, h⟩ | ⟨v', u', rfl, h, j7⟩
  ·cases h
  ·have : u = u' := by simpa [jw] using h
   grind
theorem AT (hinj:∀ v v' u,ρ v=some u→ρ v'=some u→v=v') {a2 b2 a b:List (Nat×Nat×Nat)} (ha:aK ρ a2 a) (hb:aK ρ b2 b) (h:wB a2 b2=false):meets a b=false:=by
 rw[Bool.eq_false_iff]
 intro hm
 unfold meets at hm
 rw[List.any_eq_true] at hm
 obtain⟨k,hk,hc⟩:=hm
 obtain⟨k2,h1,h2⟩:=ha k hk
 obtain⟨k2',h3,h4⟩:=hb k (by simpa using hc)
 have:=KR.inj hinj h2 h4
 subst this
 have:wB a2 b2=true:=by
  unfold wB
  rw[List.any_eq_true]
  exact⟨k2,h1,by rw[List.any_eq_true];exact⟨k2,h3,Rc.2 rfl⟩⟩
 rw[h] at this
 cases this
theorem keys_nil {l:List (Nat×Nat×Nat)} (h:aK ρ [] l):l=[]:=by
 cases l with
 |nil=>rfl
 |cons k l=>obtain⟨_,h1,_⟩:=h k List.mem_cons_self<;>grind
theorem quiet {E':Ho} {e:eU} (h:ou (.bC E')=false) (hr:rH ρ (.bC E') (.bC e)):e.rd=[]∧e.cv=[]∧e.bR=[]:=by
 simp[ou,Bool.not_eq_false',Bool.and_eq_true,List.isEmpty_iff] at h
 obtain⟨⟨h1,h2⟩,h3⟩:=h
 obtain⟨k1,k2⟩:=hr
 rw[h1] at k1
 have hw:E'.wr=[]:=by simp[Ho.wr,h2,h3]
 rw[hw] at k2
 have:=keys_nil k2
 simp[eU.wr,List.append_eq_nil_iff,List.map_eq_nil_iff] at this
 exact⟨keys_nil k1,this.1,this.2⟩
theorem KA {e:eU} (h:e.rd=[]∧e.cv=[]∧e.bR=[]):j9 (.bC e)=false:=by
 grind[j9]
theorem x6 {x:cR} {e:eU} (h:e.rd=[]∧e.cv=[]∧e.bR=[]):uu x (.bC e)=false∧uu (.bC e) x=false:=by
 have hl:=KA h
 obtain⟨h1,h2,h3⟩:=h
 have hw:e.wr=[]:=by simp[eU.wr,h2,h3]
 cases x with
 |bC a=>simp[uu,h1,hw,meets]
 |all=>simp[uu,hl]
theorem Re (hinj:∀ v v' u,ρ v=some u→ρ v'=some u→v=v') {x2 r2:fP} {x e:cR} (hx:rH ρ x2 x) (he:rH ρ r2 e) (hr:∀ v t,r2=.all v t→∃ a m tt n,e=.all a m tt n) (h:wC x2 r2=false):uu x e=false:=by
 cases r2 with
 | bC E' =>
  cases e with
  |all=>exact he.elim
  | bC e =>
   cases x2 with
   | bC X =>
    cases x with
    |all=>exact hx.elim
    |bC x=>
     simp[wC,Bool.or_eq_false_iff] at h
     simp[uu,Bool.or_eq_false_iff]
     exact⟨⟨AT hinj hx.1 he.2 h.1.1,AT hinj hx.2 he.1 h.1.2⟩,AT hinj hx.2 he.2 h.2⟩
   |all v t=>
    have:ou (.bC E')=false:=by simpa[wC,ou] using h
    exact (x6 (quiet this he)).1
 | all v t =>
  cases x2 with
  | bC X =>
   cases x with
   |all=>exact hx.elim
   |bC x=>
    have:ou (.bC X)=false:=by simpa[wC,ou] using h
    exact (x6 (quiet this hx)).2
  |all v' t'=>simp[wC,ou] at h
theorem uI (hinj:∀ v v' u,ρ v=some u→ρ v'=some u→v=v') {mJ:Nat} {r2:fP} {e:cR} (he:rH ρ r2 e) (hr:∀ v t,r2=.all v t→∃ a m tt n,e=.all a m tt n):∀ {xP:List (Nat×fP)} {past:List (Nat×cR)},MC ρ xP past→E0 mJ r2 xP=true→clear mJ e past=true
 |[],[],_,_=>rfl
 |(i,x2) :: r2',(j,x) :: r',hp,h=>by
  obtain⟨⟨h1,h2⟩,h3⟩:=hp
  subst h1
  simp[E0,Bool.and_eq_true,Bool.or_eq_true,Bool.not_eq_true'] at h
  simp[clear,Bool.and_eq_true,Bool.or_eq_true,Bool.not_eq_true']
  exact⟨h.1.imp id (Re hinj h2 he hr),uI hinj he hr h3 h.2⟩
 |[],_ :: _,h,_=>h.elim
 |_ :: _,[],h,_=>h.elim
theorem H7 {ρ':aR} : ∀ {l2:List (Nat×fP)} {l:List (Nat×cR)},MC ρ l2 l→MC ρ' (xP l2) l
 |[],[],_=>trivial
 | (i, x2) :: r2', (j, x) :: r', hp => by
  obtain⟨⟨h1,h2⟩,h3⟩:=hp
  refine⟨⟨h1,?_⟩,H7 h3⟩
  show rH ρ' (match ou x2 with|true=>_|false=>x2) x
  cases hl:ou x2 with
  |true=>trivial
  | false =>
   cases x2 with
   |all=>simp[ou] at hl
   | bC X =>
    cases x with
    |all=>exact h2.elim
    | bC x =>
     obtain⟨q1,q2,q3⟩:=quiet hl h2
     refine⟨?_,?_⟩
     ·rw[q1];exact aK.nil
     ·have : x.wr = [] := by simp [eU.wr, q2, q3]
      rw[this];exact aK.nil
 |[],_ :: _,h=>h.elim
 |_ :: _,[],h=>h.elim
theorem nM.key {r2:fP} {e:cR} (h:nM ρ nx os s2 s r2 e):rH ρ r2 e∧∀ v t,r2=.all v t→∃ a m tt n,e=.all a m tt n:=by
 cases r2 with
 |bC E'=>cases e with
  |bC e=>exact⟨⟨h.rd,h.wr⟩,fun _ _ h=>by cases h⟩
  |all=>exact h.elim
 |all v t=>cases e with
  |bC e=>exact h.elim
  |all a m tt n=>simp_all[nM,aR,rH]
theorem tP (hwk : Kw Fs wk) (hE : aF Fs E) {K : S2 → Option α} {lW lo : Nat} : ∀ {ops : List aY} {i nx : Nat} {ρ : aR} {s2 : S2} {s : St} {xP : List (Nat × fP)} {past : List (Nat × cR)}, za E wk ctx i nx ops xP s2 K = some r → MC ρ xP past → RI ρ nx ops.length os s2 s (lW + i) → lo ≤ lW →
  ∃ s',(∃ n0,∀ n,n0≤n→jC (gU Fs n) (ze Fs) lW i ops past s=some s')∧Rb ρ nx os lo s.nv K r s'
 | [], i, nx, ρ, s2, s, _, _, h, _, hi, _ => ⟨s, ⟨0, fun _ _ => rfl⟩, ρ, s2, hi.done, by
   have:nx=s2.nv:=hi.nv
   subst this
   exact Fr.refl _ _ _,Nat.le_refl _,h⟩
 | o :: ops, i, nx, ρ, s2, s, pa2, past, h, hp, hi, hlo => by
  obtain⟨s2',r2,e,⟨n0,h1⟩,h2,h3,h4⟩:=H6 hwk hE hi h
  split at h4
  ·rename_i hcl
   have hkey:=h3.key
   have hcl:=uI hi.aa.inj hkey.1 hkey.2 hp hcl
   cases r2 with
   | bC E' =>
    cases e with
    | bC e =>
     have hi':=h2.bC h3 o.dst
     obtain⟨s',⟨n1,g1⟩,ρ',s3,g2,g3,g4,g5⟩:=tP hwk hE h4 (past:=(i,.bC e) :: past) ⟨⟨rfl,hkey.1⟩,hp⟩ hi' hlo
     refine⟨s',⟨max n0 n1,fun n hn=>?_⟩,ρ',s3,g2,fun v u hv hu=>?_,g4,g5⟩
     ·simp[jC,h1 n (by omega),hcl]<;>grind
     ·rcases g3 v u hv hu with ⟨w, hw, Fe⟩ | h'
      ·by_cases hwn : w = nx
       ·have:=hi.yJ 0 (by simp)<;>grind
       grind
      omega
    |all=>exact h3.elim
   | all v t2 =>
    cases e with
    |bC e=>grind
    | all a m t n' =>
     obtain⟨ρ1,hi',hf,hn'⟩:=h2.all h3 o.dst
     obtain⟨s',⟨n1,g1⟩,ρ',s3,g2,g3,g4,g5⟩:=tP hwk hE h4 (past:=(i,.all a m t n') :: past) ⟨⟨rfl,trivial⟩,H7 hp⟩ hi' hlo
     have hsn:lo≤s.nv:=by have:=hi.pn;omega
     refine⟨s',⟨max n0 n1,fun n hn=>?_⟩,ρ',s3,g2,fun v u hv hu=>?_,Nat.le_trans hn' g4,g5⟩
     ·simp[jC,h1 n (by omega),hcl]<;>grind
     ·rcases g3 v u hv hu with ⟨w, hw, Fe⟩ | h'
      ·rcases hf w u hw Fe with ⟨w', hw', ahx⟩ | h'
       ·by_cases hwn : w' = nx
        ·have:=hi.yJ 0 (by simp)<;>grind
        grind
       omega
      omega
  grind
theorem Fg (hwk:Kw Fs wk) (hE:aF Fs E) {ops:List aY} {draw:Bool} {K:S2→Option α} (h:Uz E wk ctx ops draw s2 K=some r) (hs:xX ρ os s2 s) :
  ∃ s',Ev Fs (.region ops draw) s (.normal,s')∧Rb ρ s2.nv os s.nv s.nv K r s':=by
 have start:RI ρ s2.nv ops.length os { s2 with nv:=s2.nv+ops.length } { s with nv:=s.nv+ops.length } (s.nv+0):=by
  refine⟨hs.slots,hs.outer,hs.mem,hs.aB,⟨fun v u hv hu=>?_,fun v hv=>?_,hs.aa.inj⟩,fun j hj=>?_,rfl,Nat.le_refl _⟩
  ·show u < s.nv + ops.length
   rcases Nat.lt_or_ge v s2.nv with h1|h1
   ·have:=hs.aa.low v u h1 hu;omega
   ·rw[hs.aa.high v h1] at hu<;>grind
  ·have hv : s2.nv + ops.length ≤ v := hv
   rw[hs.aa.high v (by omega)]<;>grind
  ·rw[hs.aa.high _ (by omega)]<;>grind
 have lift:∀ {s':St},Rb ρ s2.nv os s.nv (s.nv+ops.length) K r s'→Rb ρ s2.nv os s.nv s.nv K r s':=by
  rintro s' ⟨ρ',s3,g2,g3,g4,g5⟩
  exact⟨ρ',s3,g2,g3,by omega,g5⟩
 cases draw with
 |false=>
  obtain⟨s',⟨n0,h1⟩,g⟩:=tO hwk hE (lo:=s.nv) h start (Nat.le_refl _)
  refine⟨s',⟨n0+1,fun k n hk hn=>?_⟩,lift g⟩
  obtain⟨n,rfl⟩:∃ q,n=q+1:=⟨n-1,by omega⟩
  simp[exec,iw,h1 k (by omega),Option.map_some]
 |true=>
  obtain⟨s',⟨n0,h1⟩,g⟩:=tP hwk hE (lo:=s.nv) (past:=[]) h trivial start (Nat.le_refl _)
  refine⟨s',⟨n0+1,fun k n hk hn=>?_⟩,lift g⟩
  obtain⟨n,rfl⟩:∃ q,n=q+1:=⟨n-1,by omega⟩
  simp[exec,iw,h1 k (by omega),Option.map_some]
end
section
variable {Fs:Tb} {E:au}
theorem SR.tL {ρ : aR} {os:List (Tr AV)} {s2:S2} {s:St} {c:bA} {b:Bool} (hs:xX ρ os s2 s) (hb:iu (c.ev s.slots)=some b):xX ρ os (tL s2 c b) s:=by
 cases c with
 |c v=>exact hs
 | t n =>
  have he:iJ s.slots n=.d (.sc (.bool b)):=by
   unfold iu at hb
   split at hb
   ·rename_i b' e;simp_all;exact e
   ·cases hb
  refine⟨fun k v hk=>?_,hs.outer,hs.mem,hs.aB,hs.aa,hs.le⟩
  simp[Go.Sym.tL] at hk
  rw[Tr.bQ] at hk
  split at hk
  ·subst_vars
   cases hk
   exact he
  ·exact hs.slots k v hk
theorem Rf {call:bq.Call} {sh:Nat→Bool} {s:St} {dst aH:Nat} {op:bL} {e:cR} (hm:QB sh op=true) (h:op.run call sh s 0 dst aH=some e):∃ v rd,e=.bC { val:=v,cv:=[],bR:=[],rd }:=by
 have pure:∀ {v:AV},eU.pure v=some e→∃ v rd,e=.bC { val:=v,cv:=[],bR:=[],rd }:=fun h=>by injection h with h;exact⟨_,_,h.symm⟩
 have Xl:∀ {α : Type} {o:Option α} {k : α→Option cR},Option.bind o k=some e→∃ x,k x=some e:=fun {α o k} h=>by
  cases o with
  |none=>cases h
  |some x=>exact⟨x,h⟩
 cases op with
 |Gv x=>
  injection h with h
  exact⟨_,_,h.symm⟩
 |load sz agg x=>
  obtain⟨cs,h⟩:=Xl h
  cases hw:fO agg cs with
  |none=>rw[hw] at h;cases h
  |some v=>simp_all;exact⟨_,_,h.symm⟩
 | um f args =>
  simp[QB,Bool.not_eq_true'] at hm
  simp[bL.run,hm,jB] at h
  split at h
  ·cases h
  ·split at h
   ·cases h
   ·split at h
    ·split at h
     ·simp_all;exact⟨_,_,h.symm⟩
     ·cases h
    ·cases h
 | slice sz x lo hi mx =>
  simp[bL.run] at h
  split at h
  ·split at h
   ·rename_i hz;simp at hz
   ·obtain⟨v,h⟩:=Xl h;exact pure h
  ·cases h
 |_=>first
  |(cases hm;done)
  |(simp only[bL.run] at h;repeat' (first|split at h|(simp only[Option.bind_eq_some_iff] at h;obtain⟨_,_,h⟩:=h)|(cases h;done)|exact pure h))
structure rI (l:List Nat) (s s':St):Prop where
 mem:s'.mem=s.mem
 aB:s'.aB=s.aB
 nv:s.nv≤s'.nv
 slots:∀ k,¬k∈l→iJ s'.slots k=iJ s.slots k
theorem rI.refl (l:List Nat) (s:St):rI l s s:=⟨rfl,rfl,Nat.le_refl _,fun _ _=>rfl⟩
theorem rI.trans {l:List Nat} {s s' s'':St} (h:rI l s s') (k:rI l s' s''):rI l s s'':=
 ⟨k.mem.trans h.mem,k.aB.trans h.aB,Nat.le_trans h.nv k.nv,fun i hi=>(k.slots i hi).trans (h.slots i hi)⟩
theorem rI.mono {l l':List Nat} {s s':St} (h:rI l s s') (hl:∀ k,k∈l→k∈l'):rI l' s s':=⟨h.mem,h.aB,h.nv,fun k hk=>h.slots k fun h'=>hk (hl k h')⟩
theorem DC {call:bq.Call} {sh:Nat→Bool} {s:St} {aH:Nat} {o:aY} {e:cR} (hm:Dj sh o=true) (h:o.step call sh s aH=some e):rI o.dst.toList s (s.app o.dst e):=by
 simp only[Dj,Bool.and_eq_true] at hm
 have hr:=Nat.eq_of_beq_eq_true hm.1
 have key:∃ v rd,e=.bC { val:=v,cv:=[],bR:=[],rd }:=by
  simp[aY.step] at h
  split at h
  ·cases h
  ·rw[hr] at h;exact Rf hm.2 h
  ·injection h with h;exact⟨_,_,h.symm⟩
 obtain⟨v,rd,rfl⟩:=key
 refine⟨rfl,rfl,Nat.le_refl _,fun k hk=>?_⟩
 simp[St.app,uo]
 cases hd:o.dst with
 |none=>rfl
 |some n=>
  simp[iJ,Tr.bQ]<;>grind
theorem H8 {call:bq.Call} {sh:Nat→Bool} {lW:Nat} : ∀ {ops:List aY} {i:Nat} {s s':St},ops.all (Dj sh)=true→ko call sh lW i ops s=some s'→rI (ops.flatMap fun o=>o.dst.toList) s s'
 |[],_,s,s',_,h=>by cases h;exact rI.refl _ _
 | o :: r, i, s, s', hm, h => by
  simp only[List.all_cons,Bool.and_eq_true] at hm
  simp[ko] at h
  split at h
  ·cases h
  ·rename_i e he
   exact ((DC hm.1 he).mono fun k hk=>by simp only[List.flatMap_cons,List.mem_append];exact .inl hk).trans
    ((H8 hm.2 h).mono fun k hk=>by simp only[List.flatMap_cons,List.mem_append];exact .inr hk)
theorem H9 {call:bq.Call} {sh:Nat→Bool} {lW:Nat} : ∀ {ops:List aY} {i:Nat} {past:List (Nat×cR)} {s s':St},ops.all (Dj sh)=true→jC call sh lW i ops past s=some s'→rI (ops.flatMap fun o=>o.dst.toList) s s'
 |[],_,_,s,s',_,h=>by cases h;exact rI.refl _ _
 | o :: r, i, past, s, s', hm, h => by
  simp only[List.all_cons,Bool.and_eq_true] at hm
  simp[jC] at h
  split at h
  ·cases h
  ·rename_i e he
   split at h
   ·exact ((DC hm.1 he).mono fun k hk=>by simp only[List.flatMap_cons,List.mem_append];exact .inl hk).trans
     ((H9 hm.2 h).mono fun k hk=>by simp only[List.flatMap_cons,List.mem_append];exact .inr hk)
   grind
theorem kD {call:bq.Call} {sh:Nat→Bool} : ∀ {n:Nat} {c:AC} {s s':St} {ax:AX},rq sh c=true→exec call sh n c s=some (ax,s')→rI (ov c) s s'
 |0,_,_,_,_,_,h=>by cases h
 | n + 1, c, s, s', ax, hm, h => by
  cases c with
  |skip=>cases h;exact rI.refl _ _
  | region ops draw =>
   simp only[exec] at h
   cases hr:iw call sh ops draw s with
   |none=>grind
   | some t =>
    rw[hr] at h;cases h
    cases draw with
    |false=>
     have g:=H8 hm hr
     exact⟨g.mem,g.aB,by have:=g.nv;simp only at this;omega,g.slots⟩
    |true=>
     have g:=H9 hm hr
     exact⟨g.mem,g.aB,by have:=g.nv;simp only at this;omega,g.slots⟩
  | seq a b =>
   simp[rq,Bool.and_eq_true] at hm
   simp[exec] at h
   split at h
   ·rename_i t ht
    exact ((kD hm.1 ht).mono fun k hk=>by simp only[ov,List.mem_append];exact .inl hk).trans
     ((kD hm.2 h).mono fun k hk=>by simp only[ov,List.mem_append];exact .inr hk)
   ·exact (kD hm.1 h).mono fun k hk=>by simp only[ov,List.mem_append];exact .inl hk
  |cond c a b=>
   simp[rq,Bool.and_eq_true] at hm
   simp[exec] at h
   split at h
   ·exact (kD hm.1 h).mono fun k hk=>by simp only[ov,List.mem_append];exact .inl hk
   ·exact (kD hm.2 h).mono fun k hk=>by simp only[ov,List.mem_append];exact .inr hk
   grind
  |block=>cases hm
  |loop=>cases hm
  |exit=>cases hm
  |ret=>cases hm
theorem DD:∀ (l:List Nat) (t:Tr V2) (k:Nat) (v:V2),(Hv l t).get? k=some v→¬k∈l∧t.get? k=some v
 |[],t,k,v,h=>⟨by simp,h⟩
 |n :: r,t,k,v,h=>by
  obtain⟨h1,h2⟩:=DD r _ k v h
  rw[Tr.bQ] at h2<;>grind
theorem Ia {ρ : aR} {B:Nat} {m:List (Tr E2)} {t:Ty} {c c':Cell} {x:t.den} {a:AV} (h:E1 t c=some x) (h':Kh t x=some c') (hc:RC ρ B m c a):∀ {ρ':aR} {B':Nat} {m':List (Tr E2)},RC ρ' B' m' c' a:=by
 unfold E1 at h
 split at h
 ·split at h
  ·rename_i e _
   cases h
   subst e
   cases h'
   exact hc
  ·cases h
 ·cases h
  cases h'
  exact hc
 ·cases h
  cases h'
  exact hc
 ·cases h
theorem AU {t:Ty} {m:Nat} {ax:AX} {s2:S2} {x:t.den} (h:Hw t m ax s2=some x):ax=.normal∧∃ c,s2.slots.get? m=some (.c c)∧E1 t c=some x:=by
 unfold Hw at h<;>grind
theorem AW {ρ : aR} {os:List (Tr AV)} {s2:S2} {s t:St} {l:List Nat} {m:Nat} {y:Cell} (hs:xX ρ os s2 s) (hm:rI l s t) (hy:∀ {ρ':aR} {B':Nat} {m':List (Tr E2)},RC ρ' B' m' y (iJ t.slots m)) :
  ∃ ρ',xX ρ' os { s2 with slots:=(Hv l s2.slots).set m (some (.c y)) } t∧Fr ρ s2.nv s.nv ρ' s2.nv:=by
 let ρ':aR:=fun v=>if v<s2.nv then ρ v else some (t.nv+(v-s2.nv))
 have hρ : ∀ v,v<s2.nv→ρ' v = ρ v:=fun v hv=>if_pos hv
 have hρ2:∀ v,s2.nv≤v→ρ' v=some (t.nv+(v-s2.nv)):=fun v hv=>if_neg (by omega)
 have z8:=hm.nv
 refine⟨ρ',⟨fun k v hk=>?_,hs.outer.mono fun _ _ h=>h.move (dR.refl _ _) (Nat.le_refl _) hρ,?_,fun v hv=>?_,⟨fun v u hv hu=>?_,fun v hv=>hρ2 v hv,fun v v' u hu j7=>?_⟩,Nat.le_refl _⟩,fun v u hv hu=>.inl ⟨v,hv,by rw[←hρ v hv];exact hu⟩⟩
 ·rw [Tr.bQ] at hk
  split at hk
  ·subst_vars
   cases hk
   exact hy
  ·obtain ⟨h1, h2⟩ := DD _ _ _ _ hk
   rw[hm.slots k h1]
   exact (hs.slots k v h2).move (dR.refl _ _) (Nat.le_refl _) hρ
 ·rw [hm.mem]
  refine⟨hs.mem.len,fun lv sl e2 he=>?_⟩
  obtain⟨e,h1,h2⟩:=hs.mem.dW lv sl e2 he
  exact⟨e,h1,RE.mono (Nat.le_refl _) hρ (fun _ _=>RC.move (dR.refl _ _) (Nat.le_refl _) hρ) h2⟩
 ·rw [hm.aB]
  obtain⟨h1,h2⟩:=hs.aB v hv<;>grind
 ·rw [hρ v hv] at hu
  have:=hs.aa.low v u hv hu
  omega
 ·by_cases h1 : v < s2.nv
  ·rw [hρ v h1] at hu
   by_cases h2:v'<s2.nv
   ·rw[hρ v' h2] at j7;exact hs.aa.inj _ _ _ hu j7
   ·simp_all
    have:=hs.aa.low v u h1 hu<;>omega
  ·simp_all
   by_cases h2:v'<s2.nv
   ·rw [hρ v' h2] at j7
    have:=hs.aa.low v' u h2 j7<;>omega
   grind
theorem zg (hE:aF Fs E):∀ n,Kw Fs (walk E n)
 |0=>fun _ _ _ _ _ _ _ h=>by cases h
 | n + 1 => by
  have ih:=zg hE n
  intro α ctx i c s2 K r h ρ os s hs
  simp[walk] at h
  have meet:∀ {outs:bG} {y:(nJ outs).den} {ax:AX} {t2:S2} {ρ':aR} {t:St},l8 outs ax t2=some y→xX ρ' os t2 t→Fr ρ s2.nv s.nv ρ' t2.nv→s.nv≤t.nv→ot outs y K=some r→
    ∃ t3 ρ3,xX ρ3 os t3 t∧Fr ρ s2.nv s.nv ρ3 t3.nv∧K ax t3=some r:=by
   intro outs y ax t2 ρ' t hy yK hfr hn hk
   obtain⟨t3,ρ3,g1,g2,g3⟩:=zd yK hy
   exact⟨t3,ρ3,g1,hfr.trans g2 hn,(g3 K).symm.trans hk⟩
  cases c with
  |skip=>exact⟨.normal,s2,ρ,s,⟨1,fun k n _ hn=>by obtain⟨n,rfl⟩:∃ q,n=q+1:=⟨n-1,by omega⟩;rfl⟩,hs,Fr.refl _ _ _,Nat.le_refl _,h⟩
  |exit id=>exact⟨.exit id,s2,ρ,s,⟨1,fun k n _ hn=>by obtain⟨n,rfl⟩:∃ q,n=q+1:=⟨n-1,by omega⟩;rfl⟩,hs,Fr.refl _ _ _,Nat.le_refl _,h⟩
  |ret=>exact⟨.ret,s2,ρ,s,⟨1,fun k n _ hn=>by obtain⟨n,rfl⟩:∃ q,n=q+1:=⟨n-1,by omega⟩;rfl⟩,hs,Fr.refl _ _ _,Nat.le_refl _,h⟩
  | region ops draw =>
   simp at h
   split at h
   ·rename_i m _
    split at h
    ·rename_i AY
     have hsh:E.sh=ze Fs:=by funext g;simp[au.sh,ze,hE.fns]
     rw[hsh] at AY
     obtain⟨y,hy,h⟩:=bind_some h
     obtain⟨s',⟨n0,hev⟩,ρ',s3,g2,g3,g4,g5⟩:=Fg ih hE hy hs
     obtain⟨_,c',Ci,g5⟩:=AU g5
     obtain⟨y',hy',h⟩:=ak h
     obtain⟨ρ3,q1,q2⟩:=AW hs (kD (c:=.region ops draw) AY (hev n0 n0 (Nat.le_refl _) (Nat.le_refl _))) (Ia g5 hy' (show RC _ _ _ c' _ from g2.slots m.1 _ Ci))
     exact⟨.normal,_,ρ3,s',⟨n0,hev⟩,q1,q2,g4,h⟩
    grind
   split at h
   ·obtain⟨s',hev,ρ',s3,g2,g3,g4,g5⟩:=Fg ih hE h hs<;>grind
   ·obtain ⟨y, hy, h⟩ := bind_some h
    obtain⟨s',hev,ρ',s3,g2,g3,g4,g5⟩:=Fg ih hE hy hs<;>grind
  | seq a b =>
   obtain⟨ax,t2,ρ',t,⟨n0,hev⟩,g2,g3,g4,g5⟩:=ih _ _ _ _ _ _ _ h _ _ _ hs
   cases ax with
   |normal=>
    obtain⟨ax',t3,ρ3,t',⟨n1,adt⟩,q2,q3,q4,q5⟩:=ih _ _ _ _ _ _ _ g5 _ _ _ g2
    refine⟨ax',t3,ρ3,t',⟨max n0 n1+1,fun k m hk hm=>?_⟩,q2,g3.trans q3 g4,Nat.le_trans g4 q4,q5⟩
    obtain⟨m,rfl⟩:∃ q,m=q+1:=⟨m-1,by omega⟩
    simp[exec,hev k m (by omega) (by omega)]<;>grind
   |exit id=>
    refine⟨.exit id,t2,ρ',t,⟨n0+1,fun k m hk hm=>?_⟩,g2,g3,g4,g5⟩
    obtain⟨m,rfl⟩:∃ q,m=q+1:=⟨m-1,by omega⟩
    simp[exec,hev k m (by omega) (by omega)]
   |ret=>
    refine⟨.ret,t2,ρ',t,⟨n0+1,fun k m hk hm=>?_⟩,g2,g3,g4,g5⟩
    obtain⟨m,rfl⟩:∃ q,m=q+1:=⟨m-1,by omega⟩
    simp[exec,hev k m (by omega) (by omega)]
  | cond c a b =>
   have way:∀ {β : Type} {K':AX→S2→Option β} {r' : β},(uY (ir s2 c) fun t=>cond t (walk E n β ctx (i+1) a (tL s2 c true) K') (walk E n β ctx (i+1+tK a) b (tL s2 c false) K'))=some r'→
     ∃ ax t2 ρ' t,Ev Fs (.cond c a b) s (ax,t)∧xX ρ' os t2 t∧Fr ρ s2.nv s.nv ρ' t2.nv∧s.nv≤t.nv∧K' ax t2=some r':=by
    intro β K' r' h
    obtain⟨t,ht,h⟩:=pQ h
    have hb:=pT (aO hs.slots ht)
    cases t with
    |true=>
     have z8:(tL s2 c true).nv=s2.nv:=by cases c<;>rfl
     obtain⟨ax,t2,ρ',t,⟨n0,hev⟩,g2,g3,g4,g5⟩:=ih _ _ _ _ _ _ _ h _ _ _ (hs.tL hb)
     rw[z8] at g3
     refine⟨ax,t2,ρ',t,⟨n0+1,fun k m hk hm=>?_⟩,g2,g3,g4,g5⟩
     obtain⟨m,rfl⟩:∃ q,m=q+1:=⟨m-1,by omega⟩
     simp[exec,hb]<;>grind
    |false=>
     have z8:(tL s2 c false).nv=s2.nv:=by cases c<;>rfl
     obtain⟨ax,t2,ρ',t,⟨n0,hev⟩,g2,g3,g4,g5⟩:=ih _ _ _ _ _ _ _ h _ _ _ (hs.tL hb)
     rw[z8] at g3
     refine⟨ax,t2,ρ',t,⟨n0+1,fun k m hk hm=>?_⟩,g2,g3,g4,g5⟩
     obtain⟨m,rfl⟩:∃ q,m=q+1:=⟨m-1,by omega⟩
     simp[exec,hb]<;>grind
   simp at h
   split at h
   ·rename_i m _
    split at h
    ·rename_i AY
     simp at AY
     have hsh:E.sh=ze Fs:=by funext g;simp[au.sh,ze,hE.fns]
     rw[hsh] at AY
     obtain⟨y,hy,h⟩:=bind_some h
     obtain⟨ax,t2,ρ',t,⟨n0,hev⟩,g2,g3,g4,g5⟩:=way hy
     obtain⟨rfl,c',Ci,g5⟩:=AU g5
     obtain⟨y',hy',h⟩:=ak h
     have hmd:rq (ze Fs) (.cond c a b)=true:=by simp[rq,AY.1,AY.2,Bool.and_true]
     obtain⟨ρ3,q1,q2⟩:=AW hs (kD hmd (hev n0 n0 (Nat.le_refl _) (Nat.le_refl _))) (Ia g5 hy' (show RC _ _ _ c' _ from g2.slots m.1 _ Ci))
     exact⟨.normal,_,ρ3,t,⟨n0,hev⟩,q1,q2,g4,h⟩
    grind
   ·split at h
    ·exact way h
    ·obtain ⟨y, hy, h⟩ := bind_some h
     obtain⟨ax,t2,ρ',t,hev,g2,g3,g4,g5⟩:=way hy<;>grind
  | block id c =>
   have way:∀ {β : Type} {K':AX→S2→Option β} {r' : β},(walk E n β ctx (i+1) c s2 fun ax s'=>match ax with
      |.exit id'=>match Nat.beq id' id with
       |true=>K' .normal s'
       |false=>K' (.exit id') s'
      |ax=>K' ax s')=some r'→
     ∃ ax t2 ρ' t,Ev Fs (.block id c) s (ax,t)∧xX ρ' os t2 t∧Fr ρ s2.nv s.nv ρ' t2.nv∧s.nv≤t.nv∧K' ax t2=some r':=by
    intro β K' r' h
    obtain⟨ax,t2,ρ',t,⟨n0,hev⟩,g2,g3,g4,g5⟩:=ih _ _ _ _ _ _ _ h _ _ _ hs
    cases ax with
    |normal=>
     refine⟨.normal,t2,ρ',t,⟨n0+1,fun k m hk hm=>?_⟩,g2,g3,g4,g5⟩
     obtain⟨m,rfl⟩:∃ q,m=q+1:=⟨m-1,by omega⟩
     simp[exec,hev k m (by omega) (by omega)]
    |ret=>
     refine⟨.ret,t2,ρ',t,⟨n0+1,fun k m hk hm=>?_⟩,g2,g3,g4,g5⟩
     obtain⟨m,rfl⟩:∃ q,m=q+1:=⟨m-1,by omega⟩
     simp[exec,hev k m (by omega) (by omega)]
    | exit id' =>
     simp at g5
     cases hb:Nat.beq id' id with
     |true=>
      rw[hb] at g5
      refine⟨.normal,t2,ρ',t,⟨n0+1,fun k m hk hm=>?_⟩,g2,g3,g4,g5⟩
      obtain⟨m,rfl⟩:∃ q,m=q+1:=⟨m-1,by omega⟩
      simp[exec,hev k m (by omega) (by omega),hb]
     |false=>
      rw[hb] at g5
      refine⟨.exit id',t2,ρ',t,⟨n0+1,fun k m hk hm=>?_⟩,g2,g3,g4,g5⟩
      obtain⟨m,rfl⟩:∃ q,m=q+1:=⟨m-1,by omega⟩
      simp[exec,hev k m (by omega) (by omega),hb]
   simp at h
   split at h
   ·exact way h
   ·obtain ⟨y, hy, h⟩ := bind_some h
    obtain⟨ax,t2,ρ',t,hev,g2,g3,g4,g5⟩:=way hy<;>grind
  | loop c =>
   simp at h
   split at h
   ·obtain ⟨ax, t2, ρ', t, ⟨n0, hev⟩, g2, g3, g4, g5⟩ := ih _ _ _ _ _ _ _ h _ _ _ hs
    cases ax with
    |normal=>
     obtain⟨ax',t3,ρ3,t',⟨n1,adt⟩,q2,q3,q4,q5⟩:=ih _ _ _ _ _ _ _ g5 _ _ _ g2
     refine⟨ax',t3,ρ3,t',⟨max n0 n1+1,fun k m hk hm=>?_⟩,q2,g3.trans q3 g4,Nat.le_trans g4 q4,q5⟩
     obtain⟨m,rfl⟩:∃ q,m=q+1:=⟨m-1,by omega⟩
     simp[exec,hev k m (by omega) (by omega)]<;>grind
    |exit id=>
     refine⟨.exit id,t2,ρ',t,⟨n0+1,fun k m hk hm=>?_⟩,g2,g3,g4,g5⟩
     obtain⟨m,rfl⟩:∃ q,m=q+1:=⟨m-1,by omega⟩
     simp[exec,hev k m (by omega) (by omega)]
    |ret=>
     refine⟨.ret,t2,ρ',t,⟨n0+1,fun k m hk hm=>?_⟩,g2,g3,g4,g5⟩
     obtain⟨m,rfl⟩:∃ q,m=q+1:=⟨m-1,by omega⟩
     simp[exec,hev k m (by omega) (by omega)]
   obtain⟨L,hL,h⟩:=ak h
   obtain⟨ds,hd,h⟩:=ak h
   obtain⟨x,hx,h⟩:=ak h
   obtain⟨y,hy,h⟩:=bind_some h
   obtain⟨t2,ρ',g1,g2,g3⟩:=zb hd hs
   obtain⟨ax,t3,ρ3,t,q1,q2,q3,q4,q5⟩:=hE.loops ctx _ c L hL x y hy t2 (by rw[cw hx];exact g1) _ _ _ g2
   exact⟨ax,t3,ρ3,t,q1,q2,g3.trans q3 (Nat.le_refl _),q4,(q5 K).symm.trans h⟩
theorem MD (hE:aF Fs E) (N ctx i:Nat) (body:AC) (T:bJ) (outs:bG):∀ k,Q6 Fs body ⟨T,outs,Mo (Aw E N ctx i body T outs) k⟩
 |0=>fun x y h=>by cases h
 | k + 1 => by
  have ih:=MD hE N ctx i body T outs k
  intro x y h s2 hst ρ os s hs
  obtain⟨s2',adu,h⟩:=ak h
  rw[hst] at adu
  cases adu
  obtain⟨ax,t2,ρ',t,⟨n0,hev⟩,g2,g3,g4,g5⟩:=zg hE N _ _ _ _ _ _ _ h _ _ _ hs
  have leave:∀ {ax:AX},ax≠.normal→Ev Fs body s (ax,t)→l8 outs ax t2=some y→∃ ax s2' ρ' s',Ev Fs (.loop body) s (ax,s')∧xX ρ' os s2' s'∧Fr ρ s2.nv s.nv ρ' s2'.nv∧s.nv≤s'.nv∧∀ {α : Type} (K:AX→S2→Option α),ot outs y K=K ax s2':=by
   rintro ax UW ⟨n0,hev⟩ hy
   obtain⟨t3,ρ3,q1,q2,q3⟩:=zd g2 hy
   refine⟨ax,t3,ρ3,t,⟨n0+1,fun k m hk hm=>?_⟩,q1,g3.trans q2 g4,g4,q3⟩
   obtain⟨m,rfl⟩:∃ q,m=q+1:=⟨m-1,by omega⟩
   simp[exec,hev k m (by omega) (by omega)]<;>grind
  cases ax with
  |normal=>
   obtain⟨ds,hd,g5⟩:=ak g5
   obtain⟨x',hx,g5⟩:=ak g5
   obtain⟨t3,ρ3,q1,q2,q3⟩:=zb hd g2
   obtain⟨ax',t4,ρ4,t',⟨n1,adt⟩,w2,w3,w4,w5⟩:=ih x' y g5 t3 (by simp only;rw[cw hx];exact q1) _ _ _ q2
   refine⟨ax',t4,ρ4,t',⟨max n0 n1+1,fun k m hk hm=>?_⟩,w2,(g3.trans q3 g4).trans w3 g4,Nat.le_trans g4 w4,w5⟩
   obtain⟨m,rfl⟩:∃ q,m=q+1:=⟨m-1,by omega⟩
   simp[exec,hev k m (by omega) (by omega)]<;>grind
  |exit id=>exact leave (fun h=>by cases h) ⟨n0,hev⟩ g5
  |ret=>exact leave (fun h=>by cases h) ⟨n0,hev⟩ g5
theorem PC (x:Cell):TL 0 x=true:=by
 cases x<;>first|rfl|exact Nat.ble_eq.2 (Nat.zero_le _)
theorem UY {ρ : aR} {B:Nat} {m2:List (Tr E2)} {m:List (Tr aZ)} (hm:MR ρ B m2 m) {top k lv sl aa:Nat} {c:fC} {x x':Cell} {ks:List (Nat×Nat)} {a:AV} {d:List eS} (hh:TL top x=true) (h:Kc m2 x=some (x',ks)) (hd:mC c x'=some d) (hx:RC ρ B m2 x a) :
  ∃ y x2,aW m top 0 k lv sl aa a=some (.d y,[])∧(∀ rest,c.fill (d++rest)=some (x2,rest))∧∀ (ρ : aR) (B:Nat) (m:List (Tr E2)),RC ρ B m x2 (.d y):=by
 have imp:∃ y,l9 x'=some y∧aW m top 0 k lv sl aa a=some (.d y,[]):=by
  unfold Kc at h
  split at h
  ·cases h;cases hx;exact⟨_,rfl,rfl⟩
  ·cases h;cases hx;exact⟨_,rfl,rfl⟩
  ·cases h;cases hx;exact⟨_,rfl,rfl⟩
  ·cases h;cases hx;exact⟨_,rfl,rfl⟩
  ·cases h
   rcases (fE (m:=m) hx).2 with rfl|⟨o,ho,rfl⟩
   ·exact⟨_,rfl,rfl⟩
   ·exact⟨_,rfl,vi ho⟩
  ·cases h
  ·rename_i t l o hne
   cases h
   rcases (fQ (m:=m) hx).2.2 (fun e=>hne e) with rfl|⟨o',ho,rfl⟩
   ·exact⟨_,rfl,rfl⟩
   ·exact⟨_,rfl,vi ho⟩
  ·split at h
   ·rename_i r hr
    cases h
    have he:=kZ hm hx hr
    obtain⟨_,u,n,hu,rfl,hn⟩:=hx
    refine⟨_,rfl,?_⟩
    simp only[TL] at hh
    simp[aW,he,hh,beq_true.2 rfl]
   grind
  ·split at h
   ·rename_i r hr
    cases h
    have he:=iU hm hx hr (hx.2.choose_spec.2.2 r hr)
    obtain⟨_,u,hu,rfl,hn⟩:=hx
    refine⟨_,rfl,?_⟩
    simp only[TL] at hh
    simp[aW,he,hh,beq_true.2 rfl]
   grind
  grind
 obtain⟨y,h1,h2⟩:=imp
 obtain⟨x2,h3,h4⟩:=vg hd h1<;>simp_all
theorem vj {ρ : aR} {B:Nat} {m2:List (Tr E2)} {m:List (Tr aZ)} (hm:MR ρ B m2 m) {top lv sl aa:Nat} : ∀ {cs:List fC} {xs xs':List Cell} {ks:List (Nat×Nat)} {aD:List AV} {d:List eS} {k:Nat},(∀ x∈xs,TL top x=true)→lz m2 xs=some (xs',ks)→fe cs xs'=some d→aq (RC ρ B m2) xs aD→
  ∃ as' qt,bZ m top 0 lv sl aa k aD=some (as',[])∧(∀ rest,cj cs (d++rest)=some (qt,rest))∧as'.all zC=true∧∀ (ρ : aR) (B:Nat) (m:List (Tr E2)),aq (RC ρ B m) qt as'
 | cs, [], xs', ks, aD, d, k, _, h, hd, ha => by
  cases h
  match aD,ha with
  | [], _ =>
   match cs,hd with
   |[],hd=>
    cases hd
    exact⟨[],[],rfl,fun _=>rfl,rfl,fun _ _ _=>trivial⟩
 | cs, x :: xs, xs', ks, aD, d, k, hh, h, hd, ha => by
  simp[lz] at h
  split at h
  ·rename_i y k1 ys k2 h1 h2
   cases h
   match aD,ha with
   | a :: aD, ha =>
    match cs,hd with
    |[],hd=>simp[fe] at hd
    | c :: cs, hd =>
     simp[fe] at hd
     split at hd
     ·rename_i d1 d2 h5 h6
      cases hd
      obtain⟨a',x2,g1,g2,g3⟩:=UY hm (k:=k) (lv:=lv) (sl:=sl) (aa:=aa) (hh x List.mem_cons_self) h1 h5 ha.1
      obtain⟨as',qt,g4,g5,g7,g6⟩:=vj hm (lv:=lv) (sl:=sl) (aa:=aa) (k:=k+1) (fun x hx=>hh x (List.mem_cons_of_mem _ hx)) h2 h6 ha.2
      exact⟨.d a' :: as',x2 :: qt,by simp only[bZ,g1,g4,List.append_nil],fun rest=>by simp only[cj,List.append_assoc,g2,g5],by rw[List.all_cons,g7];rfl,fun ρ B m=>⟨g3 _ _ _,g6 _ _ _⟩⟩
     grind
  grind
theorem UZ {ρ : aR} {B:Nat} {m2:List (Tr E2)} {m:List (Tr aZ)} (hm:MR ρ B m2 m) {top lv sl aa k:Nat} {b:Bool} {cs:List fC} {xs xs':List Cell} {ks:List (Nat×Nat)} {a:AV} {d:List eS} (hh:∀ x∈xs,TL top x=true) (h:lz m2 xs=some (xs',ks)) (hd:fe cs xs'=some d) (ha:R1 ρ B m2 (b,xs) a) :
  ∃ a' qt,kj m top 0 lv sl aa k a=some (a',[])∧(∀ rest,cj cs (d++rest)=some (qt,rest))∧vV a'=true∧∀ (ρ : aR) (B:Nat) (m:List (Tr E2)),R1 ρ B m (b,qt) a':=by
 cases b with
 |true=>
  obtain⟨aD,rfl,ha⟩:=ha
  obtain⟨as',qt,g1,g2,g4,g3⟩:=vj hm (k:=k) (lv:=lv) (sl:=sl) (aa:=aa) hh h hd ha
  exact⟨.agg as',qt,by simp only[kj,g1,Option.map_some],g2,g4,fun ρ B m=>⟨as',rfl,g3 _ _ _⟩⟩
 | false =>
  obtain⟨c,rfl,ha⟩:=ha
  obtain⟨as',qt,g1,g2,g0,g3⟩:=vj hm (k:=k) (lv:=lv) (sl:=sl) (aa:=aa) (aD:=[a]) hh h hd ⟨ha,trivial⟩
  simp[bZ] at g1
  have hc:=RC.cell ha
  split at g1
  ·rename_i y u ys us h1 h2
   cases h2
   injection g1 with g1;injection g1 with g4 g5
   subst g4
   simp at g5
   subst g5
   have hx:=g3 ρ B m2
   match qt,hx with
   |[x2],_=>
    refine⟨y,[x2],?_,g2,(by cases y<;>first|rfl|cases g0),fun ρ B m=>⟨x2,rfl,(g3 ρ B m).1⟩⟩
    cases a<;>first|exact h1|cases hc.2.1
  grind
theorem DE {ρ : aR} {B:Nat} {m2:List (Tr E2)} {m:List (Tr aZ)} (hm:MR ρ B m2 m) {top lv sl aa:Nat} : ∀ {res:List (Bool×List fC)} {vs:List (Bool×List Cell)} {aD:List AV} {ds:List eS} {k:Nat},(∀ v∈vs,∀ x∈v.2,TL top x=true)→iL m2 res vs=some ds→aq (R1 ρ B m2) vs aD→
  ∃ as' ws,eX m top 0 lv sl aa k aD=some (as',[])∧(∀ rest,gI res (ds++rest)=some (ws,rest))∧ws.length=aD.length∧as'.all vV=true∧∀ (ρ : aR) (B:Nat) (m:List (Tr E2)),aq (R1 ρ B m) ws as'
 |[],[],aD,ds,k,_,h,ha=>by
  cases h
  match aD,ha with
  |[],_=>exact⟨[],[],rfl,fun _=>rfl,rfl,rfl,fun _ _ _=>trivial⟩
 | (a, l) :: ps, (b, cs) :: vs, aD, ds, k, hh, h, ha => by
  simp[iL] at h
  split at h
  ·rename_i cs' ks ds2 hab hf hr
   obtain⟨d,hd,rfl⟩:=aG h
   have hab:a=b:=by grind
   subst hab
   match aD,ha with
   |x :: aD,ha=>
    obtain⟨a',qt,g1,g2,g8,g3⟩:=UZ hm (k:=k) (lv:=lv) (sl:=sl) (aa:=aa) (hh _ List.mem_cons_self) hf hd ha.1
    obtain⟨as',ws,g4,g5,g6,g9,g7⟩:=DE hm (lv:=lv) (sl:=sl) (aa:=aa) (k:=k+64) (fun v hv=>hh v (List.mem_cons_of_mem _ hv)) hr ha.2
    exact⟨a' :: as',(a,qt) :: ws,by simp only[eX,g1,g4,List.append_nil],fun rest=>by simp only[gI,List.append_assoc,g2,g5],by simp[g6],by rw[List.all_cons,g8,g9];rfl,fun ρ B m=>⟨g3 _ _ _,g7 _ _ _⟩⟩
  grind
 |[],_ :: _,_,_,_,_,h,_=>by simp[iL] at h
 |_ :: _,[],_,_,_,_,h,_=>by simp[iL] at h
theorem ME {ρ : aR} {B:Nat} {m2:List (Tr E2)} {m:List (Tr aZ)} (hm:MR ρ B m2 m) {top lv sl aa:Nat} {res:List (Bool×List fC)} {vs:List (Bool×List Cell)} {aD:List AV} {ds:List eS} (hh:∀ v∈vs,∀ x∈v.2,TL top x=true) (h:iL m2 res vs=some ds) (ha:aq (R1 ρ B m2) vs aD) {ws:List (Bool×List Cell)} {w:V2} (hw:gI res ds=some (ws,[])) (ht:mT ws=some w) :
  ∃ a',fF m top 0 lv sl aa (iH aD)=some (a',[])∧Ek a'=true∧∀ (ρ : aR) (B:Nat) (m:List (Tr E2)),RV ρ B m w a':=by
 obtain⟨as',Cd,g1,g2,g3,g0,g4⟩:=DE hm (lv:=lv) (sl:=sl) (aa:=aa) (k:=1) hh h ha
 have Gq:=g2 []
 rw[List.append_nil,hw] at Gq
 cases Gq
 match aD,ha,g1,g3 with
 | [], _, g1, g3 =>
  match ws,g3 with
  |[],_=>
   cases ht
   exact⟨.gN [],rfl,rfl,fun _ _ _=>⟨[],rfl,trivial⟩⟩
 | [a], ha, g1, g3 =>
  match ws,g3 with
  | [(b, cs)], _ =>
   simp[eX] at g1
   split at g1
   ·rename_i y u ys us h1 h2
    cases h2
    injection g1 with g1;injection g1 with g5 g6
    subst g5
    simp at g6
    subst g6
    simp at g0
    refine⟨y,?_,(by cases y<;>first|exact g0|cases g0),fun ρ B m=>?_⟩
    ·match vs, ha with
     |[(b',cs')],ha=>
      have hn:=R1.eY ha.1
      cases a<;>first|exact h1|cases hn
    ·have hx := (g4 ρ B m).1
     cases b with
     |true=>
      obtain⟨bs,rfl,g7⟩:=hx
      cases ht
      exact⟨bs,rfl,g7⟩
     |false=>
      obtain⟨c,rfl,g7⟩:=hx
      cases ht
      exact g7
   grind
 | a :: b :: aD, ha, g1, g3 =>
  match ws,g3 with
  |x :: y :: ws,_=>
   cases ht
   exact⟨.gN as',by simp only[iH,fF,g1,Option.map_some],g0,fun ρ B m=>⟨as',rfl,g4 _ _ _⟩⟩
theorem Rg {ρ : aR} {B:Nat} {m2:List (Tr E2)} {m:List (Tr aZ)} (hm:MR ρ B m2 m) {k lv sl aa p row rk:Nat} (h0:rk≠0) (AZ:row % 65536=rk) (hr2:row / 65536≠0) (Cs:row % 65536≠65535) {c:fC} {x x':Cell} {ks:List (Nat×Nat)} {a:AV} {d:List eS}
  (hk:Kg m2 rk k x=true) (h:Kc m2 x=some (x',ks)) (hd:mC c x'=some d) (hx:RC ρ B m2 x a) :
  ∃ x2,(∀ rest,c.fill (d++rest)=some (x2,rest))∧∀ x3 us,Df rk lv sl aa k x2=some (x3,us)→(∀ u∈us,row / 65536=u.t.size)→
   ∃ a',aW m 0 row k lv sl p a=some (a',us.map fun u=>aS u.t u.l)∧∀ (ρ : aR) (B:Nat) (m:List (Tr E2)),jM ρ B m lv sl aa p us→RC ρ B m x3 a':=by
 have hrow:Nat.beq row 0=false:=beq_false.2 (by intro e;subst e;simp at hr2)
 have hsz:(!Nat.beq (row / 65536) 0)=true:=by rw[beq_false.2 hr2];rfl
 have fin:∀ {y:D},l9 x'=some y→∃ x2,(∀ rest,c.fill (d++rest)=some (x2,rest))∧∀ (ρ : aR) (B:Nat) (m:List (Tr E2)),RC ρ B m x2 (.d y):=by
  intro y hy
  unfold mC at hd
  split at hd
  ·split at hd
   ·cases hd; cases hy
    exact⟨_,fun _=>rfl,fun _ _ _=>rfl⟩
   ·cases hd
  ·cases hd; cases hy
   exact⟨_,fun _=>rfl,fun _ _ _=>rfl⟩
  ·cases hd; cases hy
   exact⟨_,fun _=>rfl,fun _ _ _=>rfl⟩
  ·cases hd; cases hy
   exact⟨_,fun _=>rfl,fun _ _ _=>.inl rfl⟩
  ·cases hd; cases hy
   exact⟨_,fun _=>rfl,fun _ _ _=>.inl rfl⟩
  ·cases hd
 have off:k≠rk→(∃ y,l9 x'=some y∧aW m 0 row k lv sl p a=some (.d y,[]))→∃ x2,(∀ rest,c.fill (d++rest)=some (x2,rest))∧∀ x3 us,Df rk lv sl aa k x2=some (x3,us)→(∀ u∈us,row / 65536=u.t.size)→
   ∃ a',aW m 0 row k lv sl p a=some (a',us.map fun u=>aS u.t u.l)∧∀ (ρ : aR) (B:Nat) (m:List (Tr E2)),jM ρ B m lv sl aa p us→RC ρ B m x3 a':=by
  rintro hne ⟨y,h1,h2⟩
  obtain⟨x2,h3,h4⟩:=fin h1
  refine⟨x2,h3,fun x3 us hp _=>?_⟩
  simp[Df,beq_false.2 hne,Option.some.injEq,Prod.mk.injEq] at hp
  obtain⟨rfl,rfl⟩:=hp
  exact⟨_,h2,fun _ _ _ _=>h4 _ _ _⟩
 have nk:(!Nat.beq k rk)=true→k≠rk:=by
  intro h e
  rw[e,beq_true.2 rfl] at h
  cases h
 have Xm:nA 0 row=false:=by
  unfold nA
  cases Nat.beq row 0<;>rfl
 have own:k≠rk→∀ {els:List (List D)} {o:PK},o≠.bB→aW m 0 row k lv sl p (.own els o)=some (.d (.sl els),[]):=by
  intro hne els o ho
  cases o with
  |bB=>exact absurd rfl ho
  |bR=>simp[aW,Xm]
  |full=>
   simp[aW,AZ,beq_false.2 hne,Bool.and_false,Xm,beq_false.2 (show rk≠65535 by rw[←AZ];exact Cs),Bool.or_self]
 unfold Kc at h
 split at h
 ·cases h;cases hx;exact off (nk hk) ⟨_,rfl,rfl⟩
 ·cases h;cases hx;exact off (nk hk) ⟨_,rfl,rfl⟩
 ·cases h;cases hx;exact off (nk hk) ⟨_,rfl,rfl⟩
 ·cases h;cases hx;exact off (nk hk) ⟨_,rfl,rfl⟩
 ·rename_i f
  cases h
  cases f with
  |false=>
   rcases (fE (m:=m) hx).2 with rfl|⟨o,ho,rfl⟩
   ·exact off (nk hk) ⟨_,rfl,rfl⟩
   ·exact off (nk hk) ⟨_,rfl,own (nk hk) ho⟩
  | true =>
   subst hx
   by_cases hne:k=rk
   ·subst hne
    have hc:∃ t,c=.sl t .d∧d=[⟨.sl t,[]⟩]:=by
     cases c with
     |sl t o=>cases o<;>first|(injection hd with hd;exact⟨t,rfl,hd.symm⟩)|cases hd
     |_=>cases hd
    obtain⟨t,rfl,rfl⟩:=hc
    ·refine ⟨.sl t [] .d, fun _ => rfl, fun x3 us hp hu => ?_⟩
     simp[Df,beq_true.2 rfl,Option.some.injEq,Prod.mk.injEq] at hp
     obtain⟨rfl,rfl⟩:=hp
     have hu:=hu _ (List.mem_singleton.2 rfl)
     refine⟨.ref lv sl p 0 0 (row / 65536),?_,fun ρ B m hf=>⟨hf.1,p,0,hf.2.1,by rw[hu],fun r hr=>?_⟩⟩
     ·simp [aW, AZ, hsz, beq_true.2 rfl, Bool.and_true]
      rfl
     ·have := hf.2.2 _ (List.mem_singleton.2 rfl) r hr
      simpa using this.symm
   ·exact off hne ⟨_,rfl,own hne (fun h=>by cases h)⟩
 ·cases h
 ·rename_i t l o hne
  cases h
  rcases (fQ (m:=m) hx).2.2 (fun e=>hne e) with rfl|⟨o',ho,rfl⟩
  ·exact off (nk hk) ⟨_,rfl,rfl⟩
  ·exact off (nk hk) ⟨_,rfl,own (nk hk) ho⟩
 ·rename_i bV cS fN t
  split at h
  ·rename_i r hr
   cases h
   have he:=kZ hm hx hr
   obtain⟨_,u,n,hu,rfl,hn⟩:=hx
   simp only[Kg,hr,Bool.and_eq_true] at hk
   obtain⟨hk1,hk2⟩:=hk
   have hk1:=beq_true.1 hk1
   have hk2:=beq_true.1 hk2
   subst hk1
   obtain⟨e,g1,g2⟩:=hm.dW _ _ _ (bS hr)
   obtain⟨_,u',g3,rfl⟩:=g2
   rw[hu] at g3;cases g3
   have qq:bq.rowAt m bV cS u=some (aS r.t r.l):=by
    unfold bq.rowAt
    rw[g1]
    simp[beq_true.2 rfl]
   have hc:∃ t0,c=.sl t0 .d∧d=[⟨.sl r.t,r.l⟩]:=by
    cases c with
    |sl t o=>cases o<;>first|(injection hd with hd;exact⟨t,rfl,hd.symm⟩)|cases hd
    |_=>cases hd
   obtain⟨t0,rfl,rfl⟩:=hc
   ·refine ⟨.sl r.t r.l .d, fun _ => rfl, fun x3 us hp hu => ?_⟩
    simp[Df,beq_true.2 rfl,Option.some.injEq,Prod.mk.injEq] at hp
    obtain⟨rfl,rfl⟩:=hp
    refine⟨.ref lv sl p 0 n t.size,?_,fun ρ B m hf=>⟨hf.1,p,n,hf.2.1,by rw[hk2],fun r' hr'=>?_⟩⟩
    ·simp [aW, he, hrow, AZ, beq_true.2 rfl, qq]
     rfl
    ·rw [hf.2.2 _ (List.mem_singleton.2 rfl) r' hr']
     exact hn r hr
  ·cases h
 ·cases hk
 ·cases h
theorem wL {ρ : aR} {B:Nat} {m2:List (Tr E2)} {m:List (Tr aZ)} (hm:MR ρ B m2 m) {lv sl aa p row rk:Nat} (h0:rk≠0) (AZ:row % 65536=rk) (hr2:row / 65536≠0) (Cs:row % 65536≠65535) :
  ∀ {cs:List fC} {xs xs':List Cell} {ks:List (Nat×Nat)} {aD:List AV} {d:List eS} {k:Nat},Ux m2 rk k xs=true→lz m2 xs=some (xs',ks)→fe cs xs'=some d→aq (RC ρ B m2) xs aD→
  ∃ qt,(∀ rest,cj cs (d++rest)=some (qt,rest))∧∀ Gr us,rj rk lv sl aa k qt=some (Gr,us)→(∀ u∈us,row / 65536=u.t.size)→
   ∃ as',bZ m 0 row lv sl p k aD=some (as',us.map fun u=>aS u.t u.l)∧∀ (ρ : aR) (B:Nat) (m:List (Tr E2)),jM ρ B m lv sl aa p us→aq (RC ρ B m) Gr as'
 | cs, [], xs', ks, aD, d, k, _, h, hd, ha => by
  cases h
  match aD,ha with
  | [], _ =>
   match cs,hd with
   |[],hd=>
    cases hd
    refine⟨[],fun _=>rfl,fun Gr us hp _=>?_⟩
    cases hp
    exact⟨[],rfl,fun _ _ _ _=>trivial⟩
   |_ :: _,hd=>simp[fe] at hd
 | cs, x :: xs, xs', ks, aD, d, k, hk, h, hd, ha => by
  simp[Ux,Bool.and_eq_true] at hk
  simp[lz] at h
  split at h
  ·rename_i y k1 ys k2 h1 h2
   cases h
   match aD,ha with
   | a :: aD, ha =>
    match cs,hd with
    |[],hd=>simp[fe] at hd
    | c :: cs, hd =>
     simp[fe] at hd
     split at hd
     ·rename_i d1 d2 h5 h6
      cases hd
      obtain⟨x2,g2,g3⟩:=Rg hm (k:=k) (lv:=lv) (sl:=sl) (aa:=aa) (p:=p) h0 AZ hr2 Cs hk.1 h1 h5 ha.1
      obtain⟨qt,g5,g6⟩:=wL hm (lv:=lv) (sl:=sl) (aa:=aa) (p:=p) h0 AZ hr2 Cs (k:=k+1) hk.2 h2 h6 ha.2
      refine⟨x2 :: qt,fun rest=>by simp only[cj,List.append_assoc,g2,g5],fun Gr us hp hu=>?_⟩
      simp[rj] at hp
      split at hp
      ·rename_i z u1 zs u2 p1 p2
       cases hp
       obtain⟨a',q1,q2⟩:=g3 _ _ p1 (fun u h=>hu u (List.mem_append_left _ h))
       obtain⟨as',q3,q4⟩:=g6 _ _ p2 (fun u h=>hu u (List.mem_append_right _ h))
       exact⟨a' :: as',by simp only[bZ,q1,q3,List.map_append],fun ρ B m hf=>⟨q2 _ _ _ ⟨hf.1,hf.2.1,fun u h=>hf.2.2 u (List.mem_append_left _ h)⟩,q4 _ _ _ ⟨hf.1,hf.2.1,fun u h=>hf.2.2 u (List.mem_append_right _ h)⟩⟩⟩
      grind
     grind
  grind
theorem Og {m:List (Tr aZ)} {row lv sl p k:Nat} {a:AV} (h:mo a=true) (h2:bq.eY a=true):kj m 0 row lv sl p k a=aW m 0 row k lv sl p a:=by
 cases a<;>first|rfl|cases h
theorem A0 {ρ : aR} {B : Nat} {m2 : List (Tr E2)} {m : List (Tr aZ)} (hm : MR ρ B m2 m) {lv sl aa p row rk : Nat} (h0 : rk ≠ 0) (AZ : row % 65536 = rk) (hr2 : row / 65536 ≠ 0) (Cs : row % 65536 ≠ 65535) :
  ∀ {res:List (Bool×List fC)} {vs:List (Bool×List Cell)} {aD:List AV} {ds:List eS} {k:Nat},De m2 rk k vs=true→iL m2 res vs=some ds→aq (R1 ρ B m2) vs aD→
  ∃ ws,(∀ rest,gI res (ds++rest)=some (ws,rest))∧ws.length=aD.length∧∀ Cd us,Dg rk lv sl aa k ws=some (Cd,us)→(∀ u∈us,row / 65536=u.t.size)→
   ∃ as',eX m 0 row lv sl p k aD=some (as',us.map fun u=>aS u.t u.l)∧Cd.length=aD.length∧∀ (ρ : aR) (B:Nat) (m:List (Tr E2)),jM ρ B m lv sl aa p us→aq (R1 ρ B m) Cd as'
 | [], [], aD, ds, k, _, h, ha => by
  cases h
  match aD,ha with
  |[],_=>
   refine⟨[],fun _=>rfl,rfl,fun Cd us hp _=>?_⟩
   cases hp
   exact⟨[],rfl,rfl,fun _ _ _ _=>trivial⟩
 | (a, l) :: ps, (b, cs) :: vs, aD, ds, k, hk, h, ha => by
  simp[De,Bool.and_eq_true] at hk
  simp[iL] at h
  split at h
  ·rename_i cs' ks ds2 hab hf hr
   obtain⟨d,hd,rfl⟩:=aG h
   have hab:a=b:=by grind
   subst hab
   match aD,ha with
   | x :: aD, ha =>
    obtain⟨ws,g5,g6,g7⟩:=A0 hm (lv:=lv) (sl:=sl) (aa:=aa) (p:=p) h0 AZ hr2 Cs (k:=k+64) hk.2 hr ha.2
    have one : ∃ qt, (∀ rest, cj l (d ++ rest) = some (qt, rest)) ∧ ∀ Gr us, rj rk lv sl aa k qt = some (Gr, us) → (∀ u ∈ us, row / 65536 = u.t.size) →
      ∃ a',kj m 0 row lv sl p k x=some (a',us.map fun u=>aS u.t u.l)∧∀ (ρ : aR) (B:Nat) (m:List (Tr E2)),jM ρ B m lv sl aa p us→R1 ρ B m (a,Gr) a':=by
     cases a with
     |true=>
      obtain⟨as2,rfl,Q4⟩:=ha.1
      obtain⟨qt,q1,q2⟩:=wL hm (k:=k) (lv:=lv) (sl:=sl) (aa:=aa) (p:=p) h0 AZ hr2 Cs hk.1 hf hd Q4
      refine⟨qt,q1,fun Gr us hp hu=>?_⟩
      obtain⟨as',q3,q4⟩:=q2 Gr us hp hu
      exact⟨.agg as',by simp only[kj,q3,Option.map_some],fun ρ B m hf=>⟨as',rfl,q4 _ _ _ hf⟩⟩
     | false =>
      obtain⟨c,rfl,Q4⟩:=ha.1
      obtain⟨qt,q1,q2⟩:=wL hm (k:=k) (lv:=lv) (sl:=sl) (aa:=aa) (p:=p) h0 AZ hr2 Cs (aD:=[x]) hk.1 hf hd ⟨Q4,trivial⟩
      refine⟨qt,q1,fun Gr us hp hu=>?_⟩
      obtain⟨as',q3,q4⟩:=q2 Gr us hp hu
      have hc:=RC.cell Q4
      simp[bZ] at q3
      split at q3
      ·rename_i y u ys us' h1 h2
       cases h2
       simp at q3
       obtain⟨rfl,rfl⟩:=q3
       have hlen : ∃ x3, Gr = [x3] := by
        have hq:=q1 []
        have h1:∀ {l:List fC} {d:List eS} {xs:List Cell},cj l d=some (xs,[])→xs.length=l.length:=by
         intro l
         induction l with
         |nil=>intro d xs h;cases h;rfl
         |cons c l ih=>
          intro d xs h
          simp[cj] at h<;>grind
        have h2:∀ {k:Nat} {xs Gr:List Cell} {us:List SL},rj rk lv sl aa k xs=some (Gr,us)→Gr.length=xs.length:=by
         intro k xs
         induction xs generalizing k with
         |nil=>intro Gr us h;simp[rj,Option.some.injEq,Prod.mk.injEq] at h<;>grind
         |cons c l ih=>
          intro Gr us h
          simp[rj] at h<;>grind
        have h3:l.length=1:=by
         have we:∀ {cs:List fC} {xs:List Cell} {d:List eS},fe cs xs=some d→cs.length=xs.length:=by
          intro cs
          induction cs with
          |nil=>intro xs d h;cases xs with|nil=>rfl|cons _ _=>simp[fe] at h
          | cons c cs ih =>
           intro xs d h
           cases xs with
           |nil=>simp[fe] at h
           |cons x xs=>
            simp[fe] at h<;>grind
         simp[lz] at hf<;>grind
        have:=h2 hp
        rw[h1 hq,h3] at this
        match Gr,this with
        |[x3],_=>grind
       obtain⟨x3,rfl⟩:=hlen
       exact⟨y,by rw[Og hc.2.1 hc.2.2];exact h1,fun ρ B m hf=>⟨x3,rfl,(q4 _ _ _ hf).1⟩⟩
      grind
    obtain⟨qt,q1,q2⟩:=one
    refine⟨(a,qt) :: ws,fun rest=>by simp only[gI,List.append_assoc,q1,g5],by simp[g6],fun Cd us hp hu=>?_⟩
    simp[Dg] at hp
    split at hp
    ·rename_i z u1 zs u2 p1 p2
     cases hp
     obtain⟨a',q3,q4⟩:=q2 _ _ p1 (fun u h=>hu u (List.mem_append_left _ h))
     obtain⟨as',q5,q6,q7⟩:=g7 _ _ p2 (fun u h=>hu u (List.mem_append_right _ h))
     exact⟨a' :: as',by simp only[eX,q3,q5,List.map_append],by simp[q6],fun ρ B m hf=>⟨q4 _ _ _ ⟨hf.1,hf.2.1,fun u h=>hf.2.2 u (List.mem_append_left _ h)⟩,q7 _ _ _ ⟨hf.1,hf.2.1,fun u h=>hf.2.2 u (List.mem_append_right _ h)⟩⟩⟩
    grind
  grind
 |[],_ :: _,_,_,_,_,h,_=>by simp[iL] at h
 |_ :: _,[],_,_,_,_,h,_=>by simp[iL] at h
theorem Rh {ρ : aR} {B:Nat} {m2:List (Tr E2)} {m:List (Tr aZ)} (hm:MR ρ B m2 m) {lv sl aa p row rk:Nat} (h0:rk≠0) (AZ:row % 65536=rk) (hr2:row / 65536≠0) (Cs:row % 65536≠65535) {res:List (Bool×List fC)} {vs ws Cd:List (Bool×List Cell)} {aD:List AV} {ds:List eS} {us:List SL} {w:V2}
  (hk:De m2 rk 1 vs=true) (h:iL m2 res vs=some ds) (ha:aq (R1 ρ B m2) vs aD) (hw:gI res ds=some (ws,[])) (hp:Dg rk lv sl aa 1 ws=some (Cd,us)) (hu:∀ u∈us,row / 65536=u.t.size) (ht:mT Cd=some w) :
  ∃ a',fF m 0 row lv sl p (iH aD)=some (a',us.map fun u=>aS u.t u.l)∧∀ (ρ : aR) (B:Nat) (m:List (Tr E2)),jM ρ B m lv sl aa p us→RV ρ B m w a':=by
 obtain⟨ws1,g2,g3,g4⟩:=A0 hm (lv:=lv) (sl:=sl) (aa:=aa) (p:=p) h0 AZ hr2 Cs (k:=1) hk h ha
 have Gq:=g2 []
 rw[List.append_nil,hw] at Gq
 cases Gq
 obtain⟨as',g1,g5,g6⟩:=g4 _ _ hp hu
 match aD,ha,g1,g5 with
 | [], _, g1, g5 =>
  match Cd,g5 with
  |[],_=>
   cases ht
   simp only[eX,Option.some.injEq,Prod.mk.injEq] at g1
   obtain⟨rfl,g7⟩:=g1
   exact⟨.gN [],by simp only[iH,fF,eX,Option.map_some];rw[←g7],fun _ _ _ _=>⟨[],rfl,trivial⟩⟩
 | [a], ha, g1, g5 =>
  match Cd,g5 with
  | [(b, cs)], _ =>
   simp[eX] at g1
   split at g1
   ·rename_i y u ys us' h1 h2
    cases h2
    simp at g1
    obtain⟨rfl,rfl⟩:=g1
    refine⟨y,?_,fun ρ B m hf=>?_⟩
    ·match vs, ha with
     |[(b',cs')],ha=>
      have hn:=R1.eY ha.1
      cases a<;>first|exact h1|cases hn
    ·have hx := (g6 ρ B m hf).1
     cases b with
     |true=>
      obtain⟨bs,rfl,g7⟩:=hx
      cases ht
      exact⟨bs,rfl,g7⟩
     |false=>
      obtain⟨c,rfl,g7⟩:=hx
      cases ht
      exact g7
   grind
 | a :: b :: aD, ha, g1, g5 =>
  match Cd,g5 with
  |x :: y :: Cd,_=>
   cases ht
   exact⟨.gN as',by simp only[iH,fF,g1,Option.map_some],fun ρ B m hf=>⟨as',rfl,g6 _ _ _ hf⟩⟩
theorem KB {ρ : aR} {s2:S2} {s:St} {α : Type} {K:List Cell→Option α} {r : α} {o:Tr AV} (hs:xX ρ [o] s2 s) (ho:iJ o 0=.ptr 0 0 0 0 0) (h:y8 s2 K=some r) :
  ∃ cs aD,fK s.mem 0 0 0=some aD∧aq (RC ρ s2.nv s2.mem) cs aD∧K cs=some r:=by
 unfold y8 at h
 split at h
 ·rename_i o2 h2
  have hout:=hs.outer
  rw[h2] at hout
  split at h
  ·rename_i lv sl aa i off hp
   have hp:=hout.1 0 _ hp
   rw[ho] at hp
   obtain⟨_,u,hu,he⟩:=hp
   cases he
   split at h
   ·rename_i v cs hb
    split at h
    ·rename_i hv
     have hv:=Nat.eq_of_beq_eq_true hv
     subst hv
     obtain⟨e,g1,_,u',bs,g2,rfl,g3⟩:=hs.mem.dW _ _ _ hb
     rw[hu] at g2;cases g2
     unfold fK<;>grind
    grind
   grind
  grind
 grind
theorem MF {f:Nat} {fn:sQ} {aD:List AV} {Kk:List AV} {mem:List (Tr aZ)} {nv n0:Nat} {ax:AX} {t:St} (hf:Fs f=some fn) (hnp:Nat.beq aD.length fn.np=true) (UW:∀ id,ax≠.exit id) (q1:kq t fn.res=some Kk)
  (hev:∀ k n,n0≤k→n0≤n→exec (gU Fs k) (ze Fs) n fn.body { slots:=dm 0 aD .lf,mem,aB:=.lf,nv } = some (ax,t)):∀ n,n0+1≤n→gU Fs n f aD mem .lf nv=some (iH Kk,t.mem,t.aB,t.nv):=by
 intro n hn
 obtain⟨n,rfl⟩:∃ k,n=k+1:=⟨n-1,by omega⟩
 simp[gU,hf,hnp]
 have:=hev n n (by omega) (by omega)
 unfold ze at this
 cases ax with
 |normal=>grind
 |ret=>grind
 |exit id=>grind
theorem ZN (hE:aF Fs E) (N f:Nat) (args:List qy) (ta:List Ty) (res:List (Bool×List fC)) (tr:List Ty) (rk:Nat) {l:List fC} {ps:List qy} (hb:EZ args=some (l,ps)):Q5 Fs f ⟨args,ta,res,tr,rk,QC E N f args ta res tr rk⟩ l ps:=by
 intro x y h
 obtain⟨fn,hf,h⟩:=ak h
 rw[hE.fns] at hf
 rw[hb] at h
 simp at h
 split at h
 ·rename_i cs r hcs
  split at h
  ·rename_i vs hvs
   split at h
   ·rename_i hnp
    refine⟨cs,r,vs,hcs,hvs,fun bs aD L7 has=>?_⟩
    let ρ : aR:=fun v=>some v
    have hst:∀ m,dR 0 [] m:=fun m _ _ _ _ h=>absurd h (by omega)
    have JW:MR ρ 1 (eE [.lf,.lf] [(0,0,some (.box 0 cs))]) (qD bs):=by
     have h0:MR ρ 1 [.lf,.lf] [.lf,.lf]:=⟨rfl,fun lv sl e he=>by
      have:=mV 2 lv sl
      rw[show ([.lf,.lf]:List (Tr E2))=List.replicate 2 .lf from rfl,this] at he
      cases he⟩
     exact h0.cv (us:=[(0,0,some (.box 0 bs))]) (Nat.le_refl _) (dw (ks:=[]) (e:=.box 0 cs) trivial) (dx ⟨by omega,0,bs,rfl,rfl,L7.mono fun _ _=>RC.move (hst _) (by omega) fun _ h=>absurd h (by omega)⟩)
    have ahy:∀ m,RV ρ 1 m (.c (.ptr 0 0 0 0 0)) (.ptr 0 0 0 0 0):=fun m=>⟨by omega,0,rfl,rfl⟩
    have od:iJ (Tr.set .lf 0 (some (.ptr 0 0 0 0 0))) 0=AV.ptr 0 0 0 0 0:=rfl
    have start:xX ρ [Tr.set .lf 0 (some (.ptr 0 0 0 0 0))] { slots:=gB 0 (.c (.ptr 0 0 0 0 0) :: vs) .lf,outer:=[Tr.set .lf 0 (some (.c (.ptr 0 0 0 0 0)))],mem:=eE [.lf,.lf] [(0,0,some (.box 0 cs))],aB:=.lf,nv:=1 } { slots:=dm 0 (.ptr 0 0 0 0 0 :: aD) .lf,mem:=qD bs,aB:=.lf,nv:=1 }:=by
     refine⟨pX ⟨ahy _,has.mono fun _ _=>RV.move (hst _) (by omega) fun _ h=>absurd h (by omega)⟩,⟨fun k v hk=>?_,trivial⟩,JW,fun v hv=>?_,⟨fun v u hv hu=>?_,fun v hv=>?_,fun v v' u h h'=>?_⟩,Nat.le_refl _⟩
     ·rw[Tr.bQ] at hk<;>simp_all
     ·simp at hv
     ·grind
     ·grind
     grind
    obtain⟨ax,t2,ρ',t,⟨n0,hev⟩,g2,g3,g4,g5⟩:=zg hE N _ _ _ _ _ _ _ h _ _ _ start
    have UW:∀ id,ax≠.exit id:=by grind
    have g5:(y8 t2 fun cs'=>xN t2 fn.res fun vs=>match hiR 1 ((true,cs') :: vs) with
      |true=>bE (iL t2.mem res ((true,cs') :: vs)) fun ds=>pack tr ds
      |false=>none)=some y:=by
     grind
    obtain⟨cs1,bs1,q1,q2,g5⟩:=KB g2 od g5
    obtain⟨Xk,Kk,q3,q4,g5⟩:=vh g2.mem g2.slots g5
    split at g5
    case h_2=>cases g5
    rename_i hhi
    obtain⟨ds,q5,q6⟩:=ak g5
    have hhi:∀ v∈(true,cs1) :: Xk,∀ x∈v.2,TL 1 x=true:=fun v hv x hx=>List.all_eq_true.1 (List.all_eq_true.1 hhi v hv) x hx
    refine⟨n0+1,iH Kk,t.mem,t.aB,t.nv,MF hf (by simpa[←has.length] using hnp) UW q3 hev,fun new ws w sH hw=>?_⟩
    rw[cw q6] at sH
    match res,q5,sH with
    | (a, l1) :: ps1, q5, sH =>
     simp only[iL] at q5
     split at q5
     ·rename_i cs' ks ds2 hab hfz hr
      obtain⟨d,hd,rfl⟩:=aG q5
      obtain⟨as',qt,g6,g7,g8,g9⟩:=vj g2.mem (k:=0) (lv:=0) (sl:=0) (aa:=0) (hhi _ List.mem_cons_self) hfz hd q2
      simp[gI,g7] at sH
      split at sH
      ·rename_i xs r'' h2
       cases sH
       obtain⟨a',g10,g11,g12⟩:=ME g2.mem (lv:=0) (sl:=0) (aa:=0) (fun v hv=>hhi v (List.mem_cons_of_mem _ hv)) hr q4 h2 hw<;>grind
      grind
     grind
   grind
  grind
 grind
theorem adv (hE:aF Fs E) (N f:Nat) (args:List qy) (ta:List Ty) (res:List (Bool×List fC)) (tr:List Ty) (rk:Nat):nL Fs f ⟨args,ta,res,tr,rk,QC E N f args ta res tr rk⟩:=by
 refine⟨fun hb=>?_,fun l ps hb=>ZN hE N f args ta res tr rk hb⟩
 intro x y h
 obtain⟨fn,hf,h⟩:=ak h
 rw[hE.fns] at hf
 rw[hb] at h
 simp at h
 split at h
 ·rename_i vs hvs
  split at h
  ·rename_i hnp
   refine⟨vs,hvs,fun aD has=>?_⟩
   let ρ : aR:=fun v=>some v
   have start:xX ρ [] { slots:=gB 0 vs .lf,outer:=[],mem:=[.lf],aB:=.lf,nv:=0 } { slots:=dm 0 aD .lf,mem:=[.lf],aB:=.lf,nv:=0 }:=by
    refine⟨pX (has.mono fun _ _=>RV.move (fun _ _ _ _ h=>absurd h (by omega)) (Nat.le_refl _) fun _ h=>absurd h (by omega)),trivial,⟨rfl,fun lv sl e he=>?_⟩,fun v hv=>?_,⟨fun v u hv=>?_,fun v _=>?_,fun v v' u h h'=>?_⟩,Nat.le_refl _⟩
    ·have:=mV 1 lv sl<;>grind
    ·simp at hv
    ·grind
    ·grind
    grind
   obtain⟨ax,t2,ρ',t,⟨n0,hev⟩,g2,g3,g4,g5⟩:=zg hE N _ _ _ _ _ _ _ h _ _ _ start
   have UW:∀ id,ax≠.exit id:=by grind
   have g5:(xN t2 fn.res fun vs=>match Zy t2.mem rk vs && !Nat.beq rk 65535 with
     |true=>bE (iL t2.mem res vs) fun ds=>pack tr ds
     |false=>none)=some y:=by
    grind
   obtain⟨Xk,Kk,q1,q2,g5⟩:=vh g2.mem g2.slots g5
   split at g5
   case h_2=>cases g5
   rename_i zf
   simp at zf
   obtain⟨zf,Cs⟩:=zf
   have Cs:rk≠65535:=by intro e;simp_all
   obtain⟨ds,q3,q4⟩:=ak g5
   refine⟨n0+1,iH Kk,t.mem,t.aB,t.nv,fun n hn=>?_,fun ws sH=>⟨fun _ w hw lv sl aH=>?_,fun row lv sl aa p Cd us w h0 AZ hr2 hp hu hw=>?_⟩⟩
   ·exact MF hf (by rw[←has.length];exact hnp) UW q1 hev n hn
   ·rw [cw q4] at sH
    obtain⟨a',p1,_,p2⟩:=ME (top:=0) g2.mem (fun _ _ _ _=>PC _) q3 q2 sH hw
    exact⟨a',p1,p2⟩
   ·rw [cw q4] at sH
    have zf:De t2.mem rk 1 Xk=true:=by
     unfold Zy at zf
     rw[beq_false.2 h0] at zf<;>omega
    exact Rh g2.mem h0 AZ hr2 (by rw[AZ];exact Cs) zf q3 q2 sH hp hu hw
  grind
 grind
end
end Go.Sym
