/- The machine over typed data: calls. -/
import Derived.Test.YthphehfgekjooaaGreatDoorSymB
import Derived.Test.YthphehfgekjooaaGreatDoorSymI
set_option linter.unusedVariables false
set_option linter.unusedSimpArgs false
namespace Go.Sym
open Go Go.bq
def ze (Fs:Nat→Option sQ):Nat→Bool:=fun g=>((Fs g).map (·.sh)).getD false
def Ev (Fs:Tb) (c:AC) (s:St) (x:AX×St):Prop:=∃ n0,∀ k n,n0≤k→n0≤n→exec (gU Fs k) (ze Fs) n c s=some x
def Kw (Fs:Tb) (wk:Wk):Prop:=
 ∀ (α : Type) (ctx i:Nat) (c:AC) (s2:S2) (K:AX→S2→Option α) (r : α),wk α ctx i c s2 K=some r→∀ (ρ : aR) (os:List (Tr AV)) (s:St),xX ρ os s2 s→
  ∃ ax s2' ρ' s',Ev Fs c s (ax,s')∧xX ρ' os s2' s'∧Fr ρ s2.nv s.nv ρ' s2'.nv∧s.nv≤s'.nv∧K ax s2'=some r
def jM (ρ : aR) (B:Nat) (m:List (Tr E2)) (lv sl aa p:Nat) (us:List SL):Prop:=aa<B∧ρ aa=some p∧∀ u∈us,∀ r,rowOf m lv sl aa=some r→r.l.length=u.l.length
def ZM (Fs : Tb) (f : Nat) (c : Callee) : Prop :=
 ∀ a y, c.F a = some y → ∃ vs, cE c.args (unpack c.ta a) = some (vs, []) ∧ ∀ aD, aq (RV ρ0 0 []) vs aD → ∃ n0 rv cm ts nv, (∀ n, n0 ≤ n → gU Fs n f aD [.lf] .lf 0 = some (rv, cm, ts, nv)) ∧
  ∀ ws, gI c.res (unpack c.tr y) = some (ws, []) → (c.rk ≠ 65535 → ∀ w, mT ws = some w → ∀ lv sl aH, ∃ a', fF cm 0 0 lv sl aH rv = some (a', []) ∧ ∀ ρ B m, RV ρ B m w a') ∧
   ∀ row lv sl aa p Cd us w,c.rk≠0→row % 65536=c.rk→row / 65536≠0→Dg c.rk lv sl aa 1 ws=some (Cd,us)→(∀ u∈us,row / 65536=u.t.size)→mT Cd=some w→
    ∃ a',fF cm 0 row lv sl p rv=some (a',us.map fun u=>aS u.t u.l)∧∀ ρ B m,jM ρ B m lv sl aa p us→RV ρ B m w a'
def Q5 (Fs:Tb) (f:Nat) (c:Callee) (l:List fC) (ps:List qy):Prop:=
 ∀ a y, c.F a = some y → ∃ cs r vs, cj l (unpack c.ta a) = some (cs, r) ∧ cE ps r = some (vs, []) ∧ ∀ bs aD, aq (RC ρ0 0 []) cs bs → aq (RV ρ0 0 []) vs aD →
  ∃ n0 rv cm ts nv,(∀ n,n0≤n→gU Fs n f (.ptr 0 0 0 0 0 :: aD) (qD bs) .lf 1=some (rv,cm,ts,nv))∧
  ∀ new ws w,gI c.res (unpack c.tr y)=some ((true,new) :: ws,[])→mT ws=some w→
   ∃ cs' ds a',fK cm 0 0 0=some cs'∧bZ cm 1 0 0 0 0 0 cs'=some (ds,[])∧ds.all zC=true∧fF cm 1 0 0 0 0 rv=some (a',[])∧Ek a'=true∧∀ ρ B m,aq (RC ρ B m) new ds∧RV ρ B m w a'
def nL (Fs:Tb) (f:Nat) (c:Callee):Prop:=(EZ c.args=none→ZM Fs f c)∧∀ l ps,EZ c.args=some (l,ps)→Q5 Fs f c l ps
def Q6 (Fs:Tb) (c:AC) (L:Hr):Prop:=
 ∀ x y,L.F x=some y→∀ s2,L.T.st (unpack L.T.tys x)=some s2→∀ ρ os s,xX ρ os s2 s→
  ∃ ax s2' ρ' s',Ev Fs (.loop c) s (ax,s')∧xX ρ' os s2' s'∧Fr ρ s2.nv s.nv ρ' s2'.nv∧s.nv≤s'.nv∧∀ {α : Type} (K:AX→S2→Option α),ot L.outs y K=K ax s2'
structure aF (Fs:Tb) (E:au):Prop where
 fns:E.fns=Fs
 Gm:∀ f c,E.Gm f=some c→nL Fs f c
 loops:∀ ctx i c L,E.loops ctx i c=some L→Q6 Fs c L
structure RI (ρ : aR) (nx rem:Nat) (os:List (Tr AV)) (s2:S2) (s:St) (p:Nat):Prop where
 slots:tM ρ nx s2.mem s2.slots s.slots
 outer:aq (tM ρ nx s2.mem) s2.outer os
 mem:MR ρ nx s2.mem s.mem
 aB:TR ρ nx s2.aB s.aB
 aa:VOK ρ s2.nv s.nv
 yJ:∀ j,j<rem→ρ (nx+j)=some (p+j)
 nv:nx+rem=s2.nv
 pn:p+rem≤s.nv
def nM (ρ : aR) (nx:Nat) (os:List (Tr AV)) (s2:S2) (s:St):fP→cR→Prop
 |.bC E,.bC e=>mU ρ nx (nx+1) s2 s E e
 |.all v s2',.all a m t n=>∃ ρ',xX ρ' os s2' { slots:=s.slots,mem:=m,aB:=t,nv:=n }∧RV ρ' s2'.nv s2'.mem v a∧Fr ρ (nx+1) s.nv ρ' s2'.nv∧s.nv≤n
 |_,_=>False
section
variable {Fs:Tb} {E:au} {wk:Wk} {α : Type} {ρ : aR} {nx rem p:Nat} {os:List (Tr AV)} {s2:S2} {s:St} {ctx row d:Nat} {K:fP→Option α} {r : α}
theorem Fc {m:List (Tr aZ)} {aD:List AV} {x:List AV×List (Nat×Nat)} (h:n7 m aD=some x):nD aD=none:=by
 unfold nD
 split
 ·cases h
 ·rfl
theorem tc:∀ (l:List V2) (i:Nat) (t:Tr V2) (k:Nat),(gB i l t).get? k=if h:i≤k∧k<i+l.length then some (l[k-i]'(by omega)) else t.get? k
 |[],i,t,k=>by rw[dif_neg (by simp)];rfl
 | x :: r, i, t, k => by
  rw[gB,tc r (i+1)]
  by_cases h1:i+1≤k∧k<i+1+r.length
  ·grind
  ·rw [dif_neg h1]
   by_cases h2:k=i
   ·subst h2
    simp[Tr.bQ]
   ·rw [dif_neg (by simp; omega)]
    rw[Tr.bQ,if_neg (Ne.symm h2)]
theorem pX {B:Nat} {m:List (Tr E2)} {vs:List V2} {aD:List AV} (h:aq (RV ρ B m) vs aD):tM ρ B m (gB 0 vs .lf) (dm 0 aD .lf):=by
 intro k v hk
 rw[tc] at hk
 rw[pP]
 split at hk
 ·subst_vars
  obtain⟨b,hb,hr⟩:=h.get (k-0) _ (List.getElem?_eq_getElem (by omega))<;>grind
 simp_all
theorem Dz {m:List (Tr E2)} {lv sl:Nat} : gL (m++[.lf]) lv sl=gL m lv sl:=by
 unfold gL
 grind[Tr.get?]
theorem HU {m:List (Tr aZ)} {lv sl:Nat} : aC (m++[.lf]) lv sl=aC m lv sl:=by
 unfold aC
 grind[Tr.get?]
theorem Kx {m:List (Tr E2)} {lv sl aa:Nat} : rowOf (m++[.lf]) lv sl aa=rowOf m lv sl aa:=by
 unfold rowOf;rw[Dz]
theorem sG {B:Nat} {m:List (Tr E2)} : dR B m (m++[.lf]):=fun _ _ _ r _ h=>⟨r,by rw[Kx] at h;exact h,rfl⟩
theorem DA {m:List (Tr E2)} {k lv sl:Nat} {e:E2} (h:gL (m.take k) lv sl=some e):lv<k∧gL m lv sl=some e:=by
 grind[gL]
theorem nG {m:List (Tr aZ)} {k lv sl:Nat} (h:lv<k):aC (m.take k) lv sl=aC m lv sl:=by
 grind[aC]
theorem kC {B k:Nat} {m:List (Tr E2)} : dR B m (m.take k):=fun _ _ _ r _ h=>⟨r,fH.2 (DA (bS h)).2,rfl⟩
theorem MR.take {B k:Nat} {m2:List (Tr E2)} {m:List (Tr aZ)} (h:MR ρ B m2 m):MR ρ B (m2.take k) (m.take k):=by
 refine⟨by simp[h.len],fun lv sl e2 he=>?_⟩
 obtain⟨h1,h2⟩:=DA he
 obtain⟨e,h3,h4⟩:=h.dW lv sl e2 h2
 exact⟨e,by rw[nG h1];exact h3,RE.mono (Nat.le_refl _) (fun _ _=>rfl) (fun _ _=>RC.move kC (Nat.le_refl _) fun _ _=>rfl) h4⟩
theorem MR.snoc {B:Nat} {m2:List (Tr E2)} {m:List (Tr aZ)} (h:MR ρ B m2 m):MR ρ B (m2++[.lf]) (m++[.lf]):=by
 refine⟨by simp[h.len],fun lv sl e2 he=>?_⟩
 rw[Dz] at he
 obtain⟨e,h3,h4⟩:=h.dW lv sl e2 he
 exact⟨e,by rw[HU];exact h3,RE.mono (Nat.le_refl _) (fun _ _=>rfl) (fun _ _=>RC.move sG (Nat.le_refl _) fun _ _=>rfl) h4⟩
theorem MR.ren {ρ':aR} {B:Nat} {m2:List (Tr E2)} {m:List (Tr aZ)} (h:MR ρ B m2 m) (hρ : ∀ v,v<B→ρ' v = ρ v):MR ρ' B m2 m:=by
 refine⟨h.len,fun lv sl e2 he=>?_⟩
 obtain⟨e,h3,h4⟩:=h.dW lv sl e2 he
 exact⟨e,h3,RE.mono (Nat.le_refl _) hρ (fun _ _=>RC.move (dR.refl _ _) (Nat.le_refl _) hρ) h4⟩
theorem AQ {B:Nat} {m:List (Tr E2)} : ∀ {vs:List V2} {aD:List AV},vs.all V2.Xh=true→aq (RV ρ B m) vs aD→aD.all eY=true
 |[],[],_,_=>rfl
 |v :: vs,a :: aD,h,ha=>by
  rw[List.all_cons,Bool.and_eq_true] at h
  rw[List.all_cons,AQ h.2 ha.2,Bool.and_true]
  cases v with
  |c x=>exact (RC.cell ha.1).2.2
  |agg cs=>obtain⟨as',e,_⟩:=ha.1;rw[e];rfl
  |fB f cs=>obtain⟨as',e,_⟩:=ha.1;rw[e];rfl
  |gN vs=>cases h.1
 |[],_ :: _,_,h=>h.elim
 |_ :: _,[],_,h=>h.elim
theorem gC {ρ':aR} {B B':Nat} {m m':List (Tr E2)} (hs:dR B m m') (hB:B≤B') (hρ : ∀ v,v<B→ρ' v = ρ v) {ts:List (Tr V2)} (h:aq (tM ρ B m) ts os):aq (tM ρ' B' m') ts os:=
 h.mono fun _ _=>tM.move hs hB hρ
section
variable {B:Nat} {m2:List (Tr E2)} {m:List (Tr aZ)} (hm:MR ρ B m2 m)
def cU (ρ : aR) (B top:Nat) (m2:List (Tr E2)) (lv sl aa p:Nat) (us:List SL) (Q:aR→Nat→List (Tr E2)→Prop):Prop:=
 ∀ ρ' B' m',jM ρ' B' m' lv sl aa p us→(∀ v,v<B→ρ' v = ρ v)→B≤B'→dR B (m2.take top) m'→Q ρ' B' m'
theorem jM.left {ρ : aR} {B:Nat} {m:List (Tr E2)} {lv sl aa p:Nat} {us vs:List SL} (h:jM ρ B m lv sl aa p (us++vs)):jM ρ B m lv sl aa p us:=⟨h.1,h.2.1,fun u hu=>h.2.2 u (List.mem_append_left _ hu)⟩
theorem jM.right {ρ : aR} {B:Nat} {m:List (Tr E2)} {lv sl aa p:Nat} {us vs:List SL} (h:jM ρ B m lv sl aa p (us++vs)):jM ρ B m lv sl aa p vs:=⟨h.1,h.2.1,fun u hu=>h.2.2 u (List.mem_append_right _ hu)⟩
theorem x4 {top k lv sl aa:Nat} (hn:k≠row % 65536) {els:List (List D)} {o:PK} (ho:o≠.bB):∃ a',aW m top row k lv sl aa (.own els o)=some (a',[])∧(nA top row=true→a'=.own els o)∧(a'=.own els o∨a'=.d (.sl els)):=by
 have h0:Nat.beq k (row % 65536)=false:=beq_false.2 hn
 cases o with
 |bB=>grind
 |full=>
  grind[nA,aW]
 |bR=>
  simp[aW]<;>grind
theorem UT {top k lv sl aa:Nat} {x y:Cell} {a:AV} (hr:row≠0) (hn:k≠row % 65536) (h:ZA m2 top x=some y) (hh:Xf top x=false) (hx:RC ρ B m2 x a):∃ a',aW m top row k lv sl aa a=some (a',[])∧RC ρ B (m2.take top) y a':=by
 have keep:∀ {els:List (List D)} {o:PK} {z:Cell},o≠.bB→RC ρ B (m2.take top) z (.own els o)→Nat.beq top 0=false→∃ a',aW m top row k lv sl aa (.own els o)=some (a',[])∧RC ρ B (m2.take top) z a':=by
  intro els o z ho hz ht
  obtain⟨a',h1,h2,_⟩:=x4 (m:=m) (top:=top) (lv:=lv) (sl:=sl) (aa:=aa) hn (els:=els) ho
  rw[h2 (by simp only[nA,beq_false.2 hr,ht];rfl)] at h1
  exact⟨_,h1,hz⟩
 have lose:∀ {els:List (List D)} {o:PK} {z:Cell},o≠.bB→(RC ρ B (m2.take top) z (.d (.sl els))∧RC ρ B (m2.take top) z (.own els o))→Nat.beq top 0=true→∃ a',aW m top row k lv sl aa (.own els o)=some (a',[])∧RC ρ B (m2.take top) z a':=by
  intro els o z ho hz ht
  obtain⟨a',h1,_,h2⟩:=x4 (m:=m) (top:=top) (lv:=lv) (sl:=sl) (aa:=aa) hn (els:=els) ho
  refine⟨a',h1,?_⟩
  rcases h2 with rfl|rfl
  ·exact hz.2
  ·exact hz.1
 unfold ZA at h
 split at h
 ·rename_i b
  have hx':=(fE (m:=m) hx).2
  split at h
  ·rename_i ht
   cases h
   rcases hx' with rfl|⟨o,ho,rfl⟩
   ·exact⟨_,rfl,.inl rfl⟩
   ·exact lose ho ⟨.inl rfl,.inr ⟨_,ho,rfl⟩⟩ ht
  ·rename_i ht
   cases h
   rcases hx' with rfl|⟨o,ho,rfl⟩
   ·refine ⟨_, rfl, ?_⟩
    cases b with
    |false=>exact .inl rfl
    |true=>cases hx
   ·refine keep ho ?_ ht
    cases b with
    |false=>exact .inr ⟨o,ho,rfl⟩
    |true=>exact hx
 ·split at h
  ·rename_i ht
   cases h
   obtain⟨h1,⟨h2,rfl⟩|⟨u,h2,rfl⟩⟩:=hx
   ·exact lose (fun e=>by cases e) ⟨.inl rfl,.inr ⟨_,(fun e=>by cases e),rfl⟩⟩ ht
   ·exact lose (fun e=>by cases e) ⟨.inl rfl,.inr ⟨_,(fun e=>by cases e),rfl⟩⟩ ht
  ·rename_i ht
   cases h
   obtain⟨h1,⟨h2,rfl⟩|⟨u,h2,rfl⟩⟩:=hx
   ·exact keep (fun e=>by cases e) ⟨h1,.inl ⟨h2,rfl⟩⟩ ht
   ·exact keep (fun e=>by cases e) ⟨h1,.inr ⟨u,h2,rfl⟩⟩ ht
 ·subst hx
  split at h
  ·rename_i ht
   cases h
   exact lose (fun e=>by cases e) ⟨.inl rfl,.inr ⟨_,(fun e=>by cases e),rfl⟩⟩ ht
  ·rename_i ht
   cases h
   exact keep (fun e=>by cases e) rfl ht
 ·rename_i hn1 hn2 hn3
  unfold Qx at h
  split at h
  ·cases h;cases hx;exact⟨_,rfl,rfl⟩
  ·cases h;cases hx;exact⟨_,rfl,rfl⟩
  ·cases h;cases hx;exact⟨_,rfl,rfl⟩
  ·cases h;cases hx;exact⟨_,rfl,rfl⟩
  ·exact absurd rfl (hn1 _)
  ·cases h
  ·rename_i t l o hne
   cases h
   have ho:o=.d:=by
    cases o with
    |d=>rfl
    |bB=>exact absurd rfl hne
    |full=>exact absurd rfl (hn3 _ _)
    |app v=>exact absurd rfl (hn2 _ _ _)
   subst ho
   rcases hx with rfl|⟨o,ho,rfl⟩
   ·exact⟨_,rfl,.inl rfl⟩
   ·cases ht : Nat.beq top 0 with
    |true=>exact lose ho ⟨.inl rfl,.inr ⟨_,ho,rfl⟩⟩ ht
    |false=>exact keep ho (.inr ⟨o,ho,rfl⟩) ht
  ·rename_i bV cS fN t
   have hb:Nat.ble top bV=false:=hh
   rw[hb] at h
   cases h
   obtain⟨hv,u,n,hu,rfl,hn⟩:=hx
   refine⟨_,by simp only[aW,hb],hv,u,n,hu,rfl,fun r hr=>hn r ?_⟩
   have h1:=bS hr
   refine fH.2 ?_
   unfold gL at h1 ⊢
   rw[List.getElem?_take] at h1
   split at h1
   ·exact h1
   ·cases h1
  ·rename_i bV cS fN t off len
   have hb:Nat.ble top bV=false:=hh
   rw[hb] at h
   cases h
   obtain⟨hv,u,hu,rfl,hn⟩:=hx
   refine⟨_,by simp only[aW,hb],hv,u,hu,rfl,fun r hr=>hn r ?_⟩
   have h1:=bS hr
   refine fH.2 ?_
   unfold gL at h1 ⊢
   rw[List.getElem?_take] at h1
   split at h1
   ·exact h1
   ·cases h1
  ·cases h
include hm
theorem HV {top rk k lv sl aa p:Nat} {e:Option Ty} {x y:Cell} {us:List SL} {a:AV} (hr:row≠0) (zf:row % 65536=rk) (h2:row / 65536≠0) (h:Qy m2 top rk lv sl aa e k x=some (y,us)) (hx:RC ρ B m2 x a) (hu:∀ u∈us,row / 65536=u.t.size) :
  ∃ a',aW m top row k lv sl p a=some (a',us.map fun u=>aS u.t u.l)∧cU ρ B top m2 lv sl aa p us fun ρ' B' m'=>RC ρ' B' m' y a':=by
 have hrow:Nat.beq row 0=false:=beq_false.2 hr
 unfold Qy at h
 split at h
 ·rename_i hk
  have hk:=beq_true.1 hk
  subst hk
  have hkk:Nat.beq k (row % 65536)=true:=beq_true.2 zf.symm
  have at_:∀ {bV cS fN r u},rowOf m2 bV cS fN=some r→ρ fN=some u→bq.rowAt m bV cS u=some (aS r.t r.l):=by
   intro bV cS fN r u hr hu
   obtain⟨e,g1,g2⟩:=hm.dW _ _ _ (bS hr)
   obtain⟨_,u',g3,rfl⟩:=g2
   unfold bq.rowAt<;>simp_all
  split at h
  ·cases e with
   |none=>cases h
   |some t=>
    cases h
    subst hx
    have hs:(!Nat.beq (row / 65536) 0)=true:=by rw[beq_false.2 h2];rfl
    have hu:=hu _ (List.mem_singleton.2 rfl)
    refine⟨.ref lv sl p 0 0 (row / 65536),by simp only[aW,hs,hkk,Bool.and_true];rfl,fun ρ' B' m' hf _ _ _=>⟨hf.1,p,0,hf.2.1,by rw[hu],fun r hr=>?_⟩⟩
    have:=hf.2.2 _ (List.mem_singleton.2 rfl) r hr<;>grind
  ·rename_i bV cS fN t
   split at h
   ·rename_i r hb hr
    split at h
    ·rename_i hsz
     have hsz:=beq_true.1 hsz
     cases h
     have he:=kZ hm hx hr
     obtain⟨hv,u,n,j7,rfl,hn⟩:=hx
     refine⟨.ref lv sl p 0 n t.size,?_,fun ρ' B' m' hf _ _ _=>⟨hf.1,p,n,hf.2.1,by rw[hsz],fun r' hr'=>?_⟩⟩
     ·simp only[aW,hb,he,hrow,hkk,at_ hr j7]<;>grind
     ·rw[hf.2.2 _ (List.mem_singleton.2 rfl) r' hr']<;>grind
    grind
   grind
  ·rename_i bV cS fN t off len
   split at h
   ·rename_i r hb hr
    split at h
    ·rename_i hsz
     have hsz:=beq_true.1 hsz
     cases h
     have hle:=hx.2.choose_spec.2.2 r hr
     have he:=iU hm hx hr hle
     obtain⟨hv,u,j7,rfl,hn⟩:=hx
     refine⟨.ref lv sl p 0 len t.size,?_,fun ρ' B' m' hf _ _ _=>⟨hf.1,p,len,hf.2.1,by rw[hsz],fun r' hr'=>?_⟩⟩
     ·simp only[aW,hb,he,hrow,hkk,at_ hr j7]<;>grind
     ·rw[hf.2.2 _ (List.mem_singleton.2 rfl) r' hr',List.length_take,List.length_drop]<;>omega
    grind
   grind
  grind
 ·rename_i hk
  have hk:=beq_false.1 hk
  split at h
  ·cases h
  ·rename_i hh
   obtain⟨y',h1,h⟩:=Option.map_eq_some_iff.1 h
   cases h
   obtain⟨a',g1,g2⟩:=UT (m:=m) (k:=k) (lv:=lv) (sl:=sl) (aa:=p) hr (by rw[zf];exact hk) h1 hh hx
   exact⟨a',g1,fun ρ' B' m' _ hρ hB hs=>g2.move hs hB hρ⟩
theorem HW {top rk lv sl aa p:Nat} {e:Option Ty} (hr:row≠0) (zf:row % 65536=rk) (h2:row / 65536≠0):∀ {k:Nat} {xs ys:List Cell} {us:List SL} {aD:List AV},Dh m2 top rk lv sl aa e k xs=some (ys,us)→aq (RC ρ B m2) xs aD→(∀ u∈us,row / 65536=u.t.size)→
  ∃ as',bZ m top row lv sl p k aD=some (as',us.map fun u=>aS u.t u.l)∧cU ρ B top m2 lv sl aa p us fun ρ' B' m'=>aq (RC ρ' B' m') ys as'
 |k,[],ys,us,aD,h,ha,_=>by
  cases h
  match aD,ha with
  |[],_=>exact⟨[],rfl,fun _ _ _ _ _ _ _=>trivial⟩
 | k, x :: xs, ys, us, aD, h, ha, hu => by
  simp[Dh] at h
  split at h
  ·rename_i y u ys' us' h1 h3
   cases h
   match aD,ha with
   |a :: aD,ha=>
    obtain⟨a',g1,g2⟩:=HV hm (p:=p) hr zf h2 h1 ha.1 fun v hv=>hu v (List.mem_append_left _ hv)
    obtain⟨as',g3,g4⟩:=HW (p:=p) hr zf h2 h3 ha.2 fun v hv=>hu v (List.mem_append_right _ hv)
    refine⟨a' :: as',by simp only[bZ,g1,g3,List.map_append],fun ρ' B' m' hf h4 h5 h6=>⟨g2 ρ' B' m' hf.left h4 h5 h6,g4 ρ' B' m' hf.right h4 h5 h6⟩⟩
  grind
theorem DB {top rk k lv sl aa p:Nat} {e:Option Ty} (hr:row≠0) (zf:row % 65536=rk) (h2:row / 65536≠0) {b:Bool} {xs ys:List Cell} {us:List SL} {a:AV} (h:Dh m2 top rk lv sl aa e k xs=some (ys,us)) (ha:R1 ρ B m2 (b,xs) a) (hu:∀ u∈us,row / 65536=u.t.size) :
  ∃ a',kj m top row lv sl p k a=some (a',us.map fun u=>aS u.t u.l)∧cU ρ B top m2 lv sl aa p us fun ρ' B' m'=>R1 ρ' B' m' (b,ys) a':=by
 cases b with
 |true=>
  obtain⟨aD,rfl,ha⟩:=ha
  obtain⟨as',g1,g2⟩:=HW hm (p:=p) hr zf h2 h ha hu
  exact⟨.agg as',by simp only[kj,g1,Option.map_some],fun ρ' B' m' hf h4 h5 h6=>⟨as',rfl,g2 ρ' B' m' hf h4 h5 h6⟩⟩
 | false =>
  obtain⟨c,rfl,ha⟩:=ha
  simp[Dh] at h
  split at h
  ·rename_i y u ys' us' h1 h3
   cases h3
   simp at h
   obtain⟨rfl,rfl⟩:=h
   obtain⟨a',g1,g2⟩:=HV hm (p:=p) hr zf h2 h1 ha hu
   refine⟨a',?_,fun ρ' B' m' hf h4 h5 h6=>⟨y,rfl,g2 ρ' B' m' hf h4 h5 h6⟩⟩
   have hc:=RC.cell ha
   cases a<;>first|exact g1|cases hc.2.1
  grind
theorem HX {top rk lv sl aa p:Nat} {e:Option Ty} (hr:row≠0) (zf:row % 65536=rk) (h2:row / 65536≠0):∀ {k:Nat} {vs ws:List (Bool×List Cell)} {us:List SL} {aD:List AV},Av m2 top rk lv sl aa e k vs=some (ws,us)→aq (R1 ρ B m2) vs aD→(∀ u∈us,row / 65536=u.t.size)→
  ∃ as',eX m top row lv sl p k aD=some (as',us.map fun u=>aS u.t u.l)∧ws.length=vs.length∧cU ρ B top m2 lv sl aa p us fun ρ' B' m'=>aq (R1 ρ' B' m') ws as'
 |k,[],ws,us,aD,h,ha,_=>by
  cases h
  match aD,ha with
  |[],_=>exact⟨[],rfl,rfl,fun _ _ _ _ _ _ _=>trivial⟩
 | k, (b, x) :: xs, ws, us, aD, h, ha, hu => by
  simp[Av] at h
  split at h
  ·rename_i y u ys' us' h1 h3
   cases h
   match aD,ha with
   |a :: aD,ha=>
    obtain⟨a',g1,g2⟩:=DB hm (p:=p) hr zf h2 h1 ha.1 fun v hv=>hu v (List.mem_append_left _ hv)
    obtain⟨as',g3,gl,g4⟩:=HX (p:=p) hr zf h2 h3 ha.2 fun v hv=>hu v (List.mem_append_right _ hv)
    refine⟨a' :: as',by simp only[eX,g1,g3,List.map_append],by rw[List.length_cons,List.length_cons,gl],fun ρ' B' m' hf h4 h5 h6=>⟨g2 ρ' B' m' hf.left h4 h5 h6,g4 ρ' B' m' hf.right h4 h5 h6⟩⟩
  grind
theorem HY {top rk lv sl aa p:Nat} {e:Option Ty} (hr:row≠0) (zf:row % 65536=rk) (h2:row / 65536≠0) {vs ws:List (Bool×List Cell)} {us:List SL} {w:V2} {aD:List AV} (h:Av m2 top rk lv sl aa e 1 vs=some (ws,us)) (ht:mT ws=some w) (ha:aq (R1 ρ B m2) vs aD) (hu:∀ u∈us,row / 65536=u.t.size) :
  ∃ a',fF m top row lv sl p (iH aD)=some (a',us.map fun u=>aS u.t u.l)∧cU ρ B top m2 lv sl aa p us fun ρ' B' m'=>RV ρ' B' m' w a':=by
 match vs,aD,ha with
 |[],[],ha=>
  cases h
  cases ht
  exact⟨.gN [],rfl,fun _ _ _ _ _ _ _=>⟨[],rfl,trivial⟩⟩
 | [(b, x)], [a], ha =>
  simp[Av] at h
  split at h
  ·rename_i y u ys' us' h1 h3
   cases h3
   simp at h
   obtain⟨rfl,rfl⟩:=h
   obtain⟨a',g1,g2⟩:=DB hm (p:=p) hr zf h2 h1 ha.1 hu
   refine⟨a',?_,fun ρ' B' m' hf h4 h5 h6=>?_⟩
   ·have hn := R1.eY ha.1
    cases a<;>first|exact g1|cases hn
   ·have g2 := g2 ρ' B' m' hf h4 h5 h6
    cases b with
    |true=>
     obtain⟨as',rfl,g3⟩:=g2
     cases ht
     exact⟨as',rfl,g3⟩
    |false=>
     obtain⟨c,rfl,g3⟩:=g2
     cases ht
     exact g3
  grind
 | v :: v' :: vs, a :: a' :: aD, ha =>
  obtain⟨as',g1,gl,g2⟩:=HX hm (p:=p) hr zf h2 h ha hu
  refine⟨.gN as',by simp only[iH,fF,g1,Option.map_some],fun ρ' B' m' hf h4 h5 h6=>?_⟩
  match ws,gl,ht with
  |x :: y :: zs,_,ht=>
   cases ht
   exact⟨as',rfl,g2 ρ' B' m' hf h4 h5 h6⟩
end
theorem oG {B:Nat} {m:List (Tr E2)} : ∀ {vs:List V2} {aD:List AV},aq (RV ρ B m) vs aD→aK ρ (vs.flatMap ET) (aD.flatMap dA)
 |[],[],_=>aK.nil
 |_ :: _,_ :: _,h=>by
  exact (Mw h.1).append (oG h.2)
 |[],_ :: _,h=>h.elim
 |_ :: _,[],h=>h.elim
theorem UU (hi:RI ρ nx rem os s2 s p) {f:Nat} {c:Callee} {l:List fC} {ps:List qy} (hc:Q5 Fs f c l ps) {vs:List V2} {aD:List AV} (h:ZB s2 c l ps vs K=some r) (has:aq (RV ρ nx s2.mem) vs aD) :
  ∃ r2 e,(∃ n0,∀ n,n0≤n→eZ (gU Fs n) false 0 s (s.mem.length-1) d p f aD=some e)∧nM ρ nx os s2 s r2 e∧K r2=some r:=by
 unfold ZB at h
 split at h
 ·rename_i lv sl aa i off rest
  match aD,has with
  |a :: aD,has=>
  split at h
  ·rename_i v cs hb he
   split at h
   ·rename_i hv
    have hv:=Nat.eq_of_beq_eq_true hv
    subst hv
    obtain⟨ds,hds,h⟩:=ak h
    obtain⟨es,hes,h⟩:=ak h
    obtain⟨x,hx,h⟩:=ak h
    obtain⟨y,hy,h⟩:=bind_some h
    split at h
    ·rename_i new ws sH
     obtain⟨w,hw,h⟩:=ak h
     obtain⟨⟨hlt,u,hu,rfl⟩,AR⟩:=has
     obtain⟨e,g1,_,u',bs,g2,rfl,g3⟩:=hi.mem.dW _ _ _ he
     rw[hu] at g2;cases g2
     obtain⟨bs0,cs0,g4,g5,g6⟩:=Fb hds g3
     obtain⟨as0,vs0,g7,g8,g9⟩:=UP hes AR
     obtain⟨cs1,r1,Xk,q1,q2,q3⟩:=hc x y hy
     rw[cw hx,g5 es] at q1
     cases q1
     have g8:=g8 []
     rw[List.append_nil,q2] at g8
     cases g8
     obtain⟨n0,rv,cm,ts,nv,q4,q5⟩:=q3 bs0 as0 (g6 _ _ _) (g9 _ _ _)
     obtain⟨cs',ds',a',q6,q7,q8,q9,q10,q11⟩:=q5 new ws w sH hw
     have hst:dR nx s2.mem (eE s2.mem [(lv,sl,some (.box v new))]):=dw (ks:=[]) (e:=.box _ _) trivial
     refine⟨_,.bC { val:=a',cv:=[(lv,sl,some (.box u ds'))],bR:=[],rd:=bw lv sl :: aD.flatMap dA },⟨n0,fun n hn=>?_⟩,?_,h⟩
     ·have JW : fK s.mem lv sl u = some bs := by
       unfold fK
       rw[g1]
       simp[beq_true.2 rfl]
      simp[eZ,nD,hb,qE,JW,g4,g7,q4 n hn,q6,q7,q9,q8,q10,Bool.and_self]
     ·exact .fy hi.mem hi.aB (B':=nx+1) (by omega) hst (dx ⟨by omega,u,_,hu,rfl,(q11 _ _ _).1⟩) (q11 _ _ _).2 (aK.gW lv sl (oG AR))
    grind
   grind
  grind
 grind
theorem HZ (hE:aF Fs E) (hi:RI ρ nx rem os s2 s p) (Ky:0<rem) {f:Nat} {vs:List V2} {aD:List AV} (hsh:ze Fs f=false) (h:Qz E s2 row d nx f vs K=some r) (has:aq (RV ρ nx s2.mem) vs aD) :
  ∃ r2 e,(∃ n0,∀ n,n0≤n→eZ (gU Fs n) (ze Fs f) row s (s.mem.length-1) d p f aD=some e)∧nM ρ nx os s2 s r2 e∧K r2=some r:=by
 obtain⟨c,hc,h⟩:=ak h
 split at h
 ·rename_i l ps Oe
  split at h
  ·rename_i hrow
   rw[hsh,Nat.eq_of_beq_eq_true hrow]
   exact UU hi ((hE.Gm f c hc).2 l ps Oe) h has
  ·cases h
 rename_i Oe
 obtain⟨⟨ds,ks,bs⟩,ha,h⟩:=ak h
 obtain⟨x,hx,h⟩:=ak h
 obtain⟨hb,h⟩:=rG h
 obtain⟨y,hy,h⟩:=bind_some h
 split at h
 ·rename_i ws sH
  obtain⟨as',vs',g1,g2,g3⟩:=HR hi.mem ha has hb
  obtain⟨Xk,g4,g5⟩:=(hE.Gm f c hc).1 Oe x y hy
  rw[cw hx] at g4
  have Gq:=g2 []
  rw[List.append_nil,g4] at Gq
  injection Gq with Gq;injection Gq with Gq _;subst Gq
  obtain⟨n0,rv,cm,ts,nv,g6,g7⟩:=g5 as' g3
  obtain⟨g7,Zi⟩:=g7 ws sH
  split at h
  ·rename_i hrow
   have hrow:=Nat.eq_of_beq_eq_true hrow
   split at h
   ·cases h
   rename_i Cs
   obtain⟨w,hw,h⟩:=ak h
   obtain⟨a',g8,g9⟩:=g7 (beq_false.1 Cs) w hw (s.mem.length-1) d p
   refine⟨_,.bC { val:=a',cv:=di s.mem ks++[],bR:=[],rd:=aD.flatMap dA },⟨n0,fun n hn=>?_⟩,?_,h⟩
   ·rw [hsh, hrow]
    simp only[eZ,Fc g1,g1,g6 n hn,g8,jA]
   ·rw [List.append_nil]
    exact .fy hi.mem hi.aB (by omega) (pU (ks:=ks)) gZ (g9 _ _ _) (oG has)
  ·split at h
   ·rename_i Cd hq hp
    rw[Bool.and_eq_true,Bool.and_eq_true] at hq
    obtain⟨⟨hq1,we⟩,PB⟩:=hq
    have hq1:=Nat.eq_of_beq_eq_true hq1
    have we:c.rk≠0:=by intro e;rw[e] at we;cases we
    have PB:row / 65536≠0:=by intro e;rw[e] at PB;cases PB
    obtain⟨w,hw,h⟩:=ak h
    obtain⟨a',g8,g9⟩:=Zi row (s2.mem.length-1) d nx p Cd [] w we hq1 PB hp (fun v hv=>by cases hv) hw
    rw[hi.mem.len] at g8
    refine⟨_,.bC { val:=a',cv:=di s.mem ks++[],bR:=[],rd:=aD.flatMap dA },⟨n0,fun n hn=>?_⟩,?_,h⟩
    ·rw [hsh]
     simp only[eZ,Fc g1,g1,g6 n hn,g8,jA,List.map_nil]
    ·have dY : ρ nx = some p := hi.yJ 0 Ky
     rw[List.append_nil]
     exact .fy hi.mem hi.aB (B':=nx+1) (by omega) (pU (ks:=ks)) gZ (g9 _ _ _ ⟨by omega,dY,fun v hv=>by cases hv⟩) (oG has)
   ·rename_i Cd u hq hp
    rw[Bool.and_eq_true,Bool.and_eq_true] at hq
    obtain⟨⟨hq1,we⟩,PB⟩:=hq
    have hq1:=Nat.eq_of_beq_eq_true hq1
    have we:c.rk≠0:=by intro e;rw[e] at we;cases we
    have PB:row / 65536≠0:=by intro e;rw[e] at PB;cases PB
    split at h
    ·rename_i hsz
     have hsz:=Nat.eq_of_beq_eq_true hsz
     obtain⟨w,hw,h⟩:=ak h
     obtain⟨a',g8,g9⟩:=Zi row (s2.mem.length-1) d nx p Cd [u] w we hq1 PB hp (fun v hv=>by rw[List.mem_singleton.1 hv];exact hsz) hw
     rw[hi.mem.len] at g8
     refine⟨_,.bC { val:=a',cv:=di s.mem ks++[(s.mem.length-1,d,some (.row p (aS u.t u.l)))],bR:=[],rd:=aD.flatMap dA },⟨n0,fun n hn=>?_⟩,?_,h⟩
     ·rw [hsh]
      simp only[eZ,Fc g1,g1,g6 n hn,g8,jA,List.map_cons,List.map_nil]
     ·have dY : ρ nx = some p := hi.yJ 0 Ky
      rw[←hi.mem.len]
      refine .fy hi.mem hi.aB (B':=nx+1) (by omega) (dw (.inl (Nat.le_refl _))) (gZ.append (dx ⟨by omega,p,dY,rfl⟩)) (g9 _ _ _ ⟨by omega,dY,fun v hv r' hr'=>?_⟩) (oG has)
      rw[List.mem_singleton.1 hv]
      rw[nK] at hr'
      simp only[eE] at hr'
      have:=bS hr'
      rw[js] at this
      split at this
      ·injection this with this
       injection this with _ h1 h2
       obtain⟨t',l'⟩:=r'
       simp only at h1 h2
       subst h1
       cases h2
       rfl
      ·have h1 := lI (fH.2 this)
       obtain⟨e,_,hlt,_⟩:=hi.mem.dW _ _ _ (bS h1)
       omega
    ·cases h
   ·cases h
 ·cases h
theorem Q7 (hE:aF Fs E) (hi:RI ρ nx rem os s2 s p) {f:Nat} {vs:List V2} {aD:List AV} (h:Xi E s2 f vs K=some r) (has:aq (RV ρ nx s2.mem) vs aD) :
  ∃ r2 e,(∃ n0,∀ n,n0≤n→mK (gU Fs n) s p f aD=some e)∧nM ρ nx os s2 s r2 e∧K r2=some r:=by
 obtain⟨c,hc,h⟩:=ak h
 split at h
 ·rename_i Oe
  simp at Oe
  obtain⟨Oe,Cs⟩:=Oe
  obtain⟨⟨ds,ks,bs⟩,ha,h⟩:=ak h
  obtain⟨x,hx,h⟩:=ak h
  obtain⟨hb,h⟩:=rG h
  obtain⟨y,hy,h⟩:=bind_some h
  split at h
  ·rename_i ws sH
   obtain⟨as',vs',g1,g2,g3⟩:=HQ hi.mem ha has hb
   obtain⟨Xk,g4,g5⟩:=(hE.Gm f c hc).1 (by simpa using Oe) x y hy
   rw[cw hx] at g4
   have Gq:=g2 []
   rw[List.append_nil,g4] at Gq
   cases Gq
   obtain⟨n0,rv,cm,ts,nv,g6,g7⟩:=g5 as' g3
   obtain⟨w,hw,h⟩:=ak h
   obtain⟨a',g8,g9⟩:=(g7 ws sH).1 (fun e=>by rw[e] at Cs;cases Cs) w hw 0 0 p
   refine⟨_,.bC { val:=a',cv:=di s.mem ks,bR:=[],rd:=aD.flatMap dA },⟨n0,fun n hn=>?_⟩,?_,h⟩
   ·simp[mK,g1,g6 n hn,g8]
   ·exact .fy hi.mem hi.aB (by omega) (pU (ks:=ks)) gZ (g9 _ _ _) (oG has)
  grind
 grind
theorem AS (hwk : Kw Fs wk) (hE : aF Fs E) (hi : RI ρ nx rem os s2 s p) (Ky : 0 < rem) {f : Nat} {vs : List V2} {aD : List AV} (h : Hu E wk ctx s2 row d nx f vs K = some r) (has : aq (RV ρ nx s2.mem) vs aD) :
  ∃ r2 e,(∃ n0,∀ n,n0≤n→eZ (gU Fs n) (ze Fs f) row s (s.mem.length-1) d p f aD=some e)∧nM ρ nx os s2 s r2 e∧K r2=some r:=by
 unfold Hu at h
 split at h
 ·rename_i fn hf
  rw[hE.fns] at hf
  have hsh:ze Fs f=fn.sh:=by simp[ze,hf]
  split at h
  ·rename_i hfs
   rw[hfs] at hsh
   exact HZ hE hi Ky hsh h has
  ·rename_i hfs
   rw[hfs] at hsh
   split at h
   ·cases h
   ·rename_i hnp
    rw[Bool.and_eq_true] at hnp
    obtain⟨hnp,hnt⟩:=hnp
    have hnt:=AQ hnt has
    let ρc:aR:=fun v=>if v<nx then ρ v else some (s.nv+(v-nx))
    have Q8:∀ v,v<nx→ρc v = ρ v:=fun v hv=>if_pos hv
    have hle:nx≤s2.nv:=by have:=hi.nv;omega
    have start : xX ρc (s.slots :: os) { slots := gB 0 vs .lf, outer := loose s2.slots :: s2.outer, mem := s2.mem ++ [.lf], aB := s2.aB, nv := nx } { slots := dm 0 aD .lf, mem := s.mem ++ [.lf], aB := s.aB, nv := s.nv } := by
     refine⟨?_,⟨?_,?_⟩,?_,?_,?_,Nat.le_refl _⟩
     ·exact pX (has.mono fun _ _=>RV.move sG (Nat.le_refl _) Q8)
     ·exact fun k v hk=>(hi.slots k v (wJ _ _ _ hk)).move sG (Nat.le_refl _) Q8
     ·exact gC sG (Nat.le_refl _) Q8 hi.outer
     ·exact (hi.mem.ren Q8).snoc
     ·intro v hv
      obtain⟨h1,h2⟩:=hi.aB v hv
      exact⟨h1,fun u hu=>h2 u (by rw[←Q8 v h1];exact hu)⟩
     ·refine ⟨fun v u hv hu => ?_, fun v hv => ?_, fun v v' u hu j7 => ?_⟩
      ·have hv : v < nx := hv
       rw[Q8 v hv] at hu
       exact hi.aa.low v u (by omega) hu
      ·have hv : nx ≤ v := hv
       simp only[ρc]
       rw[if_neg (by omega)]
      ·simp [ρc] at hu j7
       split at hu
       ·split at j7
        ·exact hi.aa.inj v v' u hu j7
        ·simp_all
         have:=hi.aa.low v u (by omega) hu
         omega
       ·simp_all
        split at j7
        ·have := hi.aa.low v' u (by omega) j7
         omega
        ·simp_all
         omega
    have fin : ∀ (ax : AX) (t2 : S2) (ρ' : aR) (t : St), (∀ id, ax ≠ .exit id) → Ev Fs fn.body { slots := dm 0 aD .lf, mem := s.mem ++ [.lf], aB := s.aB, nv := s.nv } (ax, t) → xX ρ' (s.slots :: os) t2 t → Fr ρc nx s.nv ρ' t2.nv → s.nv ≤ t.nv →
      (match t2.outer with
      | o :: os' => xN t2 fn.res fun vs => match Nat.beq row 0 with
       |true=>bE (xO t2.mem s2.mem.length vs) fun vs=>bE (mT vs) fun v=>
        K (.all v { slots:=merge s2.slots o,outer:=os',mem:=t2.mem.take s2.mem.length,aB:=t2.aB,nv:=t2.nv })
       | false => match !Nat.beq (row % 65536) 0 && !Nat.beq (row / 65536) 0, Av t2.mem s2.mem.length (row % 65536) (s2.mem.length - 1) d t2.nv (E.Mn ctx d) 1 vs with
        | true, some (vs, [u]) => match Nat.beq (row / 65536) u.t.size with
         |true=>bE (mT vs) fun v=>
          K (.all v { slots:=merge s2.slots o,outer:=os',mem:=eE (t2.mem.take s2.mem.length) [(s2.mem.length-1,d,some (.row t2.nv u.t u.l))],aB:=t2.aB,nv:=t2.nv+1 })
         |false=>none
        |true,some (vs,[])=>bE (mT vs) fun v=>
         K (.all v { slots:=merge s2.slots o,outer:=os',mem:=t2.mem.take s2.mem.length,aB:=t2.aB,nv:=t2.nv+1 })
        |_,_=>none
      |[]=>none)=some r→∃ r2 e,(∃ n0,∀ n,n0≤n→eZ (gU Fs n) (ze Fs f) row s (s.mem.length-1) d p f aD=some e)∧nM ρ nx os s2 s r2 e∧K r2=some r:=by
     intro ax t2 ρ' t UW hev yK hfr z8 hk
     have hout:=yK.outer
     split at hk
     ·rename_i o os' ho
      rw[ho] at hout
      obtain⟨Xk,Kk,q1,q2,hk'⟩:=vh yK.mem yK.slots hk
      clear hk
      have hk:=hk'
      obtain⟨n0,hev⟩:=hev
      have hrun:∀ n,n0+1≤n→gU Fs n f aD (s.mem++[.lf]) s.aB s.nv=some (iH Kk,t.mem,t.aB,t.nv):=by
       intro n hn
       obtain⟨n,rfl⟩:∃ k,n=k+1:=⟨n-1,by omega⟩
       simp[gU,hf]
       rw[←has.length]
       simp[hnp]
       have:=hev n n (by omega) (by omega)
       unfold ze at this
       rw[this]
       cases ax with
       |normal=>simp[q1,Option.map_some]
       |ret=>simp[q1,Option.map_some]
       |exit id=>exact absurd rfl (UW id)
      split at hk
      ·rename_i hrow
       have hrow:=Nat.eq_of_beq_eq_true hrow
       subst hrow
       obtain⟨vs2,q3,hk⟩:=ak hk
       obtain⟨v,q4,hk⟩:=ak hk
       obtain⟨a',q5,q6⟩:=US yK.mem (lv:=s.mem.length-1) (sl:=d) (aa:=p) q3 q4 q2
       refine⟨_,.all a' (aX (t.mem.take s.mem.length) []) t.aB t.nv,⟨n0+1,fun n hn=>?_⟩,?_,hk⟩
       ·rw [hsh]
        simp[eZ,hnt,hrun n hn]
        rw[hi.mem.len] at q5
        rw[q5]
        simp[jA]
       ·refine ⟨ρ', ⟨?_, ?_, ?_, ?_, yK.aa, Nat.le_refl _⟩, ?_, ?_, z8⟩
        ·intro k v hk
         rcases oF _ _ _ _ hk with⟨h1,h2⟩|h1
         ·exact (hi.slots k v h1).still h2
         ·exact (hout.1 k v h1).move kC (Nat.le_refl _) fun _ _=>rfl
        ·exact gC kC (Nat.le_refl _) (fun _ _=>rfl) hout.2
        ·have := yK.mem.take (k := s2.mem.length)
         rw[hi.mem.len] at this ⊢
         exact this
        ·exact yK.aB
        ·exact q6
        ·intro v u hv hu
         rcases hfr v u hv hu with⟨w,hw,Fe⟩|h'
         ·exact .inl ⟨w,by omega,by rw[←Q8 w hw];exact Fe⟩
         ·exact .inr h'
      ·rename_i hrow
       have hrow:row≠0:=beq_false.1 hrow
       split at hk
       ·rename_i vs2 u hq q3
        rw[Bool.and_eq_true] at hq
        have we:row / 65536≠0:=by intro e;rw[e] at hq;cases hq.2
        split at hk
        ·rename_i hsz
         have hsz:=Nat.eq_of_beq_eq_true hsz
         obtain⟨v,q4,hk⟩:=ak hk
         obtain⟨a',q5,q6⟩:=HY yK.mem (p:=p) hrow rfl we q3 q4 q2 (fun v hv=>by rw[List.mem_singleton.1 hv];exact hsz)
         have dY : ρ nx=some p:=hi.yJ 0 Ky
         have hps:p<s.nv:=by have:=hi.pn;omega
         let Du:aR:=fun v=>if v<t2.nv then ρ' v else if v=t2.nv then some p else some (t.nv+(v-(t2.nv+1)))
         have e1:∀ v,v<t2.nv→Du v = ρ' v:=fun v h=>if_pos h
         have e2 : Du t2.nv=some p:=by
          show (if _ then _ else _)=_
          rw[if_neg (by omega),if_pos rfl]
         have e3:∀ v,t2.nv+1≤v→Du v=some (t.nv+(v-(t2.nv+1))):=fun v h=>by
          show (if _ then _ else _)=_
          rw[if_neg (by omega),if_neg (by omega)]
         have fresh:∀ v,v<t2.nv→ρ' v≠some p:=by
          intro v hv hu
          rcases hfr v p hv hu with⟨w,hw,Fe⟩|h'
          ·rw [Q8 w hw] at Fe
           have:=hi.aa.inj _ _ _ Fe dY
           omega
          ·omega
         have hst:dR t2.nv (t2.mem.take s2.mem.length) (eE (t2.mem.take s2.mem.length) [(s2.mem.length-1,d,some (.row t2.nv u.t u.l))])  := by
          have:=dw (B:=t2.nv) (m:=t2.mem.take s2.mem.length) (ks:=[]) (lv:=s2.mem.length-1) (sl:=d) (e:=.row t2.nv u.t u.l) (.inl (Nat.le_refl _))
          simpa[jK,List.map_nil,List.nil_append] using this
         have hmt:=(yK.mem.take (k:=s2.mem.length)).ren e1
         have hmu:MR Du (t2.nv+1) (eE (t2.mem.take s2.mem.length) [(s2.mem.length-1,d,some (.row t2.nv u.t u.l))]) (aX (t.mem.take s2.mem.length) [(s2.mem.length-1,d,some (.row p (aS u.t u.l)))]):=
          hmt.cv (Nat.le_succ _) hst (dx ⟨by omega,p,e2,rfl⟩)
         refine⟨_,.all a' (aX (t.mem.take s.mem.length) [(s.mem.length-1,d,some (.row p (aS u.t u.l)))]) t.aB t.nv,⟨n0+1,fun n hn=>?_⟩,?_,hk⟩
         ·rw [hsh]
          simp[eZ,hnt,hrun n hn]
          rw[hi.mem.len] at q5
          rw[q5]
          simp[List.map_cons,List.map_nil,jA]
         ·refine ⟨Du, ⟨?_, ?_, ?_, ?_, ⟨?_, e3, ?_⟩, Nat.le_refl _⟩, ?_, ?_, z8⟩
          ·intro k v hk
           rcases oF _ _ _ _ hk with⟨h1,h2⟩|h1
           ·exact (hi.slots k v h1).still h2
           ·exact (hout.1 k v h1).move (kC.trans hst) (Nat.le_succ _) e1
          ·exact gC (kC.trans hst) (Nat.le_succ _) e1 hout.2
          ·rw [← hi.mem.len]
           exact hmu
          ·intro v hv
           obtain⟨h1,h2⟩:=yK.aB v hv
           exact⟨Nat.lt_succ_of_lt h1,fun u hu=>h2 u (by rw[←e1 v h1];exact hu)⟩
          ·intro v u' hv hu
           have hv:v<t2.nv+1:=hv
           show u'<t.nv
           rcases Nat.lt_or_ge v t2.nv with h1|h1
           ·rw [e1 v h1] at hu
            exact yK.aa.low v u' h1 hu
           ·have : v = t2.nv := by omega
            subst this
            rw[e2] at hu
            cases hu
            omega
          ·intro v v' u' hu j7
           have mw:∀ v,v<t2.nv→∀ u',Du v=some u'→u'<t.nv∧u'≠p:=by
            intro v hv u' hu
            rw[e1 v hv] at hu
            exact⟨yK.aa.low v u' hv hu,fun e=>fresh v hv (by rw[hu,e])⟩
           rcases Nat.lt_trichotomy v t2.nv with h1|h1|h1
           ·obtain ⟨l1, l2⟩ := mw v h1 u' hu
            rcases Nat.lt_trichotomy v' t2.nv with h3|h3|h3
            ·rw [e1 v h1] at hu
             rw[e1 v' h3] at j7
             exact yK.aa.inj v v' u' hu j7
            ·subst h3;rw[e2] at j7;simp_all
            ·rw[e3 v' h3] at j7;simp_all;omega
           ·subst h1
            rw[e2] at hu;injection hu with hu
            rcases Nat.lt_trichotomy v' t2.nv with h3|h3|h3
            ·obtain⟨l1,l2⟩:=mw v' h3 u' j7;omega
            ·exact h3.symm
            ·rw[e3 v' h3] at j7;simp_all;omega
           ·rw [e3 v h1] at hu; injection hu with hu
            rcases Nat.lt_trichotomy v' t2.nv with h3|h3|h3
            ·obtain⟨l1,l2⟩:=mw v' h3 u' j7;omega
            ·subst h3;rw[e2] at j7;simp_all;omega
            ·rw[e3 v' h3] at j7;simp_all;omega
          ·refine q6 Du (t2.nv + 1) _ ⟨by omega, e2, fun v hv r' hr' => ?_⟩ e1 (Nat.le_succ _) hst
           rw[List.mem_singleton.1 hv]
           simp[eE] at hr'
           have:=bS hr'
           rw[js] at this
           split at this
           ·injection this with this
            injection this with _ h1 h2
            obtain⟨t',l'⟩:=r'
            simp only at h1 h2
            subst h1
            cases h2
            rfl
           ·obtain ⟨e, _, hlt, _⟩ := hmt.dW _ _ _ this
            omega
          ·intro v u' hv hu
           have hv:v<t2.nv+1:=hv
           rcases Nat.lt_or_ge v t2.nv with h1|h1
           ·rw [e1 v h1] at hu
            rcases hfr v u' h1 hu with⟨w,hw,Fe⟩|h'
            ·exact .inl ⟨w,by omega,by rw[←Q8 w hw];exact Fe⟩
            ·exact .inr h'
           ·have : v = t2.nv := by omega
            subst this
            rw[e2] at hu
            exact .inl ⟨nx,by omega,by rw[dY];exact hu⟩
        ·cases hk
       ·rename_i vs2 hq q3
        simp at hq
        have we:row / 65536≠0:=by intro e;rw[e] at hq;cases hq.2
        obtain⟨v,q4,hk⟩:=ak hk
        obtain⟨a',q5,q6⟩:=HY yK.mem (p:=p) hrow rfl we q3 q4 q2 (fun v hv=>(by cases hv))
        have dY : ρ nx=some p:=hi.yJ 0 Ky
        have hps:p<s.nv:=by have:=hi.pn;omega
        let Du:aR:=fun v=>if v<t2.nv then ρ' v else if v=t2.nv then some p else some (t.nv+(v-(t2.nv+1)))
        have e1:∀ v,v<t2.nv→Du v = ρ' v:=fun v h=>if_pos h
        have e2 : Du t2.nv=some p:=by
         show (if _ then _ else _)=_
         rw[if_neg (by omega),if_pos rfl]
        have e3:∀ v,t2.nv+1≤v→Du v=some (t.nv+(v-(t2.nv+1))):=fun v h=>by
         show (if _ then _ else _)=_
         rw[if_neg (by omega),if_neg (by omega)]
        have fresh:∀ v,v<t2.nv→ρ' v≠some p:=by
         intro v hv hu
         rcases hfr v p hv hu with⟨w,hw,Fe⟩|h'
         ·rw [Q8 w hw] at Fe
          have:=hi.aa.inj _ _ _ Fe dY
          omega
         ·omega
        have hst:dR t2.nv (t2.mem.take s2.mem.length) (t2.mem.take s2.mem.length):=dR.refl _ _
        have hmt:=(yK.mem.take (k:=s2.mem.length)).ren e1
        have hmu:MR Du (t2.nv+1) (t2.mem.take s2.mem.length) (t.mem.take s2.mem.length):=hmt.mono (Nat.le_succ _)
        refine⟨_,.all a' (aX (t.mem.take s.mem.length) []) t.aB t.nv,⟨n0+1,fun n hn=>?_⟩,?_,hk⟩
        ·rw [hsh]
         simp[eZ,hnt,hrun n hn]
         rw[hi.mem.len] at q5
         rw[q5]
         simp[List.map_nil,jA]
        ·refine ⟨Du, ⟨?_, ?_, ?_, ?_, ⟨?_, e3, ?_⟩, Nat.le_refl _⟩, ?_, ?_, z8⟩
         ·intro k v hk
          rcases oF _ _ _ _ hk with⟨h1,h2⟩|h1
          ·exact (hi.slots k v h1).still h2
          ·exact (hout.1 k v h1).move (kC.trans hst) (Nat.le_succ _) e1
         ·exact gC (kC.trans hst) (Nat.le_succ _) e1 hout.2
         ·rw [← hi.mem.len]
          exact hmu
         ·intro v hv
          obtain⟨h1,h2⟩:=yK.aB v hv
          exact⟨Nat.lt_succ_of_lt h1,fun u hu=>h2 u (by rw[←e1 v h1];exact hu)⟩
         ·intro v u' hv hu
          have hv:v<t2.nv+1:=hv
          show u'<t.nv
          rcases Nat.lt_or_ge v t2.nv with h1|h1
          ·rw [e1 v h1] at hu
           exact yK.aa.low v u' h1 hu
          ·have : v = t2.nv := by omega
           subst this
           rw[e2] at hu
           cases hu
           omega
         ·intro v v' u' hu j7
          have mw:∀ v,v<t2.nv→∀ u',Du v=some u'→u'<t.nv∧u'≠p:=by
           intro v hv u' hu
           rw[e1 v hv] at hu
           exact⟨yK.aa.low v u' hv hu,fun e=>fresh v hv (by rw[hu,e])⟩
          rcases Nat.lt_trichotomy v t2.nv with h1|h1|h1
          ·obtain ⟨l1, l2⟩ := mw v h1 u' hu
           rcases Nat.lt_trichotomy v' t2.nv with h3|h3|h3
           ·rw [e1 v h1] at hu
            rw[e1 v' h3] at j7
            exact yK.aa.inj v v' u' hu j7
           ·subst h3;rw[e2] at j7;simp_all
           ·rw[e3 v' h3] at j7;simp_all;omega
          ·subst h1
           rw[e2] at hu;injection hu with hu
           rcases Nat.lt_trichotomy v' t2.nv with h3|h3|h3
           ·obtain⟨l1,l2⟩:=mw v' h3 u' j7;omega
           ·exact h3.symm
           ·rw[e3 v' h3] at j7;simp_all;omega
          ·rw [e3 v h1] at hu; injection hu with hu
           rcases Nat.lt_trichotomy v' t2.nv with h3|h3|h3
           ·obtain⟨l1,l2⟩:=mw v' h3 u' j7;omega
           ·subst h3;rw[e2] at j7;simp_all;omega
           ·rw[e3 v' h3] at j7;simp_all;omega
         ·exact q6 Du (t2.nv+1) _ ⟨by omega,e2,fun v hv=>(by cases hv)⟩ e1 (Nat.le_succ _) hst
         ·intro v u' hv hu
          have hv:v<t2.nv+1:=hv
          rcases Nat.lt_or_ge v t2.nv with h1|h1
          ·rw [e1 v h1] at hu
           rcases hfr v u' h1 hu with⟨w,hw,Fe⟩|h'
           ·exact .inl ⟨w,by omega,by rw[←Q8 w hw];exact Fe⟩
           ·exact .inr h'
          ·have : v = t2.nv := by omega
           subst this
           rw[e2] at hu
           exact .inl ⟨nx,by omega,by rw[dY];exact hu⟩
       ·cases hk
     ·cases hk
    dsimp at h
    split at h
    ·obtain ⟨ax, t2, ρ', t, g1, g2, g3, g4, g5⟩ := hwk _ _ _ _ _ _ _ h _ _ _ start
     cases ax with
     |exit id=>cases g5
     |normal=>exact fin .normal t2 ρ' t (fun _ h=>by cases h) g1 g2 g3 g4 g5
     |ret=>exact fin .ret t2 ρ' t (fun _ h=>by cases h) g1 g2 g3 g4 g5
    ·rename_i outs ho
     obtain⟨y,hy,h⟩:=bind_some h
     obtain⟨ax,t2,ρ',t,g1,g2,g3,g4,g5⟩:=hwk _ _ _ _ _ _ _ hy _ _ _ start
     have UW:∀ id,ax≠.exit id:=by
      intro id e
      subst e
      cases g5
     have g5:l8 outs .ret t2=some y:=by
      cases ax with
      |exit id=>cases g5
      |normal=>exact g5
      |ret=>exact g5
     obtain⟨t3,Du,g6,g7,g8⟩:=zd g2 g5
     rw[g8] at h
     exact fin ax t3 Du t UW g1 g6 (g3.trans g7 g4) g4 h
 ·rename_i hf
  exact HZ hE hi Ky (by simp[ze,←hE.fns,hf]) h has
theorem tN {ρ : aR} {B:Nat} {m:List (Tr E2)} : ∀ {l:List fC} {d d':List eS} {cs:List Cell} {aD:List AV},l.all fC.flat=true→cj l d=some (cs,d')→aq (RC ρ B m) cs aD→aD.all zD=true
 |[],_,_,_,aD,_,h,ha=>by
  cases h
  match aD,ha with
  |[],_=>rfl
 | c :: l, d, d', cs, aD, hl, h, ha => by
  rw[List.all_cons,Bool.and_eq_true] at hl
  simp[cj] at h
  split at h
  ·rename_i x r' h1
   split at h
   ·rename_i xs r'' h2
    cases h
    match aD,ha with
    | a :: aD, ha =>
     have hx:zD a=true:=by
      have hf:=hl.1
      unfold fC.fill at h1
      split at h1<;>first|(simp only[Option.some.injEq,Prod.mk.injEq] at h1;obtain⟨rfl,rfl⟩:=h1;first|(cases ha.1;rfl)|cases hf)|cases h1
     rw[List.all_cons,hx,tN hl.2 h2 ha.2]<;>grind
   grind
  grind
theorem UX {ρ : aR} {B:Nat} {m:List (Tr E2)} {b:Bool} {l:List fC} {d d':List eS} {cs:List Cell} {a:AV} (hl:l.all fC.flat=true) (h:cj l d=some (cs,d')) (ha:R1 ρ B m (b,cs) a):CD a=true:=by
 cases b with
 |true=>obtain⟨aD,rfl,ha⟩:=ha;exact tN hl h ha
 |false=>
  obtain⟨c,rfl,ha⟩:=ha
  have:=tN (aD:=[a]) hl h ⟨ha,trivial⟩
  simp at this
  cases a<;>first|exact this|cases this
theorem wK {ρ : aR} {B:Nat} {m:List (Tr E2)} : ∀ {res:List (Bool×List fC)} {d d':List eS} {ws:List (Bool×List Cell)} {aD:List AV},y7 res=true→gI res d=some (ws,d')→aq (R1 ρ B m) ws aD→aD.all CD=true
 |[],_,_,_,aD,_,h,ha=>by
  cases h
  match aD,ha with
  |[],_=>rfl
 | (b, l) :: res, d, d', ws, aD, hl, h, ha => by
  unfold y7 at hl
  rw[List.all_cons,Bool.and_eq_true] at hl
  simp[gI] at h
  split at h
  ·rename_i x r' h1
   split at h
   ·rename_i xs r'' h2
    cases h
    match aD,ha with
    |a :: aD,ha=>
     rw[List.all_cons,UX hl.1 h1 ha.1,wK (res:=res) hl.2 h2 ha.2]<;>grind
   grind
  grind
theorem Q9 {ρ : aR} {B:Nat} {m:List (Tr E2)} {res:List (Bool×List fC)} {d d':List eS} {ws:List (Bool×List Cell)} {w:V2} {a:AV} (hl:y7 res=true) (h:gI res d=some (ws,d')) (ht:mT ws=some w) (ha:RV ρ B m w a):PN a=true:=by
 unfold mT at ht
 split at ht
 ·rename_i b cs
  have hr:R1 ρ B m (b,cs) a:=by
   cases b with
   |true=>cases ht;exact ha
   |false=>
    match cs,ht with
    |[c],ht=>cases ht;exact⟨c,rfl,ha⟩
  have:=wK (aD:=[a]) hl h ⟨hr,trivial⟩
  simp at this
  cases a<;>first|exact this|cases this
 ·cases ht
  obtain⟨aD,rfl,ha⟩:=ha
  exact wK hl h ha
theorem Of (hE:aF Fs E) (hi:RI ρ nx rem os s2 s p) {f:Nat} {vs:List V2} {aD:List AV} (h:QA E s2 f vs K=some r) (has:aq (RV ρ nx s2.mem) vs aD) :
  ∃ r2 e,(∃ n0,∀ n,n0≤n→jB (gU Fs n) s f aD=some e)∧nM ρ nx os s2 s r2 e∧K r2=some r:=by
 obtain⟨c,hc,h⟩:=ak h
 split at h
 ·rename_i hfl
  obtain⟨⟨ds,bs⟩,ha,h⟩:=ak h
  obtain⟨x,hx,h⟩:=ak h
  obtain⟨hb,h⟩:=rG h
  obtain⟨y,hy,h⟩:=bind_some h
  split at h
  ·rename_i ws sH
   obtain⟨w,hw,h⟩:=ak h
   obtain⟨as',vs',g1,gk,g2,g3⟩:=Dx hi.mem ha has hb
   simp at hfl
   obtain⟨⟨hfl,Oe⟩,Cs⟩:=hfl
   obtain⟨Xk,g4,g5⟩:=(hE.Gm f c hc).1 (by simpa using Oe) x y hy
   rw[cw hx] at g4
   have Gq:=g2 []
   rw[List.append_nil,g4] at Gq
   cases Gq
   obtain⟨n0,rv,cm,ts,nv,g6,g7⟩:=g5 as' g3
   obtain⟨a',g8,g9⟩:=(g7 ws sH).1 (fun e=>by rw[e] at Cs;cases Cs) w hw 0 0 0
   have hfa:=Q9 hfl sH hw (g9 ρ0 0 [])
   refine⟨_,.bC { val:=a',cv:=[],bR:=[],rd:=aD.flatMap (o9 s.mem) },⟨n0,fun n hn=>?_⟩,?_,h⟩
   ·simp[jB,g1,g6 n hn,g8,hfa]
   ·exact .wE hi.mem hi.aB (by omega) (g9 _ _ _) gk
  grind
 grind
end
end Go.Sym
