/- The machine over typed data: calls. -/
import Derived.Test.YtokjmkblnafppaaGreatDoorEngTb
import Derived.Test.YtokjmkblnafppaaGreatDoorSymI
set_option linter.unusedVariables false
set_option linter.unusedSimpArgs false
namespace Go.Sym
open Go Go.bI
def yu (Fs:Nat→Option cV):Nat→Bool:=fun g=>((Fs g).map (·.sh)).getD false
def Ev (Fs:Tb) (c:AC) (s:St) (x:AX×St):Prop:=∃ n0,∀ k n,n0≤k→n0≤n→exec (ig Fs k) (yu Fs) n c s=some x
def IF (Fs:Tb) (wk:Wk):Prop:=
 ∀ (α : Type) (ctx i:Nat) (c:AC) (s2:S2) (K:AX→S2→Option α) (r : α),wk α ctx i c s2 K=some r→∀ (ρ : bG) (os:List (Tr AV)) (s:St),xq ρ os s2 s→
  ∃ ax s2' ρ' s',Ev Fs c s (ax,s')∧xq ρ' os s2' s'∧Fr ρ s2.nv s.nv ρ' s2'.nv∧s.nv≤s'.nv∧K ax s2'=some r
def jU (ρ : bG) (B:Nat) (m:List (Tr E2)) (lv sl af p:Nat) (us:List SL):Prop:=af<B∧ρ af=some p∧∀ u∈us,∀ r,rowOf m lv sl af=some r→r.l.length=u.l.length
def VE (Fs : Tb) (f : Nat) (c : Callee) : Prop :=
 ∀ a y, c.F a = some y → ∃ vs, dm c.args (unpack c.ta a) = some (vs, []) ∧ ∀ aK, az (RV ρ0 0 []) vs aK → ∃ n0 rv cm ts nv, (∀ n, n0 ≤ n → ig Fs n f aK [.lf] .lf 0 = some (rv, cm, ts, nv)) ∧
  ∀ ws, fY c.res (unpack c.tr y) = some (ws, []) → (c.rk ≠ 65535 → ∀ w, gX ws = some w → ∀ lv sl aR, ∃ a', fI cm 0 0 lv sl aR rv = some (a', []) ∧ ∀ ρ B m, RV ρ B m w a') ∧
   ∀ row lv sl af p Am us w,c.rk≠0→row % 65536=c.rk→row / 65536≠0→zX c.rk lv sl af 1 ws=some (Am,us)→(∀ u∈us,row / 65536=u.t.size)→gX Am=some w→
    ∃ a',fI cm 0 row lv sl p rv=some (a',us.map fun u=>bx u.t u.l)∧∀ ρ B m,jU ρ B m lv sl af p us→RV ρ B m w a'
def N7 (Fs:Tb) (f:Nat) (c:Callee) (l:List cG) (ps:List dJ):Prop:=
 ∀ a y, c.F a = some y → ∃ cs r vs, cH l (unpack c.ta a) = some (cs, r) ∧ dm ps r = some (vs, []) ∧ ∀ bs aK, az (RC ρ0 0 []) cs bs → az (RV ρ0 0 []) vs aK →
  ∃ n0 rv cm ts nv,(∀ n,n0≤n→ig Fs n f (.ptr 0 0 0 0 0 :: aK) (pS bs) .lf 1=some (rv,cm,ts,nv))∧
  ∀ new ws w,fY c.res (unpack c.tr y)=some ((true,new) :: ws,[])→gX ws=some w→
   ∃ cs' ds a',fX cm 0 0 0=some cs'∧cA cm 1 0 0 0 0 0 cs'=some (ds,[])∧ds.all yV=true∧fI cm 1 0 0 0 0 rv=some (a',[])∧Dd a'=true∧∀ ρ B m,az (RC ρ B m) new ds∧RV ρ B m w a'
def bt (Fs:Tb) (f:Nat) (c:Callee):Prop:=(DQ c.args=none→VE Fs f c)∧∀ l ps,DQ c.args=some (l,ps)→N7 Fs f c l ps
def N8 (Fs:Tb) (c:AC) (L:FE):Prop:=
 ∀ x y,L.F x=some y→∀ s2,L.T.st (unpack L.T.tys x)=some s2→∀ ρ os s,xq ρ os s2 s→
  ∃ ax s2' ρ' s',Ev Fs (.loop c) s (ax,s')∧xq ρ' os s2' s'∧Fr ρ s2.nv s.nv ρ' s2'.nv∧s.nv≤s'.nv∧∀ {α : Type} (K:AX→S2→Option α),nL L.outs y K=K ax s2'
structure aC (Fs:Tb) (E:aA):Prop where
 fns:E.fns=Fs
 J6:∀ f c,E.J6 f=some c→bt Fs f c
 loops:∀ ctx i c L,E.loops ctx i c=some L→N8 Fs c L
structure RI (ρ : bG) (nx rem:Nat) (os:List (Tr AV)) (s2:S2) (s:St) (p:Nat):Prop where
 slots:tw ρ nx s2.mem s2.slots s.slots
 outer:az (tw ρ nx s2.mem) s2.outer os
 mem:MR ρ nx s2.mem s.mem
 aE:TR ρ nx s2.aE s.aE
 af:VOK ρ s2.nv s.nv
 xV:∀ j,j<rem→ρ (nx+j)=some (p+j)
 nv:nx+rem=s2.nv
 pn:p+rem≤s.nv
def nU (ρ : bG) (nx:Nat) (os:List (Tr AV)) (s2:S2) (s:St):gi→fW→Prop
 |.bS E,.bS e=>mj ρ nx (nx+1) s2 s E e
 |.all v s2',.all a m t n=>∃ ρ',xq ρ' os s2' { slots:=s.slots,mem:=m,aE:=t,nv:=n }∧RV ρ' s2'.nv s2'.mem v a∧Fr ρ (nx+1) s.nv ρ' s2'.nv∧s.nv≤n
 |_,_=>False
section
variable {Fs:Tb} {E:aA} {wk:Wk} {α : Type} {ρ : bG} {nx rem p:Nat} {os:List (Tr AV)} {s2:S2} {s:St} {ctx row d:Nat} {K:gi→Option α} {r : α}
theorem D2 {m:List (Tr bH)} {aK:List AV} {x:List AV×List (Nat×Nat)} (h:lZ m aK=some x):mM aK=none:=by
 unfold mM
 split
 ·simp only [lZ, sr, cv, Option.map_none] at h
  cases h
 ·rfl
theorem rX:∀ (l:List V2) (i:Nat) (t:Tr V2) (k:Nat),(gN i l t).get? k=if h:i≤k∧k<i+l.length then some (l[k-i]'(by omega)) else t.get? k
 |[],i,t,k=>by rw[dif_neg (by simp)];rfl
 | x :: r, i, t, k => by
  rw[gN,rX r (i+1)]
  by_cases h1:i+1≤k∧k<i+1+r.length
  ·rw [dif_pos h1, dif_pos (by simp; omega)]
   have:k-i=(k-(i+1))+1:=by omega
   simp only[this,List.getElem_cons_succ]
  ·rw [dif_neg h1]
   by_cases h2:k=i
   ·subst h2
    rw[dif_pos (by simp)]
    simp[Tr.cr]
   ·rw [dif_neg (by simp; omega)]
    rw[Tr.cr,if_neg (Ne.symm h2)]
theorem oO {B:Nat} {m:List (Tr E2)} {vs:List V2} {aK:List AV} (h:az (RV ρ B m) vs aK):tw ρ B m (gN 0 vs .lf) (dN 0 aK .lf):=by
 intro k v hk
 rw[rX] at hk
 rw[oG]
 split at hk
 ·rename_i hc
  injection hk with hk;subst hk
  rw[dif_pos (by rw[←h.length];exact hc)]
  obtain⟨b,hb,hr⟩:=h.get (k-0) _ (List.getElem?_eq_getElem (by omega))
  rw[List.getElem?_eq_getElem (by rw[←h.length];omega)] at hb
  injection hb with hb;subst hb
  exact hr
 ·simp at hk
theorem CG {m:List (Tr E2)} {lv sl:Nat} : iY (m++[.lf]) lv sl=iY m lv sl:=by
 unfold iY
 rcases Nat.lt_trichotomy lv m.length with h|h|h
 ·rw[List.getElem?_append_left h]
 ·subst h;simp
 ·rw[List.getElem?_eq_none (by simp;omega),List.getElem?_eq_none (by omega)]
theorem F2 {m:List (Tr bH)} {lv sl:Nat} : aN (m++[.lf]) lv sl=aN m lv sl:=by
 unfold aN
 rcases Nat.lt_trichotomy lv m.length with h|h|h
 ·rw[List.getElem?_append_left h]
 ·subst h;simp
 ·rw[List.getElem?_eq_none (by simp;omega),List.getElem?_eq_none (by omega)]
theorem IG {m:List (Tr E2)} {lv sl af:Nat} : rowOf (m++[.lf]) lv sl af=rowOf m lv sl af:=by
 unfold rowOf;rw[CG]
theorem rD {B:Nat} {m:List (Tr E2)} : eg B m (m++[.lf]):=fun _ _ _ r _ h=>⟨r,by rw[IG] at h;exact h,rfl⟩
theorem CH {m:List (Tr E2)} {k lv sl:Nat} {e:E2} (h:iY (m.take k) lv sl=some e):lv<k∧iY m lv sl=some e:=by
 unfold iY at h ⊢
 rw[List.getElem?_take] at h
 split at h
 ·exact⟨by assumption,h⟩
 ·cases h
theorem mQ {m:List (Tr bH)} {k lv sl:Nat} (h:lv<k):aN (m.take k) lv sl=aN m lv sl:=by
 unfold aN
 rw[List.getElem?_take,if_pos h]
theorem ki {B k:Nat} {m:List (Tr E2)} : eg B m (m.take k):=fun _ _ _ r _ h=>⟨r,fm.2 (CH (cy h)).2,rfl⟩
theorem MR.take {B k:Nat} {m2:List (Tr E2)} {m:List (Tr bH)} (h:MR ρ B m2 m):MR ρ B (m2.take k) (m.take k):=by
 refine⟨by simp[h.len],fun lv sl e2 he=>?_⟩
 obtain⟨h1,h2⟩:=CH he
 obtain⟨e,h3,h4⟩:=h.ec lv sl e2 h2
 exact⟨e,by rw[mQ h1];exact h3,RE.mono (Nat.le_refl _) (fun _ _=>rfl) (fun _ _=>RC.move ki (Nat.le_refl _) fun _ _=>rfl) h4⟩
theorem MR.snoc {B:Nat} {m2:List (Tr E2)} {m:List (Tr bH)} (h:MR ρ B m2 m):MR ρ B (m2++[.lf]) (m++[.lf]):=by
 refine⟨by simp[h.len],fun lv sl e2 he=>?_⟩
 rw[CG] at he
 obtain⟨e,h3,h4⟩:=h.ec lv sl e2 he
 exact⟨e,by rw[F2];exact h3,RE.mono (Nat.le_refl _) (fun _ _=>rfl) (fun _ _=>RC.move rD (Nat.le_refl _) fun _ _=>rfl) h4⟩
theorem MR.ren {ρ':bG} {B:Nat} {m2:List (Tr E2)} {m:List (Tr bH)} (h:MR ρ B m2 m) (hρ : ∀ v,v<B→ρ' v = ρ v):MR ρ' B m2 m:=by
 refine⟨h.len,fun lv sl e2 he=>?_⟩
 obtain⟨e,h3,h4⟩:=h.ec lv sl e2 he
 exact⟨e,h3,RE.mono (Nat.le_refl _) hρ (fun _ _=>RC.move (eg.refl _ _) (Nat.le_refl _) hρ) h4⟩
theorem An {B:Nat} {m:List (Tr E2)} : ∀ {vs:List V2} {aK:List AV},vs.all V2.Ug=true→az (RV ρ B m) vs aK→aK.all fO=true
 |[],[],_,_=>rfl
 |v :: vs,a :: aK,h,ha=>by
  rw[List.all_cons,Bool.and_eq_true] at h
  rw[List.all_cons,An h.2 ha.2,Bool.and_true]
  cases v with
  |c x=>exact (RC.cell ha.1).2.2
  |agg cs=>obtain⟨as',e,_⟩:=ha.1;rw[e];rfl
  |fV f cs=>obtain⟨as',e,_⟩:=ha.1;rw[e];rfl
  |gZ vs=>cases h.1
 |[],_ :: _,_,h=>h.elim
 |_ :: _,[],_,h=>h.elim
theorem gO {ρ':bG} {B B':Nat} {m m':List (Tr E2)} (hs:eg B m m') (hB:B≤B') (hρ : ∀ v,v<B→ρ' v = ρ v) {ts:List (Tr V2)} (h:az (tw ρ B m) ts os):az (tw ρ' B' m') ts os:=
 h.mono fun _ _=>tw.move hs hB hρ
section
variable {B:Nat} {m2:List (Tr E2)} {m:List (Tr bH)} (hm:MR ρ B m2 m)
def eV (ρ : bG) (B top:Nat) (m2:List (Tr E2)) (lv sl af p:Nat) (us:List SL) (Q:bG→Nat→List (Tr E2)→Prop):Prop:=
 ∀ ρ' B' m',jU ρ' B' m' lv sl af p us→(∀ v,v<B→ρ' v = ρ v)→B≤B'→eg B (m2.take top) m'→Q ρ' B' m'
theorem jU.left {ρ : bG} {B:Nat} {m:List (Tr E2)} {lv sl af p:Nat} {us vs:List SL} (h:jU ρ B m lv sl af p (us++vs)):jU ρ B m lv sl af p us:=⟨h.1,h.2.1,fun u hu=>h.2.2 u (List.mem_append_left _ hu)⟩
theorem jU.right {ρ : bG} {B:Nat} {m:List (Tr E2)} {lv sl af p:Nat} {us vs:List SL} (h:jU ρ B m lv sl af p (us++vs)):jU ρ B m lv sl af p vs:=⟨h.1,h.2.1,fun u hu=>h.2.2 u (List.mem_append_right _ hu)⟩
theorem xx {top k lv sl af:Nat} (hn:k≠row % 65536) {els:List (List D)} {o:MZ} (ho:o≠.aJ):∃ a',bu m top row k lv sl af (.own els o)=some (a',[])∧(lM top row=true→a'=.own els o)∧(a'=.own els o∨a'=.d (.sl els)):=by
 have h0:Nat.beq k (row % 65536)=false:=beq_false.2 hn
 cases o with
 |aJ=>exact absurd rfl ho
 |full=>
  simp only[bu,h0,Bool.and_false]
  cases lM top row<;>cases Nat.beq (row % 65536) 65535<;>first|exact⟨_,rfl,fun _=>rfl,.inl rfl⟩|exact⟨_,rfl,fun h=>absurd h (by decide),.inr rfl⟩
 |cx=>
  simp only[bu]
  cases lM top row<;>first|exact⟨_,rfl,fun _=>rfl,.inl rfl⟩|exact⟨_,rfl,fun h=>absurd h (by decide),.inr rfl⟩
theorem RY {top k lv sl af:Nat} {x y:Cell} {a:AV} (hr:row≠0) (hn:k≠row % 65536) (h:Vt m2 top x=some y) (hh:NN top x=false) (hx:RC ρ B m2 x a):∃ a',bu m top row k lv sl af a=some (a',[])∧RC ρ B (m2.take top) y a':=by
 have keep:∀ {els:List (List D)} {o:MZ} {z:Cell},o≠.aJ→RC ρ B (m2.take top) z (.own els o)→Nat.beq top 0=false→∃ a',bu m top row k lv sl af (.own els o)=some (a',[])∧RC ρ B (m2.take top) z a':=by
  intro els o z ho hz ht
  obtain⟨a',h1,h2,_⟩:=xx (m:=m) (top:=top) (lv:=lv) (sl:=sl) (af:=af) hn (els:=els) ho
  rw[h2 (by simp only[lM,beq_false.2 hr,ht];rfl)] at h1
  exact⟨_,h1,hz⟩
 have lose:∀ {els:List (List D)} {o:MZ} {z:Cell},o≠.aJ→(RC ρ B (m2.take top) z (.d (.sl els))∧RC ρ B (m2.take top) z (.own els o))→Nat.beq top 0=true→∃ a',bu m top row k lv sl af (.own els o)=some (a',[])∧RC ρ B (m2.take top) z a':=by
  intro els o z ho hz ht
  obtain⟨a',h1,_,h2⟩:=xx (m:=m) (top:=top) (lv:=lv) (sl:=sl) (af:=af) hn (els:=els) ho
  refine⟨a',h1,?_⟩
  rcases h2 with rfl|rfl
  ·exact hz.2
  ·exact hz.1
 unfold Vt at h
 split at h
 ·rename_i b
  have hx':=(fM (m:=m) hx).2
  split at h
  ·rename_i ht
   injection h with h;subst h
   rcases hx' with rfl|⟨o,ho,rfl⟩
   ·exact⟨_,rfl,.inl rfl⟩
   ·exact lose ho ⟨.inl rfl,.inr ⟨_,ho,rfl⟩⟩ ht
  ·rename_i ht
   injection h with h;subst h
   rcases hx' with rfl|⟨o,ho,rfl⟩
   ·refine ⟨_, rfl, ?_⟩
    cases b with
    |false=>exact .inl rfl
    |true=>cases hx
   ·refine keep ho ?_ ht
    cases b with
    |false=>exact .inr ⟨o,ho,rfl⟩
    |true=>exact hx
 ·split at h
  ·rename_i ht
   injection h with h;subst h
   obtain⟨h1,⟨h2,rfl⟩|⟨u,h2,rfl⟩⟩:=hx
   ·exact lose (fun e=>by cases e) ⟨.inl rfl,.inr ⟨_,(fun e=>by cases e),rfl⟩⟩ ht
   ·exact lose (fun e=>by cases e) ⟨.inl rfl,.inr ⟨_,(fun e=>by cases e),rfl⟩⟩ ht
  ·rename_i ht
   injection h with h;subst h
   obtain⟨h1,⟨h2,rfl⟩|⟨u,h2,rfl⟩⟩:=hx
   ·exact keep (fun e=>by cases e) ⟨h1,.inl ⟨h2,rfl⟩⟩ ht
   ·exact keep (fun e=>by cases e) ⟨h1,.inr ⟨u,h2,rfl⟩⟩ ht
 ·have hx : a = .own _ .full := hx
  subst hx
  split at h
  ·rename_i ht
   injection h with h;subst h
   exact lose (fun e=>by cases e) ⟨.inl rfl,.inr ⟨_,(fun e=>by cases e),rfl⟩⟩ ht
  ·rename_i ht
   injection h with h;subst h
   exact keep (fun e=>by cases e) rfl ht
 ·rename_i hn1 hn2 hn3
  unfold NM at h
  split at h
  ·injection h with h;subst h;cases hx;exact⟨_,rfl,rfl⟩
  ·injection h with h;subst h;cases hx;exact⟨_,rfl,rfl⟩
  ·injection h with h;subst h;cases hx;exact⟨_,rfl,rfl⟩
  ·injection h with h;subst h;cases hx;exact⟨_,rfl,rfl⟩
  ·exact absurd rfl (hn1 _)
  ·cases h
  ·rename_i t l o hne
   injection h with h;subst h
   have ho:o=.d:=by
    cases o with
    |d=>rfl
    |aJ=>exact absurd rfl hne
    |full=>exact absurd rfl (hn3 _ _)
    |app v=>exact absurd rfl (hn2 _ _ _)
   subst ho
   rcases hx with rfl|⟨o,ho,rfl⟩
   ·exact⟨_,rfl,.inl rfl⟩
   ·cases ht : Nat.beq top 0 with
    |true=>exact lose ho ⟨.inl rfl,.inr ⟨_,ho,rfl⟩⟩ ht
    |false=>exact keep ho (.inr ⟨o,ho,rfl⟩) ht
  ·rename_i cl cX eZ t
   have hb:Nat.ble top cl=false:=hh
   rw[hb] at h
   injection h with h;subst h
   obtain⟨hv,u,n,hu,rfl,hn⟩:=hx
   refine⟨_,by simp only[bu,hb],hv,u,n,hu,rfl,fun r hr=>hn r ?_⟩
   have h1:=cy hr
   refine fm.2 ?_
   unfold iY at h1 ⊢
   rw[List.getElem?_take] at h1
   split at h1
   ·exact h1
   ·cases h1
  ·rename_i cl cX eZ t off len
   have hb:Nat.ble top cl=false:=hh
   rw[hb] at h
   injection h with h;subst h
   obtain⟨hv,u,hu,rfl,hn⟩:=hx
   refine⟨_,by simp only[bu,hb],hv,u,hu,rfl,fun r hr=>hn r ?_⟩
   have h1:=cy hr
   refine fm.2 ?_
   unfold iY at h1 ⊢
   rw[List.getElem?_take] at h1
   split at h1
   ·exact h1
   ·cases h1
  ·cases h
include hm
theorem Ga {top rk k lv sl af p:Nat} {e:Option Ty} {x y:Cell} {us:List SL} {a:AV} (hr:row≠0) (xW:row % 65536=rk) (h2:row / 65536≠0) (h:NO m2 top rk lv sl af e k x=some (y,us)) (hx:RC ρ B m2 x a) (hu:∀ u∈us,row / 65536=u.t.size) :
  ∃ a',bu m top row k lv sl p a=some (a',us.map fun u=>bx u.t u.l)∧eV ρ B top m2 lv sl af p us fun ρ' B' m'=>RC ρ' B' m' y a':=by
 have hrow:Nat.beq row 0=false:=beq_false.2 hr
 unfold NO at h
 split at h
 ·rename_i hk
  have hk:=beq_true.1 hk
  subst hk
  have hkk:Nat.beq k (row % 65536)=true:=beq_true.2 xW.symm
  have at_:∀ {cl cX eZ r u},rowOf m2 cl cX eZ=some r→ρ eZ=some u→bI.rowAt m cl cX u=some (bx r.t r.l):=by
   intro cl cX eZ r u hr hu
   obtain⟨e,g1,g2⟩:=hm.ec _ _ _ (cy hr)
   obtain⟨_,u',g3,rfl⟩:=g2
   rw[hu] at g3;injection g3 with g3;subst g3
   unfold bI.rowAt
   rw[g1]
   simp only[beq_true.2 rfl]
  split at h
  ·cases e with
   |none=>cases h
   |some t=>
    simp only[Option.map_some,Option.some.injEq,Prod.mk.injEq] at h
    obtain⟨rfl,rfl⟩:=h
    have hx:a=.own [] .full:=hx
    subst hx
    have hs:(!Nat.beq (row / 65536) 0)=true:=by rw[beq_false.2 h2];rfl
    have hu:=hu _ (List.mem_singleton.2 rfl)
    simp only at hu
    refine⟨.ref lv sl p 0 0 (row / 65536),by simp only[bu,hs,hkk,Bool.and_true];rfl,fun ρ' B' m' hf _ _ _=>⟨hf.1,p,0,hf.2.1,by rw[hu],fun r hr=>?_⟩⟩
    have:=hf.2.2 _ (List.mem_singleton.2 rfl) r hr
    simpa using this.symm
  ·rename_i cl cX eZ t
   split at h
   ·rename_i r hb hr
    split at h
    ·rename_i hsz
     have hsz:=beq_true.1 hsz
     simp only[Option.some.injEq,Prod.mk.injEq] at h
     obtain⟨rfl,rfl⟩:=h
     have he:=jS hm hx hr
     obtain⟨hv,u,n,dw,rfl,hn⟩:=hx
     refine⟨.ref lv sl p 0 n t.size,?_,fun ρ' B' m' hf _ _ _=>⟨hf.1,p,n,hf.2.1,by rw[hsz],fun r' hr'=>?_⟩⟩
     ·simp only [bu, hb, he, hrow, hkk, at_ hr dw]
      rfl
     ·rw [hf.2.2 _ (List.mem_singleton.2 rfl) r' hr']
      exact hn r hr
    ·cases h
   ·cases h
  ·rename_i cl cX eZ t off len
   split at h
   ·rename_i r hb hr
    split at h
    ·rename_i hsz
     have hsz:=beq_true.1 hsz
     simp only[Option.some.injEq,Prod.mk.injEq] at h
     obtain⟨rfl,rfl⟩:=h
     have hle:=hx.2.choose_spec.2.2 r hr
     have he:=jh hm hx hr hle
     obtain⟨hv,u,dw,rfl,hn⟩:=hx
     refine⟨.ref lv sl p 0 len t.size,?_,fun ρ' B' m' hf _ _ _=>⟨hf.1,p,len,hf.2.1,by rw[hsz],fun r' hr'=>?_⟩⟩
     ·simp only [bu, hb, he, hrow, hkk, at_ hr dw]
      rfl
     ·rw [hf.2.2 _ (List.mem_singleton.2 rfl) r' hr', List.length_take, List.length_drop]
      omega
    ·cases h
   ·cases h
  ·cases h
 ·rename_i hk
  have hk:=beq_false.1 hk
  split at h
  ·cases h
  ·rename_i hh
   obtain⟨y',h1,h⟩:=Option.map_eq_some_iff.1 h
   injection h with h3 h4
   subst h3 h4
   have hh:NN top x=false:=by simpa using hh
   obtain⟨a',g1,g2⟩:=RY (m:=m) (k:=k) (lv:=lv) (sl:=sl) (af:=p) hr (by rw[xW];exact hk) h1 hh hx
   exact⟨a',g1,fun ρ' B' m' _ hρ hB hs=>g2.move hs hB hρ⟩
theorem Gb {top rk lv sl af p:Nat} {e:Option Ty} (hr:row≠0) (xW:row % 65536=rk) (h2:row / 65536≠0):∀ {k:Nat} {xs ys:List Cell} {us:List SL} {aK:List AV},zZ m2 top rk lv sl af e k xs=some (ys,us)→az (RC ρ B m2) xs aK→(∀ u∈us,row / 65536=u.t.size)→
  ∃ as',cA m top row lv sl p k aK=some (as',us.map fun u=>bx u.t u.l)∧eV ρ B top m2 lv sl af p us fun ρ' B' m'=>az (RC ρ' B' m') ys as'
 |k,[],ys,us,aK,h,ha,_=>by
  simp only[zZ,Option.some.injEq,Prod.mk.injEq] at h
  obtain⟨rfl,rfl⟩:=h
  match aK,ha with
  |[],_=>exact⟨[],rfl,fun _ _ _ _ _ _ _=>trivial⟩
 | k, x :: xs, ys, us, aK, h, ha, hu => by
  simp only[zZ] at h
  split at h
  ·rename_i y u ys' us' h1 h3
   simp only[Option.some.injEq,Prod.mk.injEq] at h
   obtain⟨rfl,rfl⟩:=h
   match aK,ha with
   |a :: aK,ha=>
    obtain⟨a',g1,g2⟩:=Ga hm (p:=p) hr xW h2 h1 ha.1 fun v hv=>hu v (List.mem_append_left _ hv)
    obtain⟨as',g3,g4⟩:=Gb (p:=p) hr xW h2 h3 ha.2 fun v hv=>hu v (List.mem_append_right _ hv)
    refine⟨a' :: as',by simp only[cA,g1,g3,List.map_append],fun ρ' B' m' hf h4 h5 h6=>⟨g2 ρ' B' m' hf.left h4 h5 h6,g4 ρ' B' m' hf.right h4 h5 h6⟩⟩
  ·cases h
theorem CI {top rk k lv sl af p:Nat} {e:Option Ty} (hr:row≠0) (xW:row % 65536=rk) (h2:row / 65536≠0) {b:Bool} {xs ys:List Cell} {us:List SL} {a:AV} (h:zZ m2 top rk lv sl af e k xs=some (ys,us)) (ha:R1 ρ B m2 (b,xs) a) (hu:∀ u∈us,row / 65536=u.t.size) :
  ∃ a',jG m top row lv sl p k a=some (a',us.map fun u=>bx u.t u.l)∧eV ρ B top m2 lv sl af p us fun ρ' B' m'=>R1 ρ' B' m' (b,ys) a':=by
 cases b with
 |true=>
  obtain⟨aK,rfl,ha⟩:=ha
  obtain⟨as',g1,g2⟩:=Gb hm (p:=p) hr xW h2 h ha hu
  exact⟨.agg as',by simp only[jG,g1,Option.map_some],fun ρ' B' m' hf h4 h5 h6=>⟨as',rfl,g2 ρ' B' m' hf h4 h5 h6⟩⟩
 | false =>
  obtain⟨c,rfl,ha⟩:=ha
  simp only[zZ] at h
  split at h
  ·rename_i y u ys' us' h1 h3
   simp only[Option.some.injEq,Prod.mk.injEq] at h3
   obtain⟨rfl,rfl⟩:=h3
   simp only[Option.some.injEq,Prod.mk.injEq,List.append_nil] at h
   obtain⟨rfl,rfl⟩:=h
   obtain⟨a',g1,g2⟩:=Ga hm (p:=p) hr xW h2 h1 ha hu
   refine⟨a',?_,fun ρ' B' m' hf h4 h5 h6=>⟨y,rfl,g2 ρ' B' m' hf h4 h5 h6⟩⟩
   have hc:=RC.cell ha
   cases a<;>first|exact g1|cases hc.2.1
  ·cases h
theorem Gc {top rk lv sl af p:Nat} {e:Option Ty} (hr:row≠0) (xW:row % 65536=rk) (h2:row / 65536≠0):∀ {k:Nat} {vs ws:List (Bool×List Cell)} {us:List SL} {aK:List AV},uB m2 top rk lv sl af e k vs=some (ws,us)→az (R1 ρ B m2) vs aK→(∀ u∈us,row / 65536=u.t.size)→
  ∃ as',fc m top row lv sl p k aK=some (as',us.map fun u=>bx u.t u.l)∧ws.length=vs.length∧eV ρ B top m2 lv sl af p us fun ρ' B' m'=>az (R1 ρ' B' m') ws as'
 |k,[],ws,us,aK,h,ha,_=>by
  simp only[uB,Option.some.injEq,Prod.mk.injEq] at h
  obtain⟨rfl,rfl⟩:=h
  match aK,ha with
  |[],_=>exact⟨[],rfl,rfl,fun _ _ _ _ _ _ _=>trivial⟩
 | k, (b, x) :: xs, ws, us, aK, h, ha, hu => by
  simp only[uB] at h
  split at h
  ·rename_i y u ys' us' h1 h3
   simp only[Option.some.injEq,Prod.mk.injEq] at h
   obtain⟨rfl,rfl⟩:=h
   match aK,ha with
   |a :: aK,ha=>
    obtain⟨a',g1,g2⟩:=CI hm (p:=p) hr xW h2 h1 ha.1 fun v hv=>hu v (List.mem_append_left _ hv)
    obtain⟨as',g3,gl,g4⟩:=Gc (p:=p) hr xW h2 h3 ha.2 fun v hv=>hu v (List.mem_append_right _ hv)
    refine⟨a' :: as',by simp only[fc,g1,g3,List.map_append],by rw[List.length_cons,List.length_cons,gl],fun ρ' B' m' hf h4 h5 h6=>⟨g2 ρ' B' m' hf.left h4 h5 h6,g4 ρ' B' m' hf.right h4 h5 h6⟩⟩
  ·cases h
theorem Gd {top rk lv sl af p:Nat} {e:Option Ty} (hr:row≠0) (xW:row % 65536=rk) (h2:row / 65536≠0) {vs ws:List (Bool×List Cell)} {us:List SL} {w:V2} {aK:List AV} (h:uB m2 top rk lv sl af e 1 vs=some (ws,us)) (ht:gX ws=some w) (ha:az (R1 ρ B m2) vs aK) (hu:∀ u∈us,row / 65536=u.t.size) :
  ∃ a',fI m top row lv sl p (gU aK)=some (a',us.map fun u=>bx u.t u.l)∧eV ρ B top m2 lv sl af p us fun ρ' B' m'=>RV ρ' B' m' w a':=by
 match vs,aK,ha with
 |[],[],ha=>
  simp only[uB,Option.some.injEq,Prod.mk.injEq] at h
  obtain⟨rfl,rfl⟩:=h
  simp only[gX,Option.some.injEq] at ht;subst ht
  exact⟨.gZ [],rfl,fun _ _ _ _ _ _ _=>⟨[],rfl,trivial⟩⟩
 | [(b, x)], [a], ha =>
  simp only[uB] at h
  split at h
  ·rename_i y u ys' us' h1 h3
   simp only[Option.some.injEq,Prod.mk.injEq] at h3
   obtain⟨rfl,rfl⟩:=h3
   simp only[Option.some.injEq,Prod.mk.injEq,List.append_nil] at h
   obtain⟨rfl,rfl⟩:=h
   obtain⟨a',g1,g2⟩:=CI hm (p:=p) hr xW h2 h1 ha.1 hu
   refine⟨a',?_,fun ρ' B' m' hf h4 h5 h6=>?_⟩
   ·have hn := R1.fO ha.1
    simp only[gU]
    cases a<;>first|exact g1|cases hn
   ·have g2 := g2 ρ' B' m' hf h4 h5 h6
    simp only[gX] at ht
    cases b with
    |true=>
     obtain⟨as',rfl,g3⟩:=g2
     simp only[jz,Option.some.injEq] at ht;subst ht
     exact⟨as',rfl,g3⟩
    |false=>
     obtain⟨c,rfl,g3⟩:=g2
     simp only[jz,Option.some.injEq] at ht;subst ht
     exact g3
  ·cases h
 | v :: v' :: vs, a :: a' :: aK, ha =>
  obtain⟨as',g1,gl,g2⟩:=Gc hm (p:=p) hr xW h2 h ha hu
  refine⟨.gZ as',by simp only[gU,fI,g1,Option.map_some],fun ρ' B' m' hf h4 h5 h6=>?_⟩
  match ws,gl,ht with
  |x :: y :: zs,_,ht=>
   simp only[gX,Option.some.injEq] at ht;subst ht
   exact⟨as',rfl,g2 ρ' B' m' hf h4 h5 h6⟩
end
theorem nV {B:Nat} {m:List (Tr E2)} : ∀ {vs:List V2} {aK:List AV},az (RV ρ B m) vs aK→aU ρ (vs.flatMap DL) (aK.flatMap dF)
 |[],[],_=>aU.nil
 |_ :: _,_ :: _,h=>by
  simp only[List.flatMap_cons]
  exact (Kd h.1).append (nV h.2)
 |[],_ :: _,h=>h.elim
 |_ :: _,[],h=>h.elim
theorem RZ (hi:RI ρ nx rem os s2 s p) {f:Nat} {c:Callee} {l:List cG} {ps:List dJ} (hc:N7 Fs f c l ps) {vs:List V2} {aK:List AV} (h:Vu s2 c l ps vs K=some r) (has:az (RV ρ nx s2.mem) vs aK) :
  ∃ r2 e,(∃ n0,∀ n,n0≤n→fe (ig Fs n) false 0 s (s.mem.length-1) d p f aK=some e)∧nU ρ nx os s2 s r2 e∧K r2=some r:=by
 unfold Vu at h
 split at h
 ·rename_i lv sl af i off rest
  match aK,has with
  |a :: aK,has=>
  split at h
  ·rename_i v cs hb he
   split at h
   ·rename_i hv
    have hv:=Nat.eq_of_beq_eq_true hv
    subst hv
    obtain⟨ds,hds,h⟩:=au h
    obtain⟨es,hes,h⟩:=au h
    obtain⟨x,hx,h⟩:=au h
    obtain⟨y,hy,h⟩:=bind_some h
    split at h
    ·rename_i new ws iM
     obtain⟨w,hw,h⟩:=au h
     obtain⟨⟨hlt,u,hu,rfl⟩,zw⟩:=has
     obtain⟨e,g1,_,u',bs,g2,rfl,g3⟩:=hi.mem.ec _ _ _ he
     rw[hu] at g2;injection g2 with g2;subst g2
     obtain⟨bs0,cs0,g4,g5,g6⟩:=D1 hds g3
     obtain⟨as0,vs0,g7,g8,g9⟩:=RT hes zw
     obtain⟨cs1,r1,Ui,q1,q2,q3⟩:=hc x y hy
     rw[cO hx,g5 es] at q1
     injection q1 with q1;injection q1 with q1 q1';subst q1 q1'
     have g8:=g8 []
     rw[List.append_nil,q2] at g8
     injection g8 with g8;injection g8 with g8 _;subst g8
     obtain⟨n0,rv,cm,ts,nv,q4,q5⟩:=q3 bs0 as0 (g6 _ _ _) (g9 _ _ _)
     obtain⟨cs',ds',a',q6,q7,q8,q9,q10,q11⟩:=q5 new ws w iM hw
     have hst:eg nx s2.mem (eN s2.mem [(lv,sl,some (.box v new))]):=dA (ks:=[]) (e:=.box _ _) trivial
     refine⟨_,.bS { val:=a',cK:=[(lv,sl,some (.box u ds'))],cx:=[],rd:=cg lv sl :: aK.flatMap dF },⟨n0,fun n hn=>?_⟩,?_,h⟩
     ·have HY : fX s.mem lv sl u = some bs := by
       unfold fX
       rw[g1]
       simp only[beq_true.2 rfl]
      simp only[fe,mM,hb,pT,HY,g4,g7,q4 n hn,q6,q7,q9,q8,q10,Bool.and_self]
     ·exact .fF hi.mem hi.aE (B':=nx+1) (by omega) hst (dB ⟨by omega,u,_,hu,rfl,(q11 _ _ _).1⟩) (q11 _ _ _).2 (aU.iw lv sl (nV zw))
    ·cases h
   ·cases h
  ·cases h
 ·cases h
theorem Ge (hE:aC Fs E) (hi:RI ρ nx rem os s2 s p) (II:0<rem) {f:Nat} {vs:List V2} {aK:List AV} (hsh:yu Fs f=false) (h:J7 E s2 row d nx f vs K=some r) (has:az (RV ρ nx s2.mem) vs aK) :
  ∃ r2 e,(∃ n0,∀ n,n0≤n→fe (ig Fs n) (yu Fs f) row s (s.mem.length-1) d p f aK=some e)∧nU ρ nx os s2 s r2 e∧K r2=some r:=by
 unfold J7 at h
 obtain⟨c,hc,h⟩:=au h
 split at h
 ·rename_i l ps L0
  split at h
  ·rename_i hrow
   rw[hsh,Nat.eq_of_beq_eq_true hrow]
   exact RZ hi ((hE.J6 f c hc).2 l ps L0) h has
  ·cases h
 rename_i L0
 obtain⟨⟨ds,ks,bs⟩,ha,h⟩:=au h
 obtain⟨x,hx,h⟩:=au h
 obtain⟨hb,h⟩:=qy h
 obtain⟨y,hy,h⟩:=bind_some h
 split at h
 ·rename_i ws iM
  obtain⟨as',vs',g1,g2,g3⟩:=FZ hi.mem ha has hb
  obtain⟨Ui,g4,g5⟩:=(hE.J6 f c hc).1 L0 x y hy
  rw[cO hx] at g4
  have rE:=g2 []
  rw[List.append_nil,g4] at rE
  injection rE with rE;injection rE with rE _;subst rE
  obtain⟨n0,rv,cm,ts,nv,g6,g7⟩:=g5 as' g3
  obtain⟨g7,U7⟩:=g7 ws iM
  split at h
  ·rename_i hrow
   have hrow:=Nat.eq_of_beq_eq_true hrow
   split at h
   ·cases h
   rename_i Ao
   obtain⟨w,hw,h⟩:=au h
   obtain⟨a',g8,g9⟩:=g7 (beq_false.1 Ao) w hw (s.mem.length-1) d p
   refine⟨_,.bS { val:=a',cK:=dy s.mem ks++[],cx:=[],rd:=aK.flatMap dF },⟨n0,fun n hn=>?_⟩,?_,h⟩
   ·rw [hsh, hrow]
    simp only[fe,D2 g1,g1,g6 n hn,g8,gP]
   ·rw [List.append_nil]
    exact .fF hi.mem hi.aE (by omega) (oL (ks:=ks)) iz (g9 _ _ _) (nV has)
  ·split at h
   ·rename_i Am hq hp
    rw[Bool.and_eq_true,Bool.and_eq_true] at hq
    obtain⟨⟨hq1,tV⟩,K6⟩:=hq
    have hq1:=Nat.eq_of_beq_eq_true hq1
    have tV:c.rk≠0:=by intro e;rw[e] at tV;cases tV
    have K6:row / 65536≠0:=by intro e;rw[e] at K6;cases K6
    obtain⟨w,hw,h⟩:=au h
    obtain⟨a',g8,g9⟩:=U7 row (s2.mem.length-1) d nx p Am [] w tV hq1 K6 hp (fun v hv=>by cases hv) hw
    rw[hi.mem.len] at g8
    refine⟨_,.bS { val:=a',cK:=dy s.mem ks++[],cx:=[],rd:=aK.flatMap dF },⟨n0,fun n hn=>?_⟩,?_,h⟩
    ·rw [hsh]
     simp only[fe,D2 g1,g1,g6 n hn,g8,gP,List.map_nil]
    ·have eE : ρ nx = some p := hi.xV 0 II
     rw[List.append_nil]
     exact .fF hi.mem hi.aE (B':=nx+1) (by omega) (oL (ks:=ks)) iz (g9 _ _ _ ⟨by omega,eE,fun v hv=>by cases hv⟩) (nV has)
   ·rename_i Am u hq hp
    rw[Bool.and_eq_true,Bool.and_eq_true] at hq
    obtain⟨⟨hq1,tV⟩,K6⟩:=hq
    have hq1:=Nat.eq_of_beq_eq_true hq1
    have tV:c.rk≠0:=by intro e;rw[e] at tV;cases tV
    have K6:row / 65536≠0:=by intro e;rw[e] at K6;cases K6
    split at h
    ·rename_i hsz
     have hsz:=Nat.eq_of_beq_eq_true hsz
     obtain⟨w,hw,h⟩:=au h
     obtain⟨a',g8,g9⟩:=U7 row (s2.mem.length-1) d nx p Am [u] w tV hq1 K6 hp (fun v hv=>by rw[List.mem_singleton.1 hv];exact hsz) hw
     rw[hi.mem.len] at g8
     refine⟨_,.bS { val:=a',cK:=dy s.mem ks++[(s.mem.length-1,d,some (.row p (bx u.t u.l)))],cx:=[],rd:=aK.flatMap dF },⟨n0,fun n hn=>?_⟩,?_,h⟩
     ·rw [hsh]
      simp only[fe,D2 g1,g1,g6 n hn,g8,gP,List.map_cons,List.map_nil]
     ·have eE : ρ nx = some p := hi.xV 0 II
      rw[←hi.mem.len]
      refine .fF hi.mem hi.aE (B':=nx+1) (by omega) (dA (.inl (Nat.le_refl _))) (iz.append (dB ⟨by omega,p,eE,rfl⟩)) (g9 _ _ _ ⟨by omega,eE,fun v hv r' hr'=>?_⟩) (nV has)
      rw[List.mem_singleton.1 hv]
      rw[mR] at hr'
      simp only[eN] at hr'
      have:=cy hr'
      rw[jA] at this
      split at this
      ·injection this with this
       injection this with _ h1 h2
       obtain⟨t',l'⟩:=r'
       simp only at h1 h2
       subst h1
       cases h2
       rfl
      ·have h1 := kW (fm.2 this)
       obtain⟨e,_,hlt,_⟩:=hi.mem.ec _ _ _ (cy h1)
       omega
    ·cases h
   ·cases h
 ·cases h
theorem N9 (hE:aC Fs E) (hi:RI ρ nx rem os s2 s p) {f:Nat} {vs:List V2} {aK:List AV} (h:NP E s2 f vs K=some r) (has:az (RV ρ nx s2.mem) vs aK) :
  ∃ r2 e,(∃ n0,∀ n,n0≤n→l5 (ig Fs n) s p f aK=some e)∧nU ρ nx os s2 s r2 e∧K r2=some r:=by
 unfold NP at h
 obtain⟨c,hc,h⟩:=au h
 split at h
 ·rename_i L0
  rw[Bool.and_eq_true] at L0
  obtain⟨L0,Ao⟩:=L0
  obtain⟨⟨ds,ks,bs⟩,ha,h⟩:=au h
  obtain⟨x,hx,h⟩:=au h
  obtain⟨hb,h⟩:=qy h
  obtain⟨y,hy,h⟩:=bind_some h
  split at h
  ·rename_i ws iM
   obtain⟨as',vs',g1,g2,g3⟩:=FY hi.mem ha has hb
   obtain⟨Ui,g4,g5⟩:=(hE.J6 f c hc).1 (by simpa using L0) x y hy
   rw[cO hx] at g4
   have rE:=g2 []
   rw[List.append_nil,g4] at rE
   injection rE with rE;injection rE with rE _;subst rE
   obtain⟨n0,rv,cm,ts,nv,g6,g7⟩:=g5 as' g3
   obtain⟨w,hw,h⟩:=au h
   obtain⟨a',g8,g9⟩:=(g7 ws iM).1 (fun e=>by rw[e] at Ao;cases Ao) w hw 0 0 p
   refine⟨_,.bS { val:=a',cK:=dy s.mem ks,cx:=[],rd:=aK.flatMap dF },⟨n0,fun n hn=>?_⟩,?_,h⟩
   ·simp only[l5,g1,g6 n hn,g8]
   ·exact .fF hi.mem hi.aE (by omega) (oL (ks:=ks)) iz (g9 _ _ _) (nV has)
  ·cases h
 ·cases h
theorem Ap (hwk : IF Fs wk) (hE : aC Fs E) (hi : RI ρ nx rem os s2 s p) (II : 0 < rem) {f : Nat} {vs : List V2} {aK : List AV} (h : FG E wk ctx s2 row d nx f vs K = some r) (has : az (RV ρ nx s2.mem) vs aK) :
  ∃ r2 e,(∃ n0,∀ n,n0≤n→fe (ig Fs n) (yu Fs f) row s (s.mem.length-1) d p f aK=some e)∧nU ρ nx os s2 s r2 e∧K r2=some r:=by
 unfold FG at h
 split at h
 ·rename_i fn hf
  rw[hE.fns] at hf
  have hsh:yu Fs f=fn.sh:=by simp[yu,hf]
  split at h
  ·rename_i hfs
   rw[hfs] at hsh
   exact Ge hE hi II hsh h has
  ·rename_i hfs
   rw[hfs] at hsh
   split at h
   ·cases h
   ·rename_i hnp
    rw[Bool.and_eq_true] at hnp
    obtain⟨hnp,hnt⟩:=hnp
    have hnt:=An hnt has
    let ρc:bG:=fun v=>if v<nx then ρ v else some (s.nv+(v-nx))
    have Oa:∀ v,v<nx→ρc v = ρ v:=fun v hv=>if_pos hv
    have hle:nx≤s2.nv:=by have:=hi.nv;omega
    have start : xq ρc (s.slots :: os) { slots := gN 0 vs .lf, outer := loose s2.slots :: s2.outer, mem := s2.mem ++ [.lf], aE := s2.aE, nv := nx } { slots := dN 0 aK .lf, mem := s.mem ++ [.lf], aE := s.aE, nv := s.nv } := by
     refine⟨?_,⟨?_,?_⟩,?_,?_,?_,Nat.le_refl _⟩
     ·exact oO (has.mono fun _ _=>RV.move rD (Nat.le_refl _) Oa)
     ·exact fun k v hk=>(hi.slots k v (vH _ _ _ hk)).move rD (Nat.le_refl _) Oa
     ·exact gO rD (Nat.le_refl _) Oa hi.outer
     ·exact (hi.mem.ren Oa).snoc
     ·intro v hv
      obtain⟨h1,h2⟩:=hi.aE v hv
      exact⟨h1,fun u hu=>h2 u (by rw[←Oa v h1];exact hu)⟩
     ·refine ⟨fun v u hv hu => ?_, fun v hv => ?_, fun v v' u hu dw => ?_⟩
      ·have hv : v < nx := hv
       rw[Oa v hv] at hu
       exact hi.af.low v u (by omega) hu
      ·have hv : nx ≤ v := hv
       show ρc v=_
       simp only[ρc]
       rw[if_neg (by omega)]
      ·simp only [ρc] at hu dw
       split at hu
       ·split at dw
        ·exact hi.af.inj v v' u hu dw
        ·injection dw with dw
         have:=hi.af.low v u (by omega) hu
         omega
       ·injection hu with hu
        split at dw
        ·have := hi.af.low v' u (by omega) dw
         omega
        ·injection dw with dw
         omega
    have fin : ∀ (ax : AX) (t2 : S2) (ρ' : bG) (t : St), (∀ id, ax ≠ .exit id) → Ev Fs fn.body { slots := dN 0 aK .lf, mem := s.mem ++ [.lf], aE := s.aE, nv := s.nv } (ax, t) → xq ρ' (s.slots :: os) t2 t → Fr ρc nx s.nv ρ' t2.nv → s.nv ≤ t.nv →
      (match t2.outer with
      | o :: os' => uA t2 fn.res fun vs => match Nat.beq row 0 with
       |true=>bW (rW t2.mem s2.mem.length vs) fun vs=>bW (gX vs) fun v=>
        K (.all v { slots:=merge s2.slots o,outer:=os',mem:=t2.mem.take s2.mem.length,aE:=t2.aE,nv:=t2.nv })
       | false => match !Nat.beq (row % 65536) 0 && !Nat.beq (row / 65536) 0, uB t2.mem s2.mem.length (row % 65536) (s2.mem.length - 1) d t2.nv (E.bT ctx d) 1 vs with
        | true, some (vs, [u]) => match Nat.beq (row / 65536) u.t.size with
         |true=>bW (gX vs) fun v=>
          K (.all v { slots:=merge s2.slots o,outer:=os',mem:=eN (t2.mem.take s2.mem.length) [(s2.mem.length-1,d,some (.row t2.nv u.t u.l))],aE:=t2.aE,nv:=t2.nv+1 })
         |false=>none
        |true,some (vs,[])=>bW (gX vs) fun v=>
         K (.all v { slots:=merge s2.slots o,outer:=os',mem:=t2.mem.take s2.mem.length,aE:=t2.aE,nv:=t2.nv+1 })
        |_,_=>none
      |[]=>none)=some r→∃ r2 e,(∃ n0,∀ n,n0≤n→fe (ig Fs n) (yu Fs f) row s (s.mem.length-1) d p f aK=some e)∧nU ρ nx os s2 s r2 e∧K r2=some r:=by
     intro ax t2 ρ' t Ob hev xX hfr yl hk
     have hout:=xX.outer
     split at hk
     ·rename_i o os' ho
      rw[ho] at hout
      obtain⟨Ui,Iu,q1,q2,hk'⟩:=uL xX.mem xX.slots hk
      clear hk
      have hk:=hk'
      clear hk'
      obtain⟨n0,hev⟩:=hev
      have hrun:∀ n,n0+1≤n→ig Fs n f aK (s.mem++[.lf]) s.aE s.nv=some (gU Iu,t.mem,t.aE,t.nv):=by
       intro n hn
       obtain⟨n,rfl⟩:∃ k,n=k+1:=⟨n-1,by omega⟩
       simp only[ig,hf]
       rw[←has.length]
       simp only[hnp]
       have:=hev n n (by omega) (by omega)
       unfold yu at this
       rw[this]
       cases ax with
       |normal=>simp only[q1,Option.map_some]
       |ret=>simp only[q1,Option.map_some]
       |exit id=>exact absurd rfl (Ob id)
      split at hk
      ·rename_i hrow
       have hrow:=Nat.eq_of_beq_eq_true hrow
       subst hrow
       obtain⟨Z9,q3,hk⟩:=au hk
       obtain⟨v,q4,hk⟩:=au hk
       obtain⟨a',q5,q6⟩:=RX xX.mem (lv:=s.mem.length-1) (sl:=d) (af:=p) q3 q4 q2
       refine⟨_,.all a' (bB (t.mem.take s.mem.length) []) t.aE t.nv,⟨n0+1,fun n hn=>?_⟩,?_,hk⟩
       ·rw [hsh]
        simp only[fe,hnt,hrun n hn]
        rw[hi.mem.len] at q5
        rw[q5]
        simp only[gP]
       ·refine ⟨ρ', ⟨?_, ?_, ?_, ?_, xX.af, Nat.le_refl _⟩, ?_, ?_, yl⟩
        ·intro k v hk
         rcases nT _ _ _ _ hk with⟨h1,h2⟩|h1
         ·exact (hi.slots k v h1).still h2
         ·exact (hout.1 k v h1).move ki (Nat.le_refl _) fun _ _=>rfl
        ·exact gO ki (Nat.le_refl _) (fun _ _=>rfl) hout.2
        ·have := xX.mem.take (k := s2.mem.length)
         rw[hi.mem.len] at this ⊢
         exact this
        ·exact xX.aE
        ·exact q6
        ·intro v u hv hu
         rcases hfr v u hv hu with⟨w,hw,Aq⟩|h'
         ·exact .inl ⟨w,by omega,by rw[←Oa w hw];exact Aq⟩
         ·exact .inr h'
      ·rename_i hrow
       have hrow:row≠0:=beq_false.1 hrow
       split at hk
       ·rename_i Z9 u hq q3
        rw[Bool.and_eq_true] at hq
        have tV:row / 65536≠0:=by intro e;rw[e] at hq;cases hq.2
        split at hk
        ·rename_i hsz
         have hsz:=Nat.eq_of_beq_eq_true hsz
         obtain⟨v,q4,hk⟩:=au hk
         obtain⟨a',q5,q6⟩:=Gd xX.mem (p:=p) hrow rfl tV q3 q4 q2 (fun v hv=>by rw[List.mem_singleton.1 hv];exact hsz)
         have eE : ρ nx=some p:=hi.xV 0 II
         have hps:p<s.nv:=by have:=hi.pn;omega
         let CB:bG:=fun v=>if v<t2.nv then ρ' v else if v=t2.nv then some p else some (t.nv+(v-(t2.nv+1)))
         have e1:∀ v,v<t2.nv→CB v = ρ' v:=fun v h=>if_pos h
         have e2 : CB t2.nv=some p:=by
          show (if _ then _ else _)=_
          rw[if_neg (by omega),if_pos rfl]
         have e3:∀ v,t2.nv+1≤v→CB v=some (t.nv+(v-(t2.nv+1))):=fun v h=>by
          show (if _ then _ else _)=_
          rw[if_neg (by omega),if_neg (by omega)]
         have fresh:∀ v,v<t2.nv→ρ' v≠some p:=by
          intro v hv hu
          rcases hfr v p hv hu with⟨w,hw,Aq⟩|h'
          ·rw [Oa w hw] at Aq
           have:=hi.af.inj _ _ _ Aq eE
           omega
          ·omega
         have hst:eg t2.nv (t2.mem.take s2.mem.length) (eN (t2.mem.take s2.mem.length) [(s2.mem.length-1,d,some (.row t2.nv u.t u.l))])  := by
          have:=dA (B:=t2.nv) (m:=t2.mem.take s2.mem.length) (ks:=[]) (lv:=s2.mem.length-1) (sl:=d) (e:=.row t2.nv u.t u.l) (.inl (Nat.le_refl _))
          simpa only[jQ,List.map_nil,List.nil_append] using this
         have hmt:=(xX.mem.take (k:=s2.mem.length)).ren e1
         have YX:MR CB (t2.nv+1) (eN (t2.mem.take s2.mem.length) [(s2.mem.length-1,d,some (.row t2.nv u.t u.l))]) (bB (t.mem.take s2.mem.length) [(s2.mem.length-1,d,some (.row p (bx u.t u.l)))]):=
          hmt.cK (Nat.le_succ _) hst (dB ⟨by omega,p,e2,rfl⟩)
         refine⟨_,.all a' (bB (t.mem.take s.mem.length) [(s.mem.length-1,d,some (.row p (bx u.t u.l)))]) t.aE t.nv,⟨n0+1,fun n hn=>?_⟩,?_,hk⟩
         ·rw [hsh]
          simp only[fe,hnt,hrun n hn]
          rw[hi.mem.len] at q5
          rw[q5]
          simp only[List.map_cons,List.map_nil,gP]
         ·refine ⟨CB, ⟨?_, ?_, ?_, ?_, ⟨?_, e3, ?_⟩, Nat.le_refl _⟩, ?_, ?_, yl⟩
          ·intro k v hk
           rcases nT _ _ _ _ hk with⟨h1,h2⟩|h1
           ·exact (hi.slots k v h1).still h2
           ·exact (hout.1 k v h1).move (ki.trans hst) (Nat.le_succ _) e1
          ·exact gO (ki.trans hst) (Nat.le_succ _) e1 hout.2
          ·rw [← hi.mem.len]
           exact YX
          ·intro v hv
           obtain⟨h1,h2⟩:=xX.aE v hv
           exact⟨Nat.lt_succ_of_lt h1,fun u hu=>h2 u (by rw[←e1 v h1];exact hu)⟩
          ·intro v u' hv hu
           have hv:v<t2.nv+1:=hv
           show u'<t.nv
           rcases Nat.lt_or_ge v t2.nv with h1|h1
           ·rw [e1 v h1] at hu
            exact xX.af.low v u' h1 hu
           ·have : v = t2.nv := by omega
            subst this
            rw[e2] at hu
            injection hu with hu
            omega
          ·intro v v' u' hu dw
           have mb:∀ v,v<t2.nv→∀ u',CB v=some u'→u'<t.nv∧u'≠p:=by
            intro v hv u' hu
            rw[e1 v hv] at hu
            exact⟨xX.af.low v u' hv hu,fun e=>fresh v hv (by rw[hu,e])⟩
           rcases Nat.lt_trichotomy v t2.nv with h1|h1|h1
           ·obtain ⟨l1, l2⟩ := mb v h1 u' hu
            rcases Nat.lt_trichotomy v' t2.nv with h3|h3|h3
            ·rw [e1 v h1] at hu
             rw[e1 v' h3] at dw
             exact xX.af.inj v v' u' hu dw
            ·subst h3;rw[e2] at dw;injection dw with dw;omega
            ·rw[e3 v' h3] at dw;injection dw with dw;omega
           ·subst h1
            rw[e2] at hu;injection hu with hu
            rcases Nat.lt_trichotomy v' t2.nv with h3|h3|h3
            ·obtain⟨l1,l2⟩:=mb v' h3 u' dw;omega
            ·exact h3.symm
            ·rw[e3 v' h3] at dw;injection dw with dw;omega
           ·rw [e3 v h1] at hu; injection hu with hu
            rcases Nat.lt_trichotomy v' t2.nv with h3|h3|h3
            ·obtain⟨l1,l2⟩:=mb v' h3 u' dw;omega
            ·subst h3;rw[e2] at dw;injection dw with dw;omega
            ·rw[e3 v' h3] at dw;injection dw with dw;omega
          ·refine q6 CB (t2.nv + 1) _ ⟨by omega, e2, fun v hv r' hr' => ?_⟩ e1 (Nat.le_succ _) hst
           rw[List.mem_singleton.1 hv]
           simp only[eN] at hr'
           have:=cy hr'
           rw[jA] at this
           split at this
           ·injection this with this
            injection this with _ h1 h2
            obtain⟨t',l'⟩:=r'
            simp only at h1 h2
            subst h1
            cases h2
            rfl
           ·obtain ⟨e, _, hlt, _⟩ := hmt.ec _ _ _ this
            omega
          ·intro v u' hv hu
           have hv:v<t2.nv+1:=hv
           rcases Nat.lt_or_ge v t2.nv with h1|h1
           ·rw [e1 v h1] at hu
            rcases hfr v u' h1 hu with⟨w,hw,Aq⟩|h'
            ·exact .inl ⟨w,by omega,by rw[←Oa w hw];exact Aq⟩
            ·exact .inr h'
           ·have : v = t2.nv := by omega
            subst this
            rw[e2] at hu
            exact .inl ⟨nx,by omega,by rw[eE];exact hu⟩
        ·cases hk
       ·rename_i Z9 hq q3
        rw[Bool.and_eq_true] at hq
        have tV:row / 65536≠0:=by intro e;rw[e] at hq;cases hq.2
        obtain⟨v,q4,hk⟩:=au hk
        obtain⟨a',q5,q6⟩:=Gd xX.mem (p:=p) hrow rfl tV q3 q4 q2 (fun v hv=>(by cases hv))
        have eE : ρ nx=some p:=hi.xV 0 II
        have hps:p<s.nv:=by have:=hi.pn;omega
        let CB:bG:=fun v=>if v<t2.nv then ρ' v else if v=t2.nv then some p else some (t.nv+(v-(t2.nv+1)))
        have e1:∀ v,v<t2.nv→CB v = ρ' v:=fun v h=>if_pos h
        have e2 : CB t2.nv=some p:=by
         show (if _ then _ else _)=_
         rw[if_neg (by omega),if_pos rfl]
        have e3:∀ v,t2.nv+1≤v→CB v=some (t.nv+(v-(t2.nv+1))):=fun v h=>by
         show (if _ then _ else _)=_
         rw[if_neg (by omega),if_neg (by omega)]
        have fresh:∀ v,v<t2.nv→ρ' v≠some p:=by
         intro v hv hu
         rcases hfr v p hv hu with⟨w,hw,Aq⟩|h'
         ·rw [Oa w hw] at Aq
          have:=hi.af.inj _ _ _ Aq eE
          omega
         ·omega
        have hst:eg t2.nv (t2.mem.take s2.mem.length) (t2.mem.take s2.mem.length):=eg.refl _ _
        have hmt:=(xX.mem.take (k:=s2.mem.length)).ren e1
        have YX:MR CB (t2.nv+1) (t2.mem.take s2.mem.length) (t.mem.take s2.mem.length):=hmt.mono (Nat.le_succ _)
        refine⟨_,.all a' (bB (t.mem.take s.mem.length) []) t.aE t.nv,⟨n0+1,fun n hn=>?_⟩,?_,hk⟩
        ·rw [hsh]
         simp only[fe,hnt,hrun n hn]
         rw[hi.mem.len] at q5
         rw[q5]
         simp only[List.map_nil,gP]
        ·refine ⟨CB, ⟨?_, ?_, ?_, ?_, ⟨?_, e3, ?_⟩, Nat.le_refl _⟩, ?_, ?_, yl⟩
         ·intro k v hk
          rcases nT _ _ _ _ hk with⟨h1,h2⟩|h1
          ·exact (hi.slots k v h1).still h2
          ·exact (hout.1 k v h1).move (ki.trans hst) (Nat.le_succ _) e1
         ·exact gO (ki.trans hst) (Nat.le_succ _) e1 hout.2
         ·rw [← hi.mem.len]
          exact YX
         ·intro v hv
          obtain⟨h1,h2⟩:=xX.aE v hv
          exact⟨Nat.lt_succ_of_lt h1,fun u hu=>h2 u (by rw[←e1 v h1];exact hu)⟩
         ·intro v u' hv hu
          have hv:v<t2.nv+1:=hv
          show u'<t.nv
          rcases Nat.lt_or_ge v t2.nv with h1|h1
          ·rw [e1 v h1] at hu
           exact xX.af.low v u' h1 hu
          ·have : v = t2.nv := by omega
           subst this
           rw[e2] at hu
           injection hu with hu
           omega
         ·intro v v' u' hu dw
          have mb:∀ v,v<t2.nv→∀ u',CB v=some u'→u'<t.nv∧u'≠p:=by
           intro v hv u' hu
           rw[e1 v hv] at hu
           exact⟨xX.af.low v u' hv hu,fun e=>fresh v hv (by rw[hu,e])⟩
          rcases Nat.lt_trichotomy v t2.nv with h1|h1|h1
          ·obtain ⟨l1, l2⟩ := mb v h1 u' hu
           rcases Nat.lt_trichotomy v' t2.nv with h3|h3|h3
           ·rw [e1 v h1] at hu
            rw[e1 v' h3] at dw
            exact xX.af.inj v v' u' hu dw
           ·subst h3;rw[e2] at dw;injection dw with dw;omega
           ·rw[e3 v' h3] at dw;injection dw with dw;omega
          ·subst h1
           rw[e2] at hu;injection hu with hu
           rcases Nat.lt_trichotomy v' t2.nv with h3|h3|h3
           ·obtain⟨l1,l2⟩:=mb v' h3 u' dw;omega
           ·exact h3.symm
           ·rw[e3 v' h3] at dw;injection dw with dw;omega
          ·rw [e3 v h1] at hu; injection hu with hu
           rcases Nat.lt_trichotomy v' t2.nv with h3|h3|h3
           ·obtain⟨l1,l2⟩:=mb v' h3 u' dw;omega
           ·subst h3;rw[e2] at dw;injection dw with dw;omega
           ·rw[e3 v' h3] at dw;injection dw with dw;omega
         ·exact q6 CB (t2.nv+1) _ ⟨by omega,e2,fun v hv=>(by cases hv)⟩ e1 (Nat.le_succ _) hst
         ·intro v u' hv hu
          have hv:v<t2.nv+1:=hv
          rcases Nat.lt_or_ge v t2.nv with h1|h1
          ·rw [e1 v h1] at hu
           rcases hfr v u' h1 hu with⟨w,hw,Aq⟩|h'
           ·exact .inl ⟨w,by omega,by rw[←Oa w hw];exact Aq⟩
           ·exact .inr h'
          ·have : v = t2.nv := by omega
           subst this
           rw[e2] at hu
           exact .inl ⟨nx,by omega,by rw[eE];exact hu⟩
       ·cases hk
     ·cases hk
    dsimp only at h
    split at h
    ·obtain ⟨ax, t2, ρ', t, g1, g2, g3, g4, g5⟩ := hwk _ _ _ _ _ _ _ h _ _ _ start
     cases ax with
     |exit id=>cases g5
     |normal=>exact fin .normal t2 ρ' t (fun _ h=>by cases h) g1 g2 g3 g4 g5
     |ret=>exact fin .ret t2 ρ' t (fun _ h=>by cases h) g1 g2 g3 g4 g5
    ·rename_i outs ho
     obtain⟨y,hy,h⟩:=bind_some h
     obtain⟨ax,t2,ρ',t,g1,g2,g3,g4,g5⟩:=hwk _ _ _ _ _ _ _ hy _ _ _ start
     have Ob:∀ id,ax≠.exit id:=by
      intro id e
      subst e
      cases g5
     have g5:lD outs .ret t2=some y:=by
      cases ax with
      |exit id=>cases g5
      |normal=>exact g5
      |ret=>exact g5
     obtain⟨t3,CB,g6,g7,g8⟩:=yt g2 g5
     rw[g8] at h
     exact fin ax t3 CB t Ob g1 g6 (g3.trans g7 g4) g4 h
 ·rename_i hf
  exact Ge hE hi II (by simp[yu,←hE.fns,hf]) h has
theorem sU {ρ : bG} {B:Nat} {m:List (Tr E2)} : ∀ {l:List cG} {d d':List ff} {cs:List Cell} {aK:List AV},l.all cG.flat=true→cH l d=some (cs,d')→az (RC ρ B m) cs aK→aK.all yX=true
 |[],_,_,_,aK,_,h,ha=>by
  simp only[cH,Option.some.injEq,Prod.mk.injEq] at h
  obtain⟨rfl,rfl⟩:=h
  match aK,ha with
  |[],_=>rfl
 | c :: l, d, d', cs, aK, hl, h, ha => by
  rw[List.all_cons,Bool.and_eq_true] at hl
  simp only[cH] at h
  split at h
  ·rename_i x r' h1
   split at h
   ·rename_i xs r'' h2
    simp only[Option.some.injEq,Prod.mk.injEq] at h
    obtain⟨rfl,rfl⟩:=h
    match aK,ha with
    | a :: aK, ha =>
     have hx:yX a=true:=by
      have hf:=hl.1
      unfold cG.fill at h1
      split at h1<;>first|(simp only[Option.some.injEq,Prod.mk.injEq] at h1;obtain⟨rfl,rfl⟩:=h1;first|(cases ha.1;rfl)|cases hf)|cases h1
     rw[List.all_cons,hx,sU hl.2 h2 ha.2]
     rfl
   ·cases h
  ·cases h
theorem R0 {ρ : bG} {B:Nat} {m:List (Tr E2)} {b:Bool} {l:List cG} {d d':List ff} {cs:List Cell} {a:AV} (hl:l.all cG.flat=true) (h:cH l d=some (cs,d')) (ha:R1 ρ B m (b,cs) a):BS a=true:=by
 cases b with
 |true=>obtain⟨aK,rfl,ha⟩:=ha;exact sU hl h ha
 |false=>
  obtain⟨c,rfl,ha⟩:=ha
  have:=sU (aK:=[a]) hl h ⟨ha,trivial⟩
  rw[List.all_cons,List.all_nil,Bool.and_true] at this
  cases a<;>first|exact this|cases this
theorem vI {ρ : bG} {B:Nat} {m:List (Tr E2)} : ∀ {res:List (Bool×List cG)} {d d':List ff} {ws:List (Bool×List Cell)} {aK:List AV},yo res=true→fY res d=some (ws,d')→az (R1 ρ B m) ws aK→aK.all BS=true
 |[],_,_,_,aK,_,h,ha=>by
  simp only[fY,Option.some.injEq,Prod.mk.injEq] at h
  obtain⟨rfl,rfl⟩:=h
  match aK,ha with
  |[],_=>rfl
 | (b, l) :: res, d, d', ws, aK, hl, h, ha => by
  unfold yo at hl
  rw[List.all_cons,Bool.and_eq_true] at hl
  simp only[fY] at h
  split at h
  ·rename_i x r' h1
   split at h
   ·rename_i xs r'' h2
    simp only[Option.some.injEq,Prod.mk.injEq] at h
    obtain⟨rfl,rfl⟩:=h
    match aK,ha with
    |a :: aK,ha=>
     rw[List.all_cons,R0 hl.1 h1 ha.1,vI (res:=res) hl.2 h2 ha.2]
     rfl
   ·cases h
  ·cases h
theorem Oc {ρ : bG} {B:Nat} {m:List (Tr E2)} {res:List (Bool×List cG)} {d d':List ff} {ws:List (Bool×List Cell)} {w:V2} {a:AV} (hl:yo res=true) (h:fY res d=some (ws,d')) (ht:gX ws=some w) (ha:RV ρ B m w a):M3 a=true:=by
 unfold gX at ht
 split at ht
 ·rename_i b cs
  have hr:R1 ρ B m (b,cs) a:=by
   cases b with
   |true=>simp only[jz,Option.some.injEq] at ht;subst ht;exact ha
   |false=>
    match cs,ht with
    |[c],ht=>simp only[jz,Option.some.injEq] at ht;subst ht;exact⟨c,rfl,ha⟩
  have:=vI (aK:=[a]) hl h ⟨hr,trivial⟩
  rw[List.all_cons,List.all_nil,Bool.and_true] at this
  cases a<;>first|exact this|cases this
 ·injection ht with ht; subst ht
  obtain⟨aK,rfl,ha⟩:=ha
  exact vI hl h ha
theorem L3 (hE:aC Fs E) (hi:RI ρ nx rem os s2 s p) {f:Nat} {vs:List V2} {aK:List AV} (h:Is E s2 f vs K=some r) (has:az (RV ρ nx s2.mem) vs aK) :
  ∃ r2 e,(∃ n0,∀ n,n0≤n→jJ (ig Fs n) s f aK=some e)∧nU ρ nx os s2 s r2 e∧K r2=some r:=by
 unfold Is at h
 obtain⟨c,hc,h⟩:=au h
 split at h
 ·rename_i hfl
  obtain⟨⟨ds,bs⟩,ha,h⟩:=au h
  obtain⟨x,hx,h⟩:=au h
  obtain⟨hb,h⟩:=qy h
  obtain⟨y,hy,h⟩:=bind_some h
  split at h
  ·rename_i ws iM
   obtain⟨w,hw,h⟩:=au h
   obtain⟨as',vs',g1,gk,g2,g3⟩:=CE hi.mem ha has hb
   rw[Bool.and_eq_true,Bool.and_eq_true] at hfl
   obtain⟨⟨hfl,L0⟩,Ao⟩:=hfl
   obtain⟨Ui,g4,g5⟩:=(hE.J6 f c hc).1 (by simpa using L0) x y hy
   rw[cO hx] at g4
   have rE:=g2 []
   rw[List.append_nil,g4] at rE
   injection rE with rE;injection rE with rE _;subst rE
   obtain⟨n0,rv,cm,ts,nv,g6,g7⟩:=g5 as' g3
   obtain⟨a',g8,g9⟩:=(g7 ws iM).1 (fun e=>by rw[e] at Ao;cases Ao) w hw 0 0 0
   have hfa:=Oc hfl iM hw (g9 ρ0 0 [])
   refine⟨_,.bS { val:=a',cK:=[],cx:=[],rd:=aK.flatMap (pJ s.mem) },⟨n0,fun n hn=>?_⟩,?_,h⟩
   ·simp only[jJ,g1,g6 n hn,g8,hfa]
   ·exact .vD hi.mem hi.aE (by omega) (g9 _ _ _) gk
  ·cases h
 ·cases h
end
end Go.Sym
