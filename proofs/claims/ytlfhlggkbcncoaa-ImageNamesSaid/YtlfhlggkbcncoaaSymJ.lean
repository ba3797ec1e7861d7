/- The machine over typed data: calls. -/
import Derived.Test.YtlfhlggkbcncoaaSymI
namespace Go.Sym
open Go Go.Eng
def shF (Fs:Nat→Option AFn):Nat→Bool:=fun g=>((Fs g).map (·.sh)).getD false
def Ev (Fs:Nat→Option AFn) (c:AC) (s:St) (x:AX×St):Prop:=∃ n0,∀ k n,n0≤k→n0≤n→exec (runF Fs k) (shF Fs) n c s=some x
def WkOK (Fs:Nat→Option AFn) (wk:Wk):Prop:=
 ∀ (α : Type) (ctx i:Nat) (c:AC) (s2:S2) (K:AX→S2→Option α) (r : α),wk α ctx i c s2 K=some r→∀ (ρ : VMap) (os:List (Tr AV)) (s:St),SR' ρ os s2 s→
  ∃ ax s2' ρ' s',Ev Fs c s (ax,s')∧SR' ρ' os s2' s'∧Fr ρ s2.nv s.nv ρ' s2'.nv∧s.nv≤s'.nv∧K ax s2'=some r
def RowFit (ρ : VMap) (B:Nat) (m:List (Tr E2)) (lv sl ver p:Nat) (us:List SL):Prop:=ver<B∧ρ ver=some p∧∀ u∈us,∀ r,rowOf m lv sl ver=some r→r.l.length=u.l.length
def CalOK1 (Fs : Nat → Option AFn) (f : Nat) (c : Callee) : Prop :=
 ∀ a y, c.F a = some y → ∃ vs, fillP c.args (unpack c.ta a) = some (vs, []) ∧ ∀ as, All2 (RV ρ0 0 []) vs as → ∃ n0 rv cm ts nv, (∀ n, n0 ≤ n → runF Fs n f as [.lf] .lf 0 = some (rv, cm, ts, nv)) ∧
  ∀ ws, fillR c.res (unpack c.tr y) = some (ws, []) → (∀ w, tup2 ws = some w → ∀ lv sl nvi, ∃ a', impR cm 0 0 lv sl nvi rv = some (a', []) ∧ ∀ ρ B m, RV ρ B m w a') ∧
   ∀ row lv sl ver p ws' us w,c.rk≠0→row % 65536=c.rk→row / 65536≠0→pickR c.rk lv sl ver 1 ws=some (ws',us)→(∀ u∈us,row / 65536=u.t.size)→tup2 ws'=some w→
    ∃ a',impR cm 0 row lv sl p rv=some (a',us.map fun u=>encL u.t u.l)∧∀ ρ B m,RowFit ρ B m lv sl ver p us→RV ρ B m w a'
def BoxOK (Fs:Nat→Option AFn) (f:Nat) (c:Callee) (l:List CSh) (ps:List PSh):Prop:=
 ∀ a y, c.F a = some y → ∃ cs r vs, fillCs l (unpack c.ta a) = some (cs, r) ∧ fillP ps r = some (vs, []) ∧ ∀ bs as, All2 (RC ρ0 0 []) cs bs → All2 (RV ρ0 0 []) vs as →
  ∃ n0 rv cm ts nv,(∀ n,n0≤n→runF Fs n f (.ptr 0 0 0 0 0 :: as) (boxMem bs) .lf 1=some (rv,cm,ts,nv))∧
  ∀ new ws w,fillR c.res (unpack c.tr y)=some ((true,new) :: ws,[])→tup2 ws=some w→
   ∃ cs' ds a',boxAt cm 0 0 0=some cs'∧impCells cm 1 0 0 0 0 0 cs'=some (ds,[])∧ds.all isDat=true∧impR cm 1 0 0 0 0 rv=some (a',[])∧plainR a'=true∧∀ ρ B m,All2 (RC ρ B m) new ds∧RV ρ B m w a'
def CalOK (Fs:Nat→Option AFn) (f:Nat) (c:Callee):Prop:=(boxP c.args=none→CalOK1 Fs f c)∧∀ l ps,boxP c.args=some (l,ps)→BoxOK Fs f c l ps
def LoopOK (Fs:Nat→Option AFn) (c:AC) (L:LoopSpec):Prop:=
 ∀ x y,L.F x=some y→∀ s2,L.T.st (unpack L.T.tys x)=some s2→∀ ρ os s,SR' ρ os s2 s→
  ∃ ax s2' ρ' s',Ev Fs (.loop c) s (ax,s')∧SR' ρ' os s2' s'∧Fr ρ s2.nv s.nv ρ' s2'.nv∧s.nv≤s'.nv∧∀ {α : Type} (K:AX→S2→Option α),outsK L.outs y K=K ax s2'
structure EnvOK (Fs:Nat→Option AFn) (E:SEnv):Prop where
 fns:E.fns=Fs
 cal:∀ f c,E.cal f=some c→CalOK Fs f c
 loops:∀ ctx i c L,E.loops ctx i c=some L→LoopOK Fs c L
structure RI (ρ : VMap) (nx rem:Nat) (os:List (Tr AV)) (s2:S2) (s:St) (p:Nat):Prop where
 slots:SlR ρ nx s2.mem s2.slots s.slots
 outer:All2 (SlR ρ nx s2.mem) s2.outer os
 mem:MR ρ nx s2.mem s.mem
 tips:TR ρ nx s2.tips s.tips
 ver:VOK ρ s2.nv s.nv
 pend:∀ j,j<rem→ρ (nx+j)=some (p+j)
 nv:nx+rem=s2.nv
 pn:p+rem≤s.nv
def ResOK (ρ : VMap) (nx:Nat) (os:List (Tr AV)) (s2:S2) (s:St):Res2→Res→Prop
 |.eff E,.eff e=>EffOK ρ nx (nx+1) s2 s E e
 |.all v s2',.all a m t n=>∃ ρ',SR' ρ' os s2' { slots:=s.slots,mem:=m,tips:=t,nv:=n }∧RV ρ' s2'.nv s2'.mem v a∧Fr ρ (nx+1) s.nv ρ' s2'.nv∧s.nv≤n
 |_,_=>False
section
variable {Fs:Nat→Option AFn} {E:SEnv} {wk:Wk} {α : Type} {ρ : VMap} {nx rem p:Nat} {os:List (Tr AV)} {s2:S2} {s:St} {ctx row d:Nat} {K:Res2→Option α} {r : α}
theorem boxNone {m:List (Tr Ent)} {as:List AV} {x:List AV×List (Nat×Nat)} (h:lends m as=some x):boxArgs as=none:=by
 unfold boxArgs
 split
 ·simp only [lends, lend, lendCell, Option.map_none] at h
  cases h
 ·rfl
theorem argSlots2_get:∀ (l:List V2) (i:Nat) (t:Tr V2) (k:Nat),(argSlots2 i l t).get? k=if h:i≤k∧k<i+l.length then some (l[k-i]'(by omega)) else t.get? k
 |[],i,t,k=>by rw[dif_neg (by simp)];rfl
 | x :: r, i, t, k => by
  rw[argSlots2,argSlots2_get r (i+1)]
  by_cases h1:i+1≤k∧k<i+1+r.length
  ·rw [dif_pos h1, dif_pos (by simp; omega)]
   have:k-i=(k-(i+1))+1:=by omega
   simp only[this,List.getElem_cons_succ]
  ·rw [dif_neg h1]
   by_cases h2:k=i
   ·subst h2
    rw[dif_pos (by simp)]
    simp[Tr.get_set]
   ·rw [dif_neg (by simp; omega)]
    rw[Tr.get_set,if_neg (Ne.symm h2)]
theorem argSlots_rel {B:Nat} {m:List (Tr E2)} {vs:List V2} {as:List AV} (h:All2 (RV ρ B m) vs as):SlR ρ B m (argSlots2 0 vs .lf) (argSlots 0 as .lf):=by
 intro k v hk
 rw[argSlots2_get] at hk
 rw[argSlots_get]
 split at hk
 ·rename_i hc
  injection hk with hk;subst hk
  rw[dif_pos (by rw[←h.length];exact hc)]
  obtain⟨b,hb,hr⟩:=h.get (k-0) _ (List.getElem?_eq_getElem (by omega))
  rw[List.getElem?_eq_getElem (by rw[←h.length];omega)] at hb
  injection hb with hb;subst hb
  exact hr
 ·simp at hk
theorem mget_snoc {m:List (Tr E2)} {lv sl:Nat} : mget (m++[.lf]) lv sl=mget m lv sl:=by
 unfold mget
 rcases Nat.lt_trichotomy lv m.length with h|h|h
 ·rw[List.getElem?_append_left h]
 ·subst h;simp
 ·rw[List.getElem?_eq_none (by simp;omega),List.getElem?_eq_none (by omega)]
theorem memGet_snoc {m:List (Tr Ent)} {lv sl:Nat} : memGet (m++[.lf]) lv sl=memGet m lv sl:=by
 unfold memGet
 rcases Nat.lt_trichotomy lv m.length with h|h|h
 ·rw[List.getElem?_append_left h]
 ·subst h;simp
 ·rw[List.getElem?_eq_none (by simp;omega),List.getElem?_eq_none (by omega)]
theorem rowOf_snoc {m:List (Tr E2)} {lv sl ver:Nat} : rowOf (m++[.lf]) lv sl ver=rowOf m lv sl ver:=by
 unfold rowOf;rw[mget_snoc]
theorem stab_snoc {B:Nat} {m:List (Tr E2)} : Stab B m (m++[.lf]):=fun _ _ _ r _ h=>⟨r,by rw[rowOf_snoc] at h;exact h,rfl⟩
theorem mget_take {m:List (Tr E2)} {k lv sl:Nat} {e:E2} (h:mget (m.take k) lv sl=some e):lv<k∧mget m lv sl=some e:=by
 unfold mget at h ⊢
 rw[List.getElem?_take] at h
 split at h
 ·exact⟨by assumption,h⟩
 ·cases h
theorem memGet_take {m:List (Tr Ent)} {k lv sl:Nat} (h:lv<k):memGet (m.take k) lv sl=memGet m lv sl:=by
 unfold memGet
 rw[List.getElem?_take,if_pos h]
theorem stab_take {B k:Nat} {m:List (Tr E2)} : Stab B m (m.take k):=fun _ _ _ r _ h=>⟨r,rowOf_iff.2 (mget_take (rowOf_some h)).2,rfl⟩
theorem MR.take {B k:Nat} {m2:List (Tr E2)} {m:List (Tr Ent)} (h:MR ρ B m2 m):MR ρ B (m2.take k) (m.take k):=by
 refine⟨by simp[h.len],fun lv sl e2 he=>?_⟩
 obtain⟨h1,h2⟩:=mget_take he
 obtain⟨e,h3,h4⟩:=h.ents lv sl e2 h2
 exact⟨e,by rw[memGet_take h1];exact h3,RE.mono (Nat.le_refl _) (fun _ _=>rfl) (fun _ _=>RC.move stab_take (Nat.le_refl _) fun _ _=>rfl) h4⟩
theorem MR.snoc {B:Nat} {m2:List (Tr E2)} {m:List (Tr Ent)} (h:MR ρ B m2 m):MR ρ B (m2++[.lf]) (m++[.lf]):=by
 refine⟨by simp[h.len],fun lv sl e2 he=>?_⟩
 rw[mget_snoc] at he
 obtain⟨e,h3,h4⟩:=h.ents lv sl e2 he
 exact⟨e,by rw[memGet_snoc];exact h3,RE.mono (Nat.le_refl _) (fun _ _=>rfl) (fun _ _=>RC.move stab_snoc (Nat.le_refl _) fun _ _=>rfl) h4⟩
theorem MR.ren {ρ':VMap} {B:Nat} {m2:List (Tr E2)} {m:List (Tr Ent)} (h:MR ρ B m2 m) (hρ : ∀ v,v<B→ρ' v = ρ v):MR ρ' B m2 m:=by
 refine⟨h.len,fun lv sl e2 he=>?_⟩
 obtain⟨e,h3,h4⟩:=h.ents lv sl e2 he
 exact⟨e,h3,RE.mono (Nat.le_refl _) hρ (fun _ _=>RC.move (Stab.refl _ _) (Nat.le_refl _) hρ) h4⟩
theorem all_notTup {B:Nat} {m:List (Tr E2)} : ∀ {vs:List V2} {as:List AV},vs.all V2.noTup=true→All2 (RV ρ B m) vs as→as.all notTup=true
 |[],[],_,_=>rfl
 |v :: vs,a :: as,h,ha=>by
  rw[List.all_cons,Bool.and_eq_true] at h
  rw[List.all_cons,all_notTup h.2 ha.2,Bool.and_true]
  cases v with
  |c x=>exact (RC.cell ha.1).2.2
  |agg cs=>obtain⟨as',e,_⟩:=ha.1;rw[e];rfl
  |clo f cs=>obtain⟨as',e,_⟩:=ha.1;rw[e];rfl
  |tup vs=>cases h.1
 |[],_ :: _,_,h=>h.elim
 |_ :: _,[],_,h=>h.elim
theorem all2_slr_mono {ρ':VMap} {B B':Nat} {m m':List (Tr E2)} (hs:Stab B m m') (hB:B≤B') (hρ : ∀ v,v<B→ρ' v = ρ v) {ts:List (Tr V2)} (h:All2 (SlR ρ B m) ts os):All2 (SlR ρ' B' m') ts os:=
 h.mono fun _ _=>SlR.move hs hB hρ
section
variable {B:Nat} {m2:List (Tr E2)} {m:List (Tr Ent)} (hm:MR ρ B m2 m)
def Brought (ρ : VMap) (B top:Nat) (m2:List (Tr E2)) (lv sl ver p:Nat) (us:List SL) (Q:VMap→Nat→List (Tr E2)→Prop):Prop:=
 ∀ ρ' B' m',RowFit ρ' B' m' lv sl ver p us→(∀ v,v<B→ρ' v = ρ v)→B≤B'→Stab B (m2.take top) m'→Q ρ' B' m'
theorem RowFit.left {ρ : VMap} {B:Nat} {m:List (Tr E2)} {lv sl ver p:Nat} {us vs:List SL} (h:RowFit ρ B m lv sl ver p (us++vs)):RowFit ρ B m lv sl ver p us:=⟨h.1,h.2.1,fun u hu=>h.2.2 u (List.mem_append_left _ hu)⟩
theorem RowFit.right {ρ : VMap} {B:Nat} {m:List (Tr E2)} {lv sl ver p:Nat} {us vs:List SL} (h:RowFit ρ B m lv sl ver p (us++vs)):RowFit ρ B m lv sl ver p vs:=⟨h.1,h.2.1,fun u hu=>h.2.2 u (List.mem_append_right _ hu)⟩
theorem impCell_own {top k lv sl ver:Nat} (hn:k≠row % 65536) {els:List (List D)} {o:Own} (ho:o≠.bor):impCell m top row k lv sl ver (.own els o)=some (match keepOwn top row with|true=>.own els o|false=>.d (.sl els),[]):=by
 have h0:Nat.beq k (row % 65536)=false:=beq_false.2 hn
 cases o with
 |bor=>exact absurd rfl ho
 |full=>simp only[impCell,h0,Bool.and_false];cases keepOwn top row<;>rfl
 |tip=>simp only[impCell];cases keepOwn top row<;>rfl
theorem impO_ok {top k lv sl ver:Nat} {x y:Cell} {a:AV} (hr:row≠0) (hn:k≠row % 65536) (h:impO m2 top x=some y) (hh:impHi top x=false) (hx:RC ρ B m2 x a):∃ a',impCell m top row k lv sl ver a=some (a',[])∧RC ρ B (m2.take top) y a':=by
 have keep:∀ {els:List (List D)} {o:Own} {z:Cell},o≠.bor→RC ρ B (m2.take top) z (.own els o)→Nat.beq top 0=false→∃ a',impCell m top row k lv sl ver (.own els o)=some (a',[])∧RC ρ B (m2.take top) z a':=by
  intro els o z ho hz ht
  refine⟨_,impCell_own hn ho,?_⟩
  have:keepOwn top row=true:=by simp only[keepOwn,beq_false.2 hr,ht];rfl
  rw[this]
  exact hz
 have lose:∀ {els:List (List D)} {o:Own} {z:Cell},o≠.bor→RC ρ B (m2.take top) z (.d (.sl els))→Nat.beq top 0=true→∃ a',impCell m top row k lv sl ver (.own els o)=some (a',[])∧RC ρ B (m2.take top) z a':=by
  intro els o z ho hz ht
  refine⟨_,impCell_own hn ho,?_⟩
  have:keepOwn top row=false:=by simp only[keepOwn,ht];cases Nat.beq row 0<;>rfl
  rw[this]
  exact hz
 unfold impO at h
 split at h
 ·rename_i b
  have hx':=(els_nil (m:=m) hx).2
  split at h
  ·rename_i ht
   injection h with h;subst h
   rcases hx' with rfl|⟨o,ho,rfl⟩
   ·exact⟨_,rfl,.inl rfl⟩
   ·exact lose ho (.inl rfl) ht
  ·rename_i ht
   injection h with h;subst h
   rcases hx' with rfl|⟨o,ho,rfl⟩
   ·refine ⟨_, rfl, ?_⟩
    cases b with
    |false=>exact .inl rfl
    |true=>cases hx
   ·refine keep ho ?_ ht
    cases b with
    |false=>exact .inr ⟨o,ho,rfl⟩
    |true=>exact hx
 ·split at h
  ·rename_i ht
   injection h with h;subst h
   obtain⟨h1,⟨h2,rfl⟩|⟨u,h2,rfl⟩⟩:=hx
   ·exact lose (fun e=>by cases e) (.inl rfl) ht
   ·exact lose (fun e=>by cases e) (.inl rfl) ht
  ·rename_i ht
   injection h with h;subst h
   obtain⟨h1,⟨h2,rfl⟩|⟨u,h2,rfl⟩⟩:=hx
   ·exact keep (fun e=>by cases e) ⟨h1,.inl ⟨h2,rfl⟩⟩ ht
   ·exact keep (fun e=>by cases e) ⟨h1,.inr ⟨u,h2,rfl⟩⟩ ht
 ·have hx : a = .own _ .full := hx
  subst hx
  split at h
  ·rename_i ht
   injection h with h;subst h
   exact lose (fun e=>by cases e) (.inl rfl) ht
  ·rename_i ht
   injection h with h;subst h
   exact keep (fun e=>by cases e) rfl ht
 ·rename_i hn1 hn2 hn3
  unfold imp2 at h
  split at h
  ·injection h with h;subst h;cases hx;exact⟨_,rfl,rfl⟩
  ·injection h with h;subst h;cases hx;exact⟨_,rfl,rfl⟩
  ·injection h with h;subst h;cases hx;exact⟨_,rfl,rfl⟩
  ·injection h with h;subst h;cases hx;exact⟨_,rfl,rfl⟩
  ·exact absurd rfl (hn1 _)
  ·cases h
  ·rename_i t l o hne
   injection h with h;subst h
   have ho:o=.d:=by
    cases o with
    |d=>rfl
    |bor=>exact absurd rfl hne
    |full=>exact absurd rfl (hn3 _ _)
    |app v=>exact absurd rfl (hn2 _ _ _)
   subst ho
   rcases hx with rfl|⟨o,ho,rfl⟩
   ·exact⟨_,rfl,.inl rfl⟩
   ·cases ht : Nat.beq top 0 with
    |true=>exact lose ho (.inl rfl) ht
    |false=>exact keep ho (.inr ⟨o,ho,rfl⟩) ht
  ·rename_i lv' sl' ver' t
   have hb:Nat.ble top lv'=false:=hh
   rw[hb] at h
   injection h with h;subst h
   obtain⟨hv,u,n,hu,rfl,hn⟩:=hx
   refine⟨_,by simp only[impCell,hb],hv,u,n,hu,rfl,fun r hr=>hn r ?_⟩
   have h1:=rowOf_some hr
   refine rowOf_iff.2 ?_
   unfold mget at h1 ⊢
   rw[List.getElem?_take] at h1
   split at h1
   ·exact h1
   ·cases h1
  ·rename_i lv' sl' ver' t off len
   have hb:Nat.ble top lv'=false:=hh
   rw[hb] at h
   injection h with h;subst h
   obtain⟨hv,u,hu,rfl,hn⟩:=hx
   refine⟨_,by simp only[impCell,hb],hv,u,hu,rfl,fun r hr=>hn r ?_⟩
   have h1:=rowOf_some hr
   refine rowOf_iff.2 ?_
   unfold mget at h1 ⊢
   rw[List.getElem?_take] at h1
   split at h1
   ·exact h1
   ·cases h1
  ·cases h
include hm
theorem impP1_ok {top rk k lv sl ver p:Nat} {e:Option Ty} {x y:Cell} {us:List SL} {a:AV} (hr:row≠0) (hrk:row % 65536=rk) (h2:row / 65536≠0) (h:impP1 m2 top rk lv sl ver e k x=some (y,us)) (hx:RC ρ B m2 x a) (hu:∀ u∈us,row / 65536=u.t.size) :
  ∃ a',impCell m top row k lv sl p a=some (a',us.map fun u=>encL u.t u.l)∧Brought ρ B top m2 lv sl ver p us fun ρ' B' m'=>RC ρ' B' m' y a':=by
 have hrow:Nat.beq row 0=false:=beq_false.2 hr
 unfold impP1 at h
 split at h
 ·rename_i hk
  have hk:=beq_true.1 hk
  subst hk
  have hkk:Nat.beq k (row % 65536)=true:=beq_true.2 hrk.symm
  have at_:∀ {lv' sl' ver' r u},rowOf m2 lv' sl' ver'=some r→ρ ver'=some u→Eng.rowAt m lv' sl' u=some (encL r.t r.l):=by
   intro lv' sl' ver' r u hr hu
   obtain⟨e,g1,g2⟩:=hm.ents _ _ _ (rowOf_some hr)
   obtain⟨_,u',g3,rfl⟩:=g2
   rw[hu] at g3;injection g3 with g3;subst g3
   unfold Eng.rowAt
   rw[g1]
   simp only[beq_true.2 rfl]
  split at h
  ·cases e with
   |none=>cases h
   |some t=>
    simp only[Option.map_some,Option.some.injEq,Prod.mk.injEq] at h
    obtain⟨rfl,rfl⟩:=h
    have hx:a=.own [] .full:=hx
    subst hx
    have hs:(!Nat.beq (row / 65536) 0)=true:=by rw[beq_false.2 h2];rfl
    have hu:=hu _ (List.mem_singleton.2 rfl)
    simp only at hu
    refine⟨.ref lv sl p 0 0 (row / 65536),by simp only[impCell,hs,hkk,Bool.and_true];rfl,fun ρ' B' m' hf _ _ _=>⟨hf.1,p,0,hf.2.1,by rw[hu],fun r hr=>?_⟩⟩
    have:=hf.2.2 _ (List.mem_singleton.2 rfl) r hr
    simpa using this.symm
  ·rename_i lv' sl' ver' t
   split at h
   ·rename_i r hb hr
    split at h
    ·rename_i hsz
     have hsz:=beq_true.1 hsz
     simp only[Option.some.injEq,Prod.mk.injEq] at h
     obtain⟨rfl,rfl⟩:=h
     have he:=els_ref hm hx hr
     obtain⟨hv,u,n,hu',rfl,hn⟩:=hx
     refine⟨.ref lv sl p 0 n t.size,?_,fun ρ' B' m' hf _ _ _=>⟨hf.1,p,n,hf.2.1,by rw[hsz],fun r' hr'=>?_⟩⟩
     ·simp only [impCell, hb, he, hrow, hkk, at_ hr hu']
      rfl
     ·rw [hf.2.2 _ (List.mem_singleton.2 rfl) r' hr']
      exact hn r hr
    ·cases h
   ·cases h
  ·rename_i lv' sl' ver' t off len
   split at h
   ·rename_i r hb hr
    split at h
    ·rename_i hsz
     have hsz:=beq_true.1 hsz
     simp only[Option.some.injEq,Prod.mk.injEq] at h
     obtain⟨rfl,rfl⟩:=h
     have hle:=hx.2.choose_spec.2.2 r hr
     have he:=els_refp hm hx hr hle
     obtain⟨hv,u,hu',rfl,hn⟩:=hx
     refine⟨.ref lv sl p 0 len t.size,?_,fun ρ' B' m' hf _ _ _=>⟨hf.1,p,len,hf.2.1,by rw[hsz],fun r' hr'=>?_⟩⟩
     ·simp only [impCell, hb, he, hrow, hkk, at_ hr hu']
      rfl
     ·rw [hf.2.2 _ (List.mem_singleton.2 rfl) r' hr', List.length_take, List.length_drop]
      omega
    ·cases h
   ·cases h
  ·cases h
 ·rename_i hk
  have hk:=beq_false.1 hk
  split at h
  ·cases h
  ·rename_i hh
   obtain⟨y',h1,h⟩:=Option.map_eq_some_iff.1 h
   injection h with h3 h4
   subst h3 h4
   have hh:impHi top x=false:=by simpa using hh
   obtain⟨a',g1,g2⟩:=impO_ok (m:=m) (k:=k) (lv:=lv) (sl:=sl) (ver:=p) hr (by rw[hrk];exact hk) h1 hh hx
   exact⟨a',g1,fun ρ' B' m' _ hρ hB hs=>g2.move hs hB hρ⟩
theorem impPs_ok {top rk lv sl ver p:Nat} {e:Option Ty} (hr:row≠0) (hrk:row % 65536=rk) (h2:row / 65536≠0):∀ {k:Nat} {xs ys:List Cell} {us:List SL} {as:List AV},impPs m2 top rk lv sl ver e k xs=some (ys,us)→All2 (RC ρ B m2) xs as→(∀ u∈us,row / 65536=u.t.size)→
  ∃ as',impCells m top row lv sl p k as=some (as',us.map fun u=>encL u.t u.l)∧Brought ρ B top m2 lv sl ver p us fun ρ' B' m'=>All2 (RC ρ' B' m') ys as'
 |k,[],ys,us,as,h,ha,_=>by
  simp only[impPs,Option.some.injEq,Prod.mk.injEq] at h
  obtain⟨rfl,rfl⟩:=h
  match as,ha with
  |[],_=>exact⟨[],rfl,fun _ _ _ _ _ _ _=>trivial⟩
 | k, x :: xs, ys, us, as, h, ha, hu => by
  simp only[impPs] at h
  split at h
  ·rename_i y u ys' us' h1 h3
   simp only[Option.some.injEq,Prod.mk.injEq] at h
   obtain⟨rfl,rfl⟩:=h
   match as,ha with
   |a :: as,ha=>
    obtain⟨a',g1,g2⟩:=impP1_ok hm (p:=p) hr hrk h2 h1 ha.1 fun v hv=>hu v (List.mem_append_left _ hv)
    obtain⟨as',g3,g4⟩:=impPs_ok (p:=p) hr hrk h2 h3 ha.2 fun v hv=>hu v (List.mem_append_right _ hv)
    refine⟨a' :: as',by simp only[impCells,g1,g3,List.map_append],fun ρ' B' m' hf h4 h5 h6=>⟨g2 ρ' B' m' hf.left h4 h5 h6,g4 ρ' B' m' hf.right h4 h5 h6⟩⟩
  ·cases h
theorem impP1s_ok {top rk k lv sl ver p:Nat} {e:Option Ty} (hr:row≠0) (hrk:row % 65536=rk) (h2:row / 65536≠0) {b:Bool} {xs ys:List Cell} {us:List SL} {a:AV} (h:impPs m2 top rk lv sl ver e k xs=some (ys,us)) (ha:R1 ρ B m2 (b,xs) a) (hu:∀ u∈us,row / 65536=u.t.size) :
  ∃ a',imp1 m top row lv sl p k a=some (a',us.map fun u=>encL u.t u.l)∧Brought ρ B top m2 lv sl ver p us fun ρ' B' m'=>R1 ρ' B' m' (b,ys) a':=by
 cases b with
 |true=>
  obtain⟨as,rfl,ha⟩:=ha
  obtain⟨as',g1,g2⟩:=impPs_ok hm (p:=p) hr hrk h2 h ha hu
  exact⟨.agg as',by simp only[imp1,g1,Option.map_some],fun ρ' B' m' hf h4 h5 h6=>⟨as',rfl,g2 ρ' B' m' hf h4 h5 h6⟩⟩
 | false =>
  obtain⟨c,rfl,ha⟩:=ha
  simp only[impPs] at h
  split at h
  ·rename_i y u ys' us' h1 h3
   simp only[Option.some.injEq,Prod.mk.injEq] at h3
   obtain⟨rfl,rfl⟩:=h3
   simp only[Option.some.injEq,Prod.mk.injEq,List.append_nil] at h
   obtain⟨rfl,rfl⟩:=h
   obtain⟨a',g1,g2⟩:=impP1_ok hm (p:=p) hr hrk h2 h1 ha hu
   refine⟨a',?_,fun ρ' B' m' hf h4 h5 h6=>⟨y,rfl,g2 ρ' B' m' hf h4 h5 h6⟩⟩
   have hc:=RC.cell ha
   cases a<;>first|exact g1|cases hc.2.1
  ·cases h
theorem impPt_ok {top rk lv sl ver p:Nat} {e:Option Ty} (hr:row≠0) (hrk:row % 65536=rk) (h2:row / 65536≠0):∀ {k:Nat} {vs ws:List (Bool×List Cell)} {us:List SL} {as:List AV},impPr m2 top rk lv sl ver e k vs=some (ws,us)→All2 (R1 ρ B m2) vs as→(∀ u∈us,row / 65536=u.t.size)→
  ∃ as',impTup m top row lv sl p k as=some (as',us.map fun u=>encL u.t u.l)∧ws.length=vs.length∧Brought ρ B top m2 lv sl ver p us fun ρ' B' m'=>All2 (R1 ρ' B' m') ws as'
 |k,[],ws,us,as,h,ha,_=>by
  simp only[impPr,Option.some.injEq,Prod.mk.injEq] at h
  obtain⟨rfl,rfl⟩:=h
  match as,ha with
  |[],_=>exact⟨[],rfl,rfl,fun _ _ _ _ _ _ _=>trivial⟩
 | k, (b, x) :: xs, ws, us, as, h, ha, hu => by
  simp only[impPr] at h
  split at h
  ·rename_i y u ys' us' h1 h3
   simp only[Option.some.injEq,Prod.mk.injEq] at h
   obtain⟨rfl,rfl⟩:=h
   match as,ha with
   |a :: as,ha=>
    obtain⟨a',g1,g2⟩:=impP1s_ok hm (p:=p) hr hrk h2 h1 ha.1 fun v hv=>hu v (List.mem_append_left _ hv)
    obtain⟨as',g3,gl,g4⟩:=impPt_ok (p:=p) hr hrk h2 h3 ha.2 fun v hv=>hu v (List.mem_append_right _ hv)
    refine⟨a' :: as',by simp only[impTup,g1,g3,List.map_append],by rw[List.length_cons,List.length_cons,gl],fun ρ' B' m' hf h4 h5 h6=>⟨g2 ρ' B' m' hf.left h4 h5 h6,g4 ρ' B' m' hf.right h4 h5 h6⟩⟩
  ·cases h
theorem impPr_ok {top rk lv sl ver p:Nat} {e:Option Ty} (hr:row≠0) (hrk:row % 65536=rk) (h2:row / 65536≠0) {vs ws:List (Bool×List Cell)} {us:List SL} {w:V2} {as:List AV} (h:impPr m2 top rk lv sl ver e 1 vs=some (ws,us)) (ht:tup2 ws=some w) (ha:All2 (R1 ρ B m2) vs as) (hu:∀ u∈us,row / 65536=u.t.size) :
  ∃ a',impR m top row lv sl p (tupOf as)=some (a',us.map fun u=>encL u.t u.l)∧Brought ρ B top m2 lv sl ver p us fun ρ' B' m'=>RV ρ' B' m' w a':=by
 match vs,as,ha with
 |[],[],ha=>
  simp only[impPr,Option.some.injEq,Prod.mk.injEq] at h
  obtain⟨rfl,rfl⟩:=h
  simp only[tup2,Option.some.injEq] at ht;subst ht
  exact⟨.tup [],rfl,fun _ _ _ _ _ _ _=>⟨[],rfl,trivial⟩⟩
 | [(b, x)], [a], ha =>
  simp only[impPr] at h
  split at h
  ·rename_i y u ys' us' h1 h3
   simp only[Option.some.injEq,Prod.mk.injEq] at h3
   obtain⟨rfl,rfl⟩:=h3
   simp only[Option.some.injEq,Prod.mk.injEq,List.append_nil] at h
   obtain⟨rfl,rfl⟩:=h
   obtain⟨a',g1,g2⟩:=impP1s_ok hm (p:=p) hr hrk h2 h1 ha.1 hu
   refine⟨a',?_,fun ρ' B' m' hf h4 h5 h6=>?_⟩
   ·have hn := R1.notTup ha.1
    simp only[tupOf]
    cases a<;>first|exact g1|cases hn
   ·have g2 := g2 ρ' B' m' hf h4 h5 h6
    simp only[tup2] at ht
    cases b with
    |true=>
     obtain⟨as',rfl,g3⟩:=g2
     simp only[wrap2,Option.some.injEq] at ht;subst ht
     exact⟨as',rfl,g3⟩
    |false=>
     obtain⟨c,rfl,g3⟩:=g2
     simp only[wrap2,Option.some.injEq] at ht;subst ht
     exact g3
  ·cases h
 | v :: v' :: vs, a :: a' :: as, ha =>
  obtain⟨as',g1,gl,g2⟩:=impPt_ok hm (p:=p) hr hrk h2 h ha hu
  refine⟨.tup as',by simp only[tupOf,impR,g1,Option.map_some],fun ρ' B' m' hf h4 h5 h6=>?_⟩
  match ws,gl,ht with
  |x :: y :: zs,_,ht=>
   simp only[tup2,Option.some.injEq] at ht;subst ht
   exact⟨as',rfl,g2 ρ' B' m' hf h4 h5 h6⟩
end
theorem keysV_ok {B:Nat} {m:List (Tr E2)} : ∀ {vs:List V2} {as:List AV},All2 (RV ρ B m) vs as→KeysR ρ (vs.flatMap keyV) (as.flatMap keysIn)
 |[],[],_=>KeysR.nil
 |_ :: _,_ :: _,h=>by
  simp only[List.flatMap_cons]
  exact (keyV_ok h.1).append (keysV_ok h.2)
 |[],_ :: _,h=>h.elim
 |_ :: _,[],h=>h.elim
theorem boxK_ok (hi:RI ρ nx rem os s2 s p) {f:Nat} {c:Callee} {l:List CSh} {ps:List PSh} (hc:BoxOK Fs f c l ps) {vs:List V2} {as:List AV} (h:boxK s2 c l ps vs K=some r) (has:All2 (RV ρ nx s2.mem) vs as) :
  ∃ r2 e,(∃ n0,∀ n,n0≤n→doCall (runF Fs n) false 0 s (s.mem.length-1) d p f as=some e)∧ResOK ρ nx os s2 s r2 e∧K r2=some r:=by
 unfold boxK at h
 split at h
 ·rename_i lv sl ver i off rest
  match as,has with
  |a :: as,has=>
  split at h
  ·rename_i v cs hb he
   split at h
   ·rename_i hv
    have hv:=Nat.eq_of_beq_eq_true hv
    subst hv
    obtain⟨ds,hds,h⟩:=optK_some h
    obtain⟨es,hes,h⟩:=optK_some h
    obtain⟨x,hx,h⟩:=optK_some h
    obtain⟨y,hy,h⟩:=bind_some h
    split at h
    ·rename_i new ws hws
     obtain⟨w,hw,h⟩:=optK_some h
     obtain⟨⟨hlt,u,hu,rfl⟩,hrest⟩:=has
     obtain⟨e,g1,_,u',bs,g2,rfl,g3⟩:=hi.mem.ents _ _ _ he
     rw[hu] at g2;injection g2 with g2;subst g2
     obtain⟨bs0,cs0,g4,g5,g6⟩:=dtCs_ok hds g3
     obtain⟨as0,vs0,g7,g8,g9⟩:=dtPs_ok hes hrest
     obtain⟨cs1,r1,vs1,q1,q2,q3⟩:=hc x y hy
     rw[unpack_pack hx,g5 es] at q1
     injection q1 with q1;injection q1 with q1 q1';subst q1 q1'
     have g8:=g8 []
     rw[List.append_nil,q2] at g8
     injection g8 with g8;injection g8 with g8 _;subst g8
     obtain⟨n0,rv,cm,ts,nv,q4,q5⟩:=q3 bs0 as0 (g6 _ _ _) (g9 _ _ _)
     obtain⟨cs',ds',a',q6,q7,q8,q9,q10,q11⟩:=q5 new ws w hws hw
     have hst:Stab nx s2.mem (updM s2.mem [(lv,sl,some (.box v new))]):=stab_new (ks:=[]) (e:=.box _ _) trivial
     refine⟨_,.eff { val:=a',upd:=[(lv,sl,some (.box u ds'))],tip:=[],rd:=keyE lv sl :: as.flatMap keysIn },⟨n0,fun n hn=>?_⟩,?_,h⟩
     ·have hbox : boxAt s.mem lv sl u = some bs := by
       unfold boxAt
       rw[g1]
       simp only[beq_true.2 rfl]
      simp only[doCall,boxArgs,hb,doBox,hbox,g4,g7,q4 n hn,q6,q7,q9,q8,q10,Bool.and_self]
     ·exact .of_mem hi.mem hi.tips (B':=nx+1) (by omega) hst (updR_one ⟨by omega,u,_,hu,rfl,(q11 _ _ _).1⟩) (q11 _ _ _).2 (KeysR.consE lv sl (keysV_ok hrest))
    ·cases h
   ·cases h
  ·cases h
 ·cases h
theorem callK_ok (hwk : WkOK Fs wk) (hE : EnvOK Fs E) (hi : RI ρ nx rem os s2 s p) (hrem : 0 < rem) {f : Nat} {vs : List V2} {as : List AV} (h : callK E wk ctx s2 row d nx f vs K = some r) (has : All2 (RV ρ nx s2.mem) vs as) :
  ∃ r2 e,(∃ n0,∀ n,n0≤n→doCall (runF Fs n) (shF Fs f) row s (s.mem.length-1) d p f as=some e)∧ResOK ρ nx os s2 s r2 e∧K r2=some r:=by
 unfold callK at h
 split at h
 ·rename_i fn hf
  rw[hE.fns] at hf
  have hsh:shF Fs f=fn.sh:=by simp[shF,hf]
  split at h
  ·rename_i hfs
   rw[hfs] at hsh
   obtain⟨c,hc,h⟩:=optK_some h
   split at h
   ·rename_i l ps hbx
    split at h
    ·rename_i hrow
     rw[hsh,Nat.eq_of_beq_eq_true hrow]
     exact boxK_ok hi ((hE.cal f c hc).2 l ps hbx) h has
    ·cases h
   rename_i hbx
   obtain⟨⟨ds,ks,bs⟩,ha,h⟩:=optK_some h
   obtain⟨x,hx,h⟩:=optK_some h
   obtain⟨hb,h⟩:=chkAll_some h
   obtain⟨y,hy,h⟩:=bind_some h
   split at h
   ·rename_i ws hws
    obtain⟨as',vs',g1,g2,g3⟩:=args2_ok hi.mem ha has hb
    obtain⟨vs1,g4,g5⟩:=(hE.cal f c hc).1 hbx x y hy
    rw[unpack_pack hx] at g4
    have g2':=g2 []
    rw[List.append_nil,g4] at g2'
    injection g2' with g2';injection g2' with g2' _;subst g2'
    obtain⟨n0,rv,cm,ts,nv,g6,g7⟩:=g5 as' g3
    obtain⟨g7,g7'⟩:=g7 ws hws
    split at h
    ·rename_i hrow
     have hrow:=Nat.eq_of_beq_eq_true hrow
     obtain⟨w,hw,h⟩:=optK_some h
     obtain⟨a',g8,g9⟩:=g7 w hw (s.mem.length-1) d p
     refine⟨_,.eff { val:=a',upd:=frees s.mem ks++[],tip:=[],rd:=as.flatMap keysIn },⟨n0,fun n hn=>?_⟩,?_,h⟩
     ·rw [hsh, hrow]
      simp only[doCall,boxNone g1,g1,g6 n hn,g8,rowUpd]
     ·rw [List.append_nil]
      exact .of_mem hi.mem hi.tips (by omega) (stab_frees (ks:=ks)) updR_frees (g9 _ _ _) (keysV_ok has)
    ·split at h
     ·rename_i ws' u hq hp
      rw[Bool.and_eq_true,Bool.and_eq_true] at hq
      obtain⟨⟨hq1,hq2⟩,hq3⟩:=hq
      have hq1:=Nat.eq_of_beq_eq_true hq1
      have hq2:c.rk≠0:=by intro e;rw[e] at hq2;cases hq2
      have hq3:row / 65536≠0:=by intro e;rw[e] at hq3;cases hq3
      split at h
      ·rename_i hsz
       have hsz:=Nat.eq_of_beq_eq_true hsz
       obtain⟨w,hw,h⟩:=optK_some h
       obtain⟨a',g8,g9⟩:=g7' row (s2.mem.length-1) d nx p ws' [u] w hq2 hq1 hq3 hp (fun v hv=>by rw[List.mem_singleton.1 hv];exact hsz) hw
       rw[hi.mem.len] at g8
       refine⟨_,.eff { val:=a',upd:=frees s.mem ks++[(s.mem.length-1,d,some (.row p (encL u.t u.l)))],tip:=[],rd:=as.flatMap keysIn },⟨n0,fun n hn=>?_⟩,?_,h⟩
       ·rw [hsh]
        simp only[doCall,boxNone g1,g1,g6 n hn,g8,rowUpd,List.map_cons,List.map_nil]
       ·have hnx : ρ nx = some p := hi.pend 0 hrem
        rw[←hi.mem.len]
        refine .of_mem hi.mem hi.tips (B':=nx+1) (by omega) (stab_new (.inl (Nat.le_refl _))) (updR_frees.append (updR_one ⟨by omega,p,hnx,rfl⟩)) (g9 _ _ _ ⟨by omega,hnx,fun v hv r' hr'=>?_⟩) (keysV_ok has)
        rw[List.mem_singleton.1 hv]
        rw[updM_append] at hr'
        simp only[updM] at hr'
        have:=rowOf_some hr'
        rw[mget_mset] at this
        split at this
        ·injection this with this
         injection this with _ h1 h2
         obtain⟨t',l'⟩:=r'
         simp only at h1 h2
         subst h1
         cases h2
         rfl
        ·have h1 := rowOf_frees (rowOf_iff.2 this)
         obtain⟨e,_,hlt,_⟩:=hi.mem.ents _ _ _ (rowOf_some h1)
         omega
      ·cases h
     ·cases h
   ·cases h
  ·rename_i hfs
   rw[hfs] at hsh
   split at h
   ·cases h
   ·rename_i hnp
    rw[Bool.and_eq_true] at hnp
    obtain⟨hnp,hnt⟩:=hnp
    have hnt:=all_notTup hnt has
    let ρc:VMap:=fun v=>if v<nx then ρ v else some (s.nv+(v-nx))
    have hρc:∀ v,v<nx→ρc v = ρ v:=fun v hv=>if_pos hv
    have hle:nx≤s2.nv:=by have:=hi.nv;omega
    have start : SR' ρc (s.slots :: os) { slots := argSlots2 0 vs .lf, outer := loose s2.slots :: s2.outer, mem := s2.mem ++ [.lf], tips := s2.tips, nv := nx } { slots := argSlots 0 as .lf, mem := s.mem ++ [.lf], tips := s.tips, nv := s.nv } := by
     refine⟨?_,⟨?_,?_⟩,?_,?_,?_,Nat.le_refl _⟩
     ·exact argSlots_rel (has.mono fun _ _=>RV.move stab_snoc (Nat.le_refl _) hρc)
     ·exact fun k v hk=>(hi.slots k v (loose_get _ _ _ hk)).move stab_snoc (Nat.le_refl _) hρc
     ·exact all2_slr_mono stab_snoc (Nat.le_refl _) hρc hi.outer
     ·exact (hi.mem.ren hρc).snoc
     ·intro v hv
      obtain⟨h1,h2⟩:=hi.tips v hv
      exact⟨h1,fun u hu=>h2 u (by rw[←hρc v h1];exact hu)⟩
     ·refine ⟨fun v u hv hu => ?_, fun v hv => ?_, fun v v' u hu hu' => ?_⟩
      ·have hv : v < nx := hv
       rw[hρc v hv] at hu
       exact hi.ver.low v u (by omega) hu
      ·have hv : nx ≤ v := hv
       show ρc v=_
       simp only[ρc]
       rw[if_neg (by omega)]
      ·simp only [ρc] at hu hu'
       split at hu
       ·split at hu'
        ·exact hi.ver.inj v v' u hu hu'
        ·injection hu' with hu'
         have:=hi.ver.low v u (by omega) hu
         omega
       ·injection hu with hu
        split at hu'
        ·have := hi.ver.low v' u (by omega) hu'
         omega
        ·injection hu' with hu'
         omega
    have fin : ∀ (ax : AX) (t2 : S2) (ρ' : VMap) (t : St), (∀ id, ax ≠ .exit id) → Ev Fs fn.body { slots := argSlots 0 as .lf, mem := s.mem ++ [.lf], tips := s.tips, nv := s.nv } (ax, t) → SR' ρ' (s.slots :: os) t2 t → Fr ρc nx s.nv ρ' t2.nv → s.nv ≤ t.nv →
      (match t2.outer with
      | o :: os' => ressK t2 fn.res fun vs => match Nat.beq row 0 with
       |true=>optK (imp2r t2.mem s2.mem.length vs) fun vs=>optK (tup2 vs) fun v=>
        K (.all v { slots:=merge s2.slots o,outer:=os',mem:=t2.mem.take s2.mem.length,tips:=t2.tips,nv:=t2.nv })
       | false => match !Nat.beq (row % 65536) 0 && !Nat.beq (row / 65536) 0, impPr t2.mem s2.mem.length (row % 65536) (s2.mem.length - 1) d t2.nv (E.ety ctx d) 1 vs with
        | true, some (vs, [u]) => match Nat.beq (row / 65536) u.t.size with
         |true=>optK (tup2 vs) fun v=>
          K (.all v { slots:=merge s2.slots o,outer:=os',mem:=updM (t2.mem.take s2.mem.length) [(s2.mem.length-1,d,some (.row t2.nv u.t u.l))],tips:=t2.tips,nv:=t2.nv+1 })
         |false=>none
        |true,some (vs,[])=>optK (tup2 vs) fun v=>
         K (.all v { slots:=merge s2.slots o,outer:=os',mem:=t2.mem.take s2.mem.length,tips:=t2.tips,nv:=t2.nv+1 })
        |_,_=>none
      |[]=>none)=some r→∃ r2 e,(∃ n0,∀ n,n0≤n→doCall (runF Fs n) (shF Fs f) row s (s.mem.length-1) d p f as=some e)∧ResOK ρ nx os s2 s r2 e∧K r2=some r:=by
     intro ax t2 ρ' t hax hev hsr hfr hnv hk
     have hout:=hsr.outer
     split at hk
     ·rename_i o os' ho
      rw[ho] at hout
      obtain⟨vs1,as1,q1,q2,hk'⟩:=ressK_ok hsr.mem hsr.slots hk
      clear hk
      have hk:=hk'
      clear hk'
      obtain⟨n0,hev⟩:=hev
      have hrun:∀ n,n0+1≤n→runF Fs n f as (s.mem++[.lf]) s.tips s.nv=some (tupOf as1,t.mem,t.tips,t.nv):=by
       intro n hn
       obtain⟨n,rfl⟩:∃ k,n=k+1:=⟨n-1,by omega⟩
       simp only[runF,hf]
       rw[←has.length]
       simp only[hnp]
       have:=hev n n (by omega) (by omega)
       unfold shF at this
       rw[this]
       cases ax with
       |normal=>simp only[q1,Option.map_some]
       |ret=>simp only[q1,Option.map_some]
       |exit id=>exact absurd rfl (hax id)
      split at hk
      ·rename_i hrow
       have hrow:=Nat.eq_of_beq_eq_true hrow
       subst hrow
       obtain⟨vs2,q3,hk⟩:=optK_some hk
       obtain⟨v,q4,hk⟩:=optK_some hk
       obtain⟨a',q5,q6⟩:=impR_ok hsr.mem (lv:=s.mem.length-1) (sl:=d) (ver:=p) q3 q4 q2
       refine⟨_,.all a' (applyUpd (t.mem.take s.mem.length) []) t.tips t.nv,⟨n0+1,fun n hn=>?_⟩,?_,hk⟩
       ·rw [hsh]
        simp only[doCall,hnt,hrun n hn]
        rw[hi.mem.len] at q5
        rw[q5]
        simp only[rowUpd]
       ·refine ⟨ρ', ⟨?_, ?_, ?_, ?_, hsr.ver, Nat.le_refl _⟩, ?_, ?_, hnv⟩
        ·intro k v hk
         rcases merge_get _ _ _ _ hk with⟨h1,h2⟩|h1
         ·exact (hi.slots k v h1).still h2
         ·exact (hout.1 k v h1).move stab_take (Nat.le_refl _) fun _ _=>rfl
        ·exact all2_slr_mono stab_take (Nat.le_refl _) (fun _ _=>rfl) hout.2
        ·have := hsr.mem.take (k := s2.mem.length)
         rw[hi.mem.len] at this ⊢
         exact this
        ·exact hsr.tips
        ·exact q6
        ·intro v u hv hu
         rcases hfr v u hv hu with⟨w,hw,hwu⟩|h'
         ·exact .inl ⟨w,by omega,by rw[←hρc w hw];exact hwu⟩
         ·exact .inr h'
      ·rename_i hrow
       have hrow:row≠0:=beq_false.1 hrow
       split at hk
       ·rename_i vs2 u hq q3
        rw[Bool.and_eq_true] at hq
        have hq2:row / 65536≠0:=by intro e;rw[e] at hq;cases hq.2
        split at hk
        ·rename_i hsz
         have hsz:=Nat.eq_of_beq_eq_true hsz
         obtain⟨v,q4,hk⟩:=optK_some hk
         obtain⟨a',q5,q6⟩:=impPr_ok hsr.mem (p:=p) hrow rfl hq2 q3 q4 q2 (fun v hv=>by rw[List.mem_singleton.1 hv];exact hsz)
         have hnx : ρ nx=some p:=hi.pend 0 hrem
         have hps:p<s.nv:=by have:=hi.pn;omega
         let ρ'':VMap:=fun v=>if v<t2.nv then ρ' v else if v=t2.nv then some p else some (t.nv+(v-(t2.nv+1)))
         have e1:∀ v,v<t2.nv→ρ'' v = ρ' v:=fun v h=>if_pos h
         have e2 : ρ'' t2.nv=some p:=by
          show (if _ then _ else _)=_
          rw[if_neg (by omega),if_pos rfl]
         have e3:∀ v,t2.nv+1≤v→ρ'' v=some (t.nv+(v-(t2.nv+1))):=fun v h=>by
          show (if _ then _ else _)=_
          rw[if_neg (by omega),if_neg (by omega)]
         have fresh:∀ v,v<t2.nv→ρ' v≠some p:=by
          intro v hv hu
          rcases hfr v p hv hu with⟨w,hw,hwu⟩|h'
          ·rw [hρc w hw] at hwu
           have:=hi.ver.inj _ _ _ hwu hnx
           omega
          ·omega
         have hst:Stab t2.nv (t2.mem.take s2.mem.length) (updM (t2.mem.take s2.mem.length) [(s2.mem.length-1,d,some (.row t2.nv u.t u.l))])  := by
          have:=stab_new (B:=t2.nv) (m:=t2.mem.take s2.mem.length) (ks:=[]) (lv:=s2.mem.length-1) (sl:=d) (e:=.row t2.nv u.t u.l) (.inl (Nat.le_refl _))
          simpa only[frees2,List.map_nil,List.nil_append] using this
         have hmt:=(hsr.mem.take (k:=s2.mem.length)).ren e1
         have hmu:MR ρ'' (t2.nv+1) (updM (t2.mem.take s2.mem.length) [(s2.mem.length-1,d,some (.row t2.nv u.t u.l))]) (applyUpd (t.mem.take s2.mem.length) [(s2.mem.length-1,d,some (.row p (encL u.t u.l)))]):=
          hmt.upd (Nat.le_succ _) hst (updR_one ⟨by omega,p,e2,rfl⟩)
         refine⟨_,.all a' (applyUpd (t.mem.take s.mem.length) [(s.mem.length-1,d,some (.row p (encL u.t u.l)))]) t.tips t.nv,⟨n0+1,fun n hn=>?_⟩,?_,hk⟩
         ·rw [hsh]
          simp only[doCall,hnt,hrun n hn]
          rw[hi.mem.len] at q5
          rw[q5]
          simp only[List.map_cons,List.map_nil,rowUpd]
         ·refine ⟨ρ'', ⟨?_, ?_, ?_, ?_, ⟨?_, e3, ?_⟩, Nat.le_refl _⟩, ?_, ?_, hnv⟩
          ·intro k v hk
           rcases merge_get _ _ _ _ hk with⟨h1,h2⟩|h1
           ·exact (hi.slots k v h1).still h2
           ·exact (hout.1 k v h1).move (stab_take.trans hst) (Nat.le_succ _) e1
          ·exact all2_slr_mono (stab_take.trans hst) (Nat.le_succ _) e1 hout.2
          ·rw [← hi.mem.len]
           exact hmu
          ·intro v hv
           obtain⟨h1,h2⟩:=hsr.tips v hv
           exact⟨Nat.lt_succ_of_lt h1,fun u hu=>h2 u (by rw[←e1 v h1];exact hu)⟩
          ·intro v u' hv hu
           have hv:v<t2.nv+1:=hv
           show u'<t.nv
           rcases Nat.lt_or_ge v t2.nv with h1|h1
           ·rw [e1 v h1] at hu
            exact hsr.ver.low v u' h1 hu
           ·have : v = t2.nv := by omega
            subst this
            rw[e2] at hu
            injection hu with hu
            omega
          ·intro v v' u' hu hu'
           have hlow:∀ v,v<t2.nv→∀ u',ρ'' v=some u'→u'<t.nv∧u'≠p:=by
            intro v hv u' hu
            rw[e1 v hv] at hu
            exact⟨hsr.ver.low v u' hv hu,fun e=>fresh v hv (by rw[hu,e])⟩
           rcases Nat.lt_trichotomy v t2.nv with h1|h1|h1
           ·obtain ⟨l1, l2⟩ := hlow v h1 u' hu
            rcases Nat.lt_trichotomy v' t2.nv with h3|h3|h3
            ·rw [e1 v h1] at hu
             rw[e1 v' h3] at hu'
             exact hsr.ver.inj v v' u' hu hu'
            ·subst h3;rw[e2] at hu';injection hu' with hu';omega
            ·rw[e3 v' h3] at hu';injection hu' with hu';omega
           ·subst h1
            rw[e2] at hu;injection hu with hu
            rcases Nat.lt_trichotomy v' t2.nv with h3|h3|h3
            ·obtain⟨l1,l2⟩:=hlow v' h3 u' hu';omega
            ·exact h3.symm
            ·rw[e3 v' h3] at hu';injection hu' with hu';omega
           ·rw [e3 v h1] at hu; injection hu with hu
            rcases Nat.lt_trichotomy v' t2.nv with h3|h3|h3
            ·obtain⟨l1,l2⟩:=hlow v' h3 u' hu';omega
            ·subst h3;rw[e2] at hu';injection hu' with hu';omega
            ·rw[e3 v' h3] at hu';injection hu' with hu';omega
          ·refine q6 ρ'' (t2.nv + 1) _ ⟨by omega, e2, fun v hv r' hr' => ?_⟩ e1 (Nat.le_succ _) hst
           rw[List.mem_singleton.1 hv]
           simp only[updM] at hr'
           have:=rowOf_some hr'
           rw[mget_mset] at this
           split at this
           ·injection this with this
            injection this with _ h1 h2
            obtain⟨t',l'⟩:=r'
            simp only at h1 h2
            subst h1
            cases h2
            rfl
           ·obtain ⟨e, _, hlt, _⟩ := hmt.ents _ _ _ this
            omega
          ·intro v u' hv hu
           have hv:v<t2.nv+1:=hv
           rcases Nat.lt_or_ge v t2.nv with h1|h1
           ·rw [e1 v h1] at hu
            rcases hfr v u' h1 hu with⟨w,hw,hwu⟩|h'
            ·exact .inl ⟨w,by omega,by rw[←hρc w hw];exact hwu⟩
            ·exact .inr h'
           ·have : v = t2.nv := by omega
            subst this
            rw[e2] at hu
            exact .inl ⟨nx,by omega,by rw[hnx];exact hu⟩
        ·cases hk
       ·rename_i vs2 hq q3
        rw[Bool.and_eq_true] at hq
        have hq2:row / 65536≠0:=by intro e;rw[e] at hq;cases hq.2
        obtain⟨v,q4,hk⟩:=optK_some hk
        obtain⟨a',q5,q6⟩:=impPr_ok hsr.mem (p:=p) hrow rfl hq2 q3 q4 q2 (fun v hv=>(by cases hv))
        have hnx : ρ nx=some p:=hi.pend 0 hrem
        have hps:p<s.nv:=by have:=hi.pn;omega
        let ρ'':VMap:=fun v=>if v<t2.nv then ρ' v else if v=t2.nv then some p else some (t.nv+(v-(t2.nv+1)))
        have e1:∀ v,v<t2.nv→ρ'' v = ρ' v:=fun v h=>if_pos h
        have e2 : ρ'' t2.nv=some p:=by
         show (if _ then _ else _)=_
         rw[if_neg (by omega),if_pos rfl]
        have e3:∀ v,t2.nv+1≤v→ρ'' v=some (t.nv+(v-(t2.nv+1))):=fun v h=>by
         show (if _ then _ else _)=_
         rw[if_neg (by omega),if_neg (by omega)]
        have fresh:∀ v,v<t2.nv→ρ' v≠some p:=by
         intro v hv hu
         rcases hfr v p hv hu with⟨w,hw,hwu⟩|h'
         ·rw [hρc w hw] at hwu
          have:=hi.ver.inj _ _ _ hwu hnx
          omega
         ·omega
        have hst:Stab t2.nv (t2.mem.take s2.mem.length) (t2.mem.take s2.mem.length):=Stab.refl _ _
        have hmt:=(hsr.mem.take (k:=s2.mem.length)).ren e1
        have hmu:MR ρ'' (t2.nv+1) (t2.mem.take s2.mem.length) (t.mem.take s2.mem.length):=hmt.mono (Nat.le_succ _)
        refine⟨_,.all a' (applyUpd (t.mem.take s.mem.length) []) t.tips t.nv,⟨n0+1,fun n hn=>?_⟩,?_,hk⟩
        ·rw [hsh]
         simp only[doCall,hnt,hrun n hn]
         rw[hi.mem.len] at q5
         rw[q5]
         simp only[List.map_nil,rowUpd]
        ·refine ⟨ρ'', ⟨?_, ?_, ?_, ?_, ⟨?_, e3, ?_⟩, Nat.le_refl _⟩, ?_, ?_, hnv⟩
         ·intro k v hk
          rcases merge_get _ _ _ _ hk with⟨h1,h2⟩|h1
          ·exact (hi.slots k v h1).still h2
          ·exact (hout.1 k v h1).move (stab_take.trans hst) (Nat.le_succ _) e1
         ·exact all2_slr_mono (stab_take.trans hst) (Nat.le_succ _) e1 hout.2
         ·rw [← hi.mem.len]
          exact hmu
         ·intro v hv
          obtain⟨h1,h2⟩:=hsr.tips v hv
          exact⟨Nat.lt_succ_of_lt h1,fun u hu=>h2 u (by rw[←e1 v h1];exact hu)⟩
         ·intro v u' hv hu
          have hv:v<t2.nv+1:=hv
          show u'<t.nv
          rcases Nat.lt_or_ge v t2.nv with h1|h1
          ·rw [e1 v h1] at hu
           exact hsr.ver.low v u' h1 hu
          ·have : v = t2.nv := by omega
           subst this
           rw[e2] at hu
           injection hu with hu
           omega
         ·intro v v' u' hu hu'
          have hlow:∀ v,v<t2.nv→∀ u',ρ'' v=some u'→u'<t.nv∧u'≠p:=by
           intro v hv u' hu
           rw[e1 v hv] at hu
           exact⟨hsr.ver.low v u' hv hu,fun e=>fresh v hv (by rw[hu,e])⟩
          rcases Nat.lt_trichotomy v t2.nv with h1|h1|h1
          ·obtain ⟨l1, l2⟩ := hlow v h1 u' hu
           rcases Nat.lt_trichotomy v' t2.nv with h3|h3|h3
           ·rw [e1 v h1] at hu
            rw[e1 v' h3] at hu'
            exact hsr.ver.inj v v' u' hu hu'
           ·subst h3;rw[e2] at hu';injection hu' with hu';omega
           ·rw[e3 v' h3] at hu';injection hu' with hu';omega
          ·subst h1
           rw[e2] at hu;injection hu with hu
           rcases Nat.lt_trichotomy v' t2.nv with h3|h3|h3
           ·obtain⟨l1,l2⟩:=hlow v' h3 u' hu';omega
           ·exact h3.symm
           ·rw[e3 v' h3] at hu';injection hu' with hu';omega
          ·rw [e3 v h1] at hu; injection hu with hu
           rcases Nat.lt_trichotomy v' t2.nv with h3|h3|h3
           ·obtain⟨l1,l2⟩:=hlow v' h3 u' hu';omega
           ·subst h3;rw[e2] at hu';injection hu' with hu';omega
           ·rw[e3 v' h3] at hu';injection hu' with hu';omega
         ·exact q6 ρ'' (t2.nv+1) _ ⟨by omega,e2,fun v hv=>(by cases hv)⟩ e1 (Nat.le_succ _) hst
         ·intro v u' hv hu
          have hv:v<t2.nv+1:=hv
          rcases Nat.lt_or_ge v t2.nv with h1|h1
          ·rw [e1 v h1] at hu
           rcases hfr v u' h1 hu with⟨w,hw,hwu⟩|h'
           ·exact .inl ⟨w,by omega,by rw[←hρc w hw];exact hwu⟩
           ·exact .inr h'
          ·have : v = t2.nv := by omega
           subst this
           rw[e2] at hu
           exact .inl ⟨nx,by omega,by rw[hnx];exact hu⟩
       ·cases hk
     ·cases hk
    dsimp only at h
    split at h
    ·obtain ⟨ax, t2, ρ', t, g1, g2, g3, g4, g5⟩ := hwk _ _ _ _ _ _ _ h _ _ _ start
     cases ax with
     |exit id=>cases g5
     |normal=>exact fin .normal t2 ρ' t (fun _ h=>by cases h) g1 g2 g3 g4 g5
     |ret=>exact fin .ret t2 ρ' t (fun _ h=>by cases h) g1 g2 g3 g4 g5
    ·rename_i outs ho
     obtain⟨y,hy,h⟩:=bind_some h
     obtain⟨ax,t2,ρ',t,g1,g2,g3,g4,g5⟩:=hwk _ _ _ _ _ _ _ hy _ _ _ start
     have hax:∀ id,ax≠.exit id:=by
      intro id e
      subst e
      cases g5
     have g5:outsG outs .ret t2=some y:=by
      cases ax with
      |exit id=>cases g5
      |normal=>exact g5
      |ret=>exact g5
     obtain⟨t3,ρ'',g6,g7,g8⟩:=outs_ok g2 g5
     rw[g8] at h
     exact fin ax t3 ρ'' t hax g1 g6 (g3.trans g7 g4) g4 h
 ·cases h
theorem flat_cells {ρ : VMap} {B:Nat} {m:List (Tr E2)} : ∀ {l:List CSh} {d d':List Dyn} {cs:List Cell} {as:List AV},l.all CSh.flat=true→fillCs l d=some (cs,d')→All2 (RC ρ B m) cs as→as.all flatC=true
 |[],_,_,_,as,_,h,ha=>by
  simp only[fillCs,Option.some.injEq,Prod.mk.injEq] at h
  obtain⟨rfl,rfl⟩:=h
  match as,ha with
  |[],_=>rfl
 | c :: l, d, d', cs, as, hl, h, ha => by
  rw[List.all_cons,Bool.and_eq_true] at hl
  simp only[fillCs] at h
  split at h
  ·rename_i x r' h1
   split at h
   ·rename_i xs r'' h2
    simp only[Option.some.injEq,Prod.mk.injEq] at h
    obtain⟨rfl,rfl⟩:=h
    match as,ha with
    | a :: as, ha =>
     have hx:flatC a=true:=by
      have hf:=hl.1
      unfold CSh.fill at h1
      split at h1<;>first|(simp only[Option.some.injEq,Prod.mk.injEq] at h1;obtain⟨rfl,rfl⟩:=h1;first|(cases ha.1;rfl)|cases hf)|cases h1
     rw[List.all_cons,hx,flat_cells hl.2 h2 ha.2]
     rfl
   ·cases h
  ·cases h
theorem flat_R1 {ρ : VMap} {B:Nat} {m:List (Tr E2)} {b:Bool} {l:List CSh} {d d':List Dyn} {cs:List Cell} {a:AV} (hl:l.all CSh.flat=true) (h:fillCs l d=some (cs,d')) (ha:R1 ρ B m (b,cs) a):flat1 a=true:=by
 cases b with
 |true=>obtain⟨as,rfl,ha⟩:=ha;exact flat_cells hl h ha
 |false=>
  obtain⟨c,rfl,ha⟩:=ha
  have:=flat_cells (as:=[a]) hl h ⟨ha,trivial⟩
  rw[List.all_cons,List.all_nil,Bool.and_true] at this
  cases a<;>first|exact this|cases this
theorem flat_rest {ρ : VMap} {B:Nat} {m:List (Tr E2)} : ∀ {res:List (Bool×List CSh)} {d d':List Dyn} {ws:List (Bool×List Cell)} {as:List AV},flatRes res=true→fillR res d=some (ws,d')→All2 (R1 ρ B m) ws as→as.all flat1=true
 |[],_,_,_,as,_,h,ha=>by
  simp only[fillR,Option.some.injEq,Prod.mk.injEq] at h
  obtain⟨rfl,rfl⟩:=h
  match as,ha with
  |[],_=>rfl
 | (b, l) :: res, d, d', ws, as, hl, h, ha => by
  unfold flatRes at hl
  rw[List.all_cons,Bool.and_eq_true] at hl
  simp only[fillR] at h
  split at h
  ·rename_i x r' h1
   split at h
   ·rename_i xs r'' h2
    simp only[Option.some.injEq,Prod.mk.injEq] at h
    obtain⟨rfl,rfl⟩:=h
    match as,ha with
    |a :: as,ha=>
     rw[List.all_cons,flat_R1 hl.1 h1 ha.1,flat_rest (res:=res) hl.2 h2 ha.2]
     rfl
   ·cases h
  ·cases h
theorem flat_res {ρ : VMap} {B:Nat} {m:List (Tr E2)} {res:List (Bool×List CSh)} {d d':List Dyn} {ws:List (Bool×List Cell)} {w:V2} {a:AV} (hl:flatRes res=true) (h:fillR res d=some (ws,d')) (ht:tup2 ws=some w) (ha:RV ρ B m w a):flatR a=true:=by
 unfold tup2 at ht
 split at ht
 ·rename_i b cs
  have hr:R1 ρ B m (b,cs) a:=by
   cases b with
   |true=>simp only[wrap2,Option.some.injEq] at ht;subst ht;exact ha
   |false=>
    match cs,ht with
    |[c],ht=>simp only[wrap2,Option.some.injEq] at ht;subst ht;exact⟨c,rfl,ha⟩
  have:=flat_rest (as:=[a]) hl h ⟨hr,trivial⟩
  rw[List.all_cons,List.all_nil,Bool.and_true] at this
  cases a<;>first|exact this|cases this
 ·injection ht with ht; subst ht
  obtain⟨as,rfl,ha⟩:=ha
  exact flat_rest hl h ha
theorem callFK_ok (hE:EnvOK Fs E) (hi:RI ρ nx rem os s2 s p) {f:Nat} {vs:List V2} {as:List AV} (h:callFK E s2 f vs K=some r) (has:All2 (RV ρ nx s2.mem) vs as) :
  ∃ r2 e,(∃ n0,∀ n,n0≤n→doFlat (runF Fs n) s f as=some e)∧ResOK ρ nx os s2 s r2 e∧K r2=some r:=by
 unfold callFK at h
 obtain⟨c,hc,h⟩:=optK_some h
 split at h
 ·rename_i hfl
  obtain⟨⟨ds,bs⟩,ha,h⟩:=optK_some h
  obtain⟨x,hx,h⟩:=optK_some h
  obtain⟨hb,h⟩:=chkAll_some h
  obtain⟨y,hy,h⟩:=bind_some h
  split at h
  ·rename_i ws hws
   obtain⟨w,hw,h⟩:=optK_some h
   obtain⟨as',vs',g1,gk,g2,g3⟩:=argsF2_ok hi.mem ha has hb
   rw[Bool.and_eq_true] at hfl
   obtain⟨hfl,hbx⟩:=hfl
   obtain⟨vs1,g4,g5⟩:=(hE.cal f c hc).1 (by simpa using hbx) x y hy
   rw[unpack_pack hx] at g4
   have g2':=g2 []
   rw[List.append_nil,g4] at g2'
   injection g2' with g2';injection g2' with g2' _;subst g2'
   obtain⟨n0,rv,cm,ts,nv,g6,g7⟩:=g5 as' g3
   obtain⟨a',g8,g9⟩:=(g7 ws hws).1 w hw 0 0 0
   have hfa:=flat_res hfl hws hw (g9 ρ0 0 [])
   refine⟨_,.eff { val:=a',upd:=[],tip:=[],rd:=as.flatMap (keyF s.mem) },⟨n0,fun n hn=>?_⟩,?_,h⟩
   ·simp only[doFlat,g1,g6 n hn,g8,hfa]
   ·exact .of_val hi.mem hi.tips (by omega) (g9 _ _ _) gk
  ·cases h
 ·cases h
end
end Go.Sym
