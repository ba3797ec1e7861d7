/- A part of the proof: EngZA, EngTop, EngMono, EngTb. -/
import Derived.Test.YtokjmkblnafppaaGreatDoorEngZ
import Derived.Test.YtokjmkblnafppaaGreatDoorEngA
set_option linter.unusedVariables false
set_option linter.unusedSimpArgs false
namespace Go.bI
open Go Go.RowKit
section
variable {P:Program} {X:Cx} {nt:Nat} {s:St} {a:Act}
def J0 (a:Act):ResultVar→Sem Value
 |.tmp t=>pure (a.tmps.getD t undef)
 |.cell c t=>do loadVar t (←asAddr (a.tmps.getD c undef))
theorem Rt (hs:eL X nt s a) {rv:ResultVar} {ar:yT} {v:AV} (hp:QX P rv=some ar) (hr:De s ar=some v) :
  ∃ u,(J0 a rv).run P X.w=.ok u X.w∧V1 X v u:=by
 cases rv with
 | tmp t =>
  simp only[QX,Option.some.injEq] at hp
  subst hp
  simp only[De] at hr
  split at hr
  ·rename_i hn
   injection hr with hr;subst hr
   exact⟨_,rfl,V1.Cb hn (hs.slots t)⟩
  ·cases hr
 | cell c t =>
  simp only[QX] at hp
  split at hp
  ·rename_i sz agg hsz hag
   split at hp
   ·rename_i h1
    injection hp with hp;subst hp
    simp only[De] at hr
    obtain⟨cs,hcs,hw⟩:=aT hr
    obtain⟨b,off,vs,hv,hc,h2,hlen⟩:=EL hs.mem (hs.slots c) hcs
    obtain⟨u,hrun,hV⟩:=zd (P:=P) hsz hag h1 hc h2 hlen hw
    exact⟨u,by simp only[J0,hv];simp[asAddr,hrun],hV⟩
   ·cases hp
  ·cases hp
theorem Cn (hs:eL X nt s a):∀ {l:List ResultVar} {rs:List yT} {vs:List AV},EK P l=some rs→j6 s rs=some vs→
  ∃ us,(l.mapM (J0 a)).run P X.w=.ok us X.w∧az (V1 X) vs us
 |[],rs,vs,hp,hr=>by
  simp only[EK,Option.some.injEq] at hp
  subst hp
  simp only[j6,Option.some.injEq] at hr
  subst hr
  exact⟨[],rfl,trivial⟩
 | rv :: r, rs, vs, hp, hr => by
  simp only[EK] at hp
  split at hp
  ·rename_i y ys h1 h2
   injection hp with hp;subst hp
   simp only[j6] at hr
   split at hr
   ·rename_i v vs' h3 h4
    injection hr with hr;subst hr
    obtain⟨u,g1,g2⟩:=Rt hs h1 h3
    obtain⟨us,g3,g4⟩:=Cn hs h2 h4
    refine⟨u :: us,?_,g2,g4⟩
    rw[List.mapM_cons]
    simp[g1,g3]
   ·cases hr
  ·cases hp
theorem oG:∀ (l:List AV) (i:Nat) (t:Tr AV) (k:Nat),jC (dN i l t) k=if h:i≤k∧k<i+l.length then l[k-i]'(by omega) else jC t k
 |[],i,t,k=>by rw[dif_neg (by simp)];rfl
 | x :: r, i, t, k => by
  rw[dN,oG r (i+1)]
  by_cases h1:i+1≤k∧k<i+1+r.length
  ·rw [dif_pos h1, dif_pos (by simp; omega)]
   have:k-i=(k-(i+1))+1:=by omega
   simp only[this,List.getElem_cons_succ]
  ·rw [dif_neg h1]
   by_cases h2:k=i
   ·subst h2
    rw[dif_pos (by simp)]
    simp[jC,Tr.cr]
   ·rw [dif_neg (by simp; omega)]
    unfold jC
    rw[Tr.cr,if_neg (Ne.symm h2)]
theorem Ru {args:List AV} {bQ:Array Value} (h:az (V1 X) args bQ.toList) (n:Nat) (t:Nat):VR X (jC (dN 0 args .lf) t) ((bQ++Array.replicate n undef).getD t undef):=by
 rw[oG]
 have hl:=h.length
 simp only[Array.length_toList] at hl
 by_cases ht:0≤t∧t<0+args.length
 ·rw [dif_pos ht]
  obtain⟨b,hb,hr⟩:=h.get t args[t] (List.getElem?_eq_getElem (by omega))
  have:(bQ++Array.replicate n undef).getD t undef=b:=by
   rw[Array.getD_eq_getD_getElem?,Array.getElem?_append_left (by omega)]
   rw[Array.getElem?_toList] at hb
   rw[hb];rfl
  rw[this]
  exact .tH hr
 ·rw [dif_neg ht]
  have:(bQ++Array.replicate n undef).getD t undef=undef:=by
   rw[Array.getD_eq_getD_getElem?,Array.getElem?_append_right (by omega),Array.getElem?_replicate]
   split<;>rfl
  rw[this]
  exact l8
theorem Vi {vs:List AV} {us:List Value} (h:az (V1 X) vs us):VR X (gU vs) (if h:us.toArray.size=1 then us.toArray[0] else .tuple us.toArray):=by
 match vs,us,h with
 |[],[],_=>exact⟨#[],rfl,trivial⟩
 |[v],[u],h=>exact .tH h.1
 |v :: w :: r,u :: x :: q,h=>exact⟨(u :: x :: q).toArray,by simp,h⟩
def NF (call:Go.bI.Call) (Fs:Nat→Option cV) (n:Nat):Go.bI.Call:=fun f args mem aE nv=>match Fs f with
 |none=>none
 | some fn => match Nat.beq args.length fn.np with
  |false=>none
  |true=>match exec call (fun g=>((Fs g).map (·.sh)).getD false) n fn.body { slots:=dN 0 args .lf,mem,aE,nv } with
   |some (.normal,s)|some (.ret,s)=>(j6 s fn.res).map fun vs=>(gU vs,s.mem,s.aE,s.nv)
   |_=>none
theorem Fv {call : Go.bI.Call} (cE : cF P call) {bq : Nat → Option TypeId} {md : Nat → Mode} {Fs : Nat → Option cV} (hm : P.follows .mixedOrders = true) (jf : ∀ f T, bq f = some T → j3 P f T) (Lw : ∀ f fn, Fs f = some fn → bL P bq md f = some fn) (n : Nat) : cF P (NF call Fs n) := by
  intro f args mem aE nv r mem' pE JR h X bQ hmem hdom hargs
  simp only[NF] at h
  split at h
  ·cases h
  ·rename_i fn hfn
   split at h
   ·cases h
   ·rename_i hnp
    have hnp:=Nat.eq_of_beq_eq_true hnp
    have hf:=Lw f fn hfn
    unfold bL at hf
    split at hf
    ·cases hf
    ·rename_i pf hpf
     split at hf
     ·cases hf
     ·rename_i c hbody
      split at hf
      ·cases hf
      ·rename_i hname
       split at hf
       ·rename_i b rs hc hrs
        simp only at hf
        split at hf
        ·rename_i hle
         injection hf with hf
         subst hf
         refine⟨⟨pf,hpf,by rw[hbody];rfl,by simpa using hname⟩,?_⟩
         have hlen:=hargs.length
         simp only[Array.length_toList] at hlen
         simp only at hnp h
         have start:eL X pf.ntmps { slots:=dN 0 args .lf,mem,aE,nv } { tmps:=bQ++Array.replicate (pf.ntmps-bQ.size) undef,defers:=[] }:=
          ⟨fun t=>Ru hargs _ t,by simp;omega,rfl,hmem⟩
         have fin:∀ (x:AX) (s:St),(j6 s rs).map (fun vs=>(gU vs,s.mem,s.aE,s.nv))=some (r,mem',pE,JR)→∀ (Y:Cx) (a':Act),Ext X Y→eL Y pf.ntmps s a'→nv≤s.nv→(∀ v L,Y.ρ v=some L→X.ρ v=some L∨(nv≤v∧v<s.nv))→
           a'.defers=[]∧∃ v,(results pf a'.tmps).run P Y.w=.ok v Y.w∧∃ Z u,Ending.returned v=.returned u∧Z.w=Y.w∧Ext X Z∧VR Z r u∧aB Z mem' pE∧nv≤JR∧∀ u L,Z.ρ u=some L→X.ρ u=some L∨(nv≤u∧u<JR):=by
          intro x s hres Y a' hx hs' hn hd
          obtain⟨vs,hvs,he⟩:=aM hres
          simp only[Prod.mk.injEq] at he
          obtain⟨rfl,rfl,rfl,rfl⟩:=he
          obtain⟨us,g1,g2⟩:=Cn hs' hrs hvs
          refine⟨hs'.defers,_,?_,Y,_,rfl,rfl,hx,Vi g2,hs'.mem,hn,hd⟩
          have e:results pf a'.tmps=(do
            let vs ←pf.results.mapM (J0 a')
            pure (if h:vs.size=1 then vs[0] else .tuple vs)):=by
           unfold results
           congr 1
          rw[e,←Array.toArray_toList (xs:=pf.results),List.mapM_toArray]
          simp[g1]
         split at h
         ·rename_i s he
          refine calls_of_wp hpf hbody ((JZ hm cE jf n).1 c b X _ _ (.normal,s) _ hc he start hdom fun Y a' hx hs' hn hd=>?_)
          exact fin .normal s h Y a' hx hs' hn hd
         ·rename_i s he
          refine calls_of_wp hpf hbody ((JZ hm cE jf n).1 c b X _ _ (.ret,s) _ hc he start hdom fun Y a' hx hs' hn hd=>?_)
          exact fin .ret s h Y a' hx hs' hn hd
         ·cases h
        ·cases hf
       ·cases hf
theorem J1 {bq:Nat→Option TypeId} {md:Nat→Mode} {Fs:Nat→Option cV} (hm:P.follows .mixedOrders=true) (jf:∀ f T,bq f=some T→j3 P f T) (Lw:∀ f fn,Fs f=some fn→bL P bq md f=some fn):∀ n,cF P (QV Fs n)
 |0=>fun _ _ _ _ _ _ _ _ _ h=>by simp[QV] at h
 |n+1=>Fv (J1 hm jf Lw n) hm jf Lw n
end
end Go.bI
namespace Go.bI
open Go Go.RowKit
def cx0 (w:World):Cx:={ w,F:=fun _ _=>False,ρ:=fun _=>none,old:=fun b=>b<w.heap.size }
theorem Rv (w:World) (hg:(∀ b,vl b→b<w.heap.size)∧JI w) (m:List (Tr bH)) (hm:∀ lv sl,aN m lv sl=none):aB (cx0 w) m .lf where
 ec lv sl e he:=by rw[hm] at he;cases he
 aE v hv:=by simp at hv
 apart k k' v v' L L' a b:=by
  rcases a with⟨_,_,_,_,he,_⟩|⟨_,he⟩
  ·rw[hm] at he;cases he
  ·simp at he
 mI b o h:=h.elim
 oq:=⟨fun _ h=>h,hg.1,hg.2⟩
theorem vw (lv sl:Nat):aN [.lf] lv sl=none:=by
 unfold aN
 cases lv<;>simp
theorem Vj {P:Program} {bq:Nat→Option TypeId} {md:Nat→Mode} {Fs:Nat→Option cV} {n f:Nat} (hm:P.follows .mixedOrders=true) (jf:∀ f T,bq f=some T→j3 P f T) (Lw:∀ f fn,Fs f=some fn→bL P bq md f=some fn)
  (h:(QV Fs n f [] [.lf] .lf 0).map (·.1)=some (.d (.sc (.bool true)))) (w:World) (hg:(∀ b,vl b→b<w.heap.size)∧JI w):Calls P f #[] w fun e w'=>e=.returned (.bool true)∧Below w.heap.size w w':=by
 obtain⟨⟨r,m,t,v⟩,hr,he⟩:=aM h
 obtain⟨_,hc⟩:=J1 hm jf Lw n f [] [.lf] .lf 0 r m t v hr (cx0 w) #[] (Rv w hg _ vw) (fun _ _=>rfl) trivial
 refine hc.mono ?_
 rintro e w' ⟨Y,u,rfl,rfl,hx,hv,_⟩
 dsimp only at he
 subst he
 cases hv
 exact⟨rfl,hx.below.toBelow⟩
def wZ:List (Nat×cV)→Nat→Option cV
 |[],_=>none
 |(g,fn) :: r,f=>match Nat.beq g f with
  |true=>some fn
  |false=>wZ r f
inductive uu (P:Program) (bq:Nat→Option TypeId) (md:Nat→Mode):List (Nat×cV)→Prop where
 |nil:uu P bq md []
 |cons {g:Nat} {fn:cV} {r:List (Nat×cV)} : bL P bq md g=some fn→uu P bq md r→uu P bq md ((g,fn) :: r)
theorem Fw {P:Program} {bq:Nat→Option TypeId} {md:Nat→Mode} {l:List (Nat×cV)} (h:uu P bq md l):∀ f fn,wZ l f=some fn→bL P bq md f=some fn:=by
 induction h with
 |nil=>intro f fn h;cases h
 | @cons g fn' r h1 _ ih =>
  intro f fn h
  simp only[wZ] at h
  split at h
  ·rename_i hb
   have e:=Nat.eq_of_beq_eq_true hb
   subst e
   injection h with h;subst h
   exact h1
  ·exact ih f fn h
end Go.bI
namespace Go.bI
open Go
def j9 (a b:Call):Prop:=∀ f x m t n r,a f x m t n=some r→b f x m t n=some r
variable {call call':Call} {sh:Nat→Bool}
theorem Il (hc:j9 call call') {s:St} {f lb sb vb:Nat} {args:List AV} {r:fW} (h:pT call s f lb sb vb args=some r):pT call' s f lb sb vb args=some r:=by
 unfold pT at h ⊢
 split at h
 ·cases h
 split at h
 ·split at h
  ·cases h
  ·rename_i he
   rw[hc _ _ _ _ _ _ he]
   exact h
 ·cases h
theorem ql (hc:j9 call call') {b:Bool} {row:Nat} {s:St} {lv sl aR f:Nat} {args:List AV} {r:fW} (h:fe call b row s lv sl aR f args=some r):fe call' b row s lv sl aR f args=some r:=by
 unfold fe at h ⊢
 cases b with
 | false =>
  simp only at h ⊢
  cases hba:mM args with
  |some x=>
   obtain⟨lb,sb,vb,rest⟩:=x
   rw[hba] at h
   exact Il hc h
  |none=>
  rw[hba] at h
  simp only at h ⊢
  split at h
  ·cases h
  ·rename_i aK ks hl
   split at h
   ·cases h
   ·rename_i r' cm ts n he
    rw[hc _ _ _ _ _ _ he]
    exact h
 | true =>
  simp only at h ⊢
  split at h
  ·cases h
  ·split at h
   ·cases h
   ·rename_i r' cm ts n he
    rw[hc _ _ _ _ _ _ he]
    exact h
theorem w8 (hc:j9 call call') {s:St} {f:Nat} {args:List AV} {r:fW} (h:jJ call s f args=some r):jJ call' s f args=some r:=by
 unfold jJ at h ⊢
 split at h
 ·cases h
 ·rename_i aK ha
  split at h
  ·cases h
  ·rename_i r' cm ts n he
   rw[hc _ _ _ _ _ _ he]
   exact h
theorem Fy (hc:j9 call call') {s:St} {f:Nat} {args:List AV} {r:fW} (h:og call s f args=some r):og call' s f args=some r:=by
 unfold og at h ⊢
 split at h
 ·cases h
 ·split at h
  ·cases h
  ·rename_i r' cm ts n he
   rw[hc _ _ _ _ _ _ he]
   exact h
theorem Fz (hc:j9 call call') {s:St} {aR f:Nat} {args:List AV} {r:fW} (h:l5 call s aR f args=some r):l5 call' s aR f args=some r:=by
 unfold l5 at h ⊢
 split at h
 ·cases h
 ·split at h
  ·cases h
  ·rename_i r' cm ts n he
   rw[hc _ _ _ _ _ _ he]
   exact h
theorem FA (hc:j9 call call') {s:St} {aR f:Nat} {args:List AV} {r:fW} (h:oe call s aR f args=some r):oe call' s aR f args=some r:=by
 unfold oe at h ⊢
 split at h
 ·cases h
 ·split at h
  ·cases h
  ·rename_i r' cm ts n he
   rw[hc _ _ _ _ _ _ he]
   exact h
theorem NG (hc:j9 call call') {s:St} {row dst aR:Nat} {o:bM} {r:fW} (h:o.run call sh s row dst aR=some r):o.run call' sh s row dst aR=some r:=by
 cases o with
 | call f args =>
  simp only[bM.run] at h ⊢
  split at h
  ·exact w8 hc h
  ·split at h
   ·exact Fy hc h
   ·split at h
    ·exact Fz hc h
    split at h
    ·exact FA hc h
    ·exact ql hc h
 |tB f args=>
  simp only[bM.run] at h ⊢
  split at h
  ·exact ql hc h
  ·exact w8 hc h
 |yS x args=>
  simp only[bM.run] at h ⊢
  split at h
  ·exact ql hc h
  ·cases h
 |_=>exact h
theorem Co (hc:j9 call call') {s:St} {aR:Nat} {o:bA} {r:fW} (h:o.step call sh s aR=some r):o.step call' sh s aR=some r:=by
 unfold bA.step at h ⊢
 split at h
 ·cases h
 ·exact NG hc h
 ·exact h
theorem w9 (hc:j9 call call') {lg:Nat} : ∀ {l:List bA} {i:Nat} {s r:St},jK call sh lg i l s=some r→jK call' sh lg i l s=some r
 |[],_,_,_,h=>h
 | o :: l, i, s, r, h => by
  unfold jK at h ⊢
  split at h
  ·cases h
  ·rename_i e he
   rw[Co hc he]
   exact w9 hc h
theorem xb (hc:j9 call call') {lg:Nat} : ∀ {l:List bA} {i:Nat} {p:List (Nat×fW)} {s r:St},jL call sh lg i l p s=some r→jL call' sh lg i l p s=some r
 |[],_,_,_,_,h=>h
 | o :: l, i, p, s, r, h => by
  unfold jL at h ⊢
  split at h
  ·cases h
  ·rename_i e he
   rw[Co hc he]
   simp only
   split at h
   ·exact xb hc h
   ·cases h
theorem zR (hc:j9 call call') {l:List bA} {d:Bool} {s r:St} (h:fk call sh l d s=some r):fk call' sh l d s=some r:=by
 unfold fk at h ⊢
 cases d with
 |false=>exact w9 hc h
 |true=>exact xb hc h
theorem uv (hc:j9 call call'):∀ (n m:Nat) (c:AC) (s:St) (r:AX×St),n≤m→exec call sh n c s=some r→exec call' sh m c s=some r
 |0,_,_,_,_,_,h=>by cases h
 |n+1,0,_,_,_,hn,_=>by omega
 | n + 1, m + 1, c, s, r, hn, h => by
  have ih:=uv hc n m
  have hn:n≤m:=by omega
  unfold exec at h ⊢
  cases c with
  |skip=>exact h
  |region ops d=>
   simp only at h ⊢
   cases hr:fk call sh ops d s with
   |none=>rw[hr] at h;cases h
   |some s'=>rw[hr] at h;rw[zR hc hr];exact h
  | seq a b =>
   simp only at h ⊢
   cases ha:exec call sh n a s with
   |none=>rw[ha] at h;cases h
   |some x=>
    rw[ha] at h
    rw[ih a s x hn ha]
    obtain⟨ax,s'⟩:=x
    cases ax with
    |normal=>exact ih b s' r hn h
    |exit id=>exact h
    |ret=>exact h
  |cond c a b=>
   simp only at h ⊢
   split at h
   ·exact ih a s r hn h
   ·exact ih b s r hn h
   ·cases h
  |block id c=>
   simp only at h ⊢
   cases ha:exec call sh n c s with
   |none=>rw[ha] at h;cases h
   |some x=>rw[ha] at h;rw[ih c s x hn ha];exact h
  | loop c =>
   simp only at h ⊢
   cases ha:exec call sh n c s with
   |none=>rw[ha] at h;cases h
   |some x=>
    rw[ha] at h
    rw[ih c s x hn ha]
    obtain⟨ax,s'⟩:=x
    cases ax with
    |normal=>exact ih _ s' r hn h
    |exit id=>exact h
    |ret=>exact h
  |exit id=>exact h
  |ret=>exact h
end Go.bI
namespace Go.bI
open Go Go.RowKit
structure Tb where
 fs:Nat→Option cV
 O:Go.bI.Call
instance:CoeFun Tb fun _=>Nat→Option cV:=⟨Tb.fs⟩
instance:Coe Tb (Nat→Option cV):=⟨Tb.fs⟩
def NH:Go.bI.Call:=fun _ _ _ _ _=>none
def ig (T : Tb) : Nat → Go.bI.Call
 |0,_,_,_,_,_=>none
 | n + 1, f, args, mem, aE, nv => match T.fs f with
  |none=>T.O f args mem aE nv
  | some fn => match Nat.beq args.length fn.np with
   |false=>none
   |true=>match exec (ig T n) (fun g=>((T.fs g).map (·.sh)).getD false) n fn.body { slots:=dN 0 args .lf,mem,aE,nv } with
    |some (.normal,s)|some (.ret,s)=>(j6 s fn.res).map fun vs=>(gU vs,s.mem,s.aE,s.nv)
    |_=>none
theorem Lx {P:Program} : cF P NH:=fun _ _ _ _ _ _ _ _ _ h=>by cases h
theorem DI {P:Program} {T:Tb} (hO:cF P T.O) {bq:Nat→Option TypeId} {md:Nat→Mode} (hm:P.follows .mixedOrders=true) (jf:∀ f T,bq f=some T→j3 P f T) (Lw:∀ f fn,T.fs f=some fn→bL P bq md f=some fn):∀ n,cF P (ig T n)
 |0=>fun _ _ _ _ _ _ _ _ _ h=>by cases h
 | n + 1 => by
  intro f args mem aE nv r mem' pE JR h
  cases hf:T.fs f with
  |none=>simp only[ig,hf] at h;exact hO f args mem aE nv r mem' pE JR h
  |some fn=>
   refine Fv (DI hO hm jf Lw n) hm jf Lw n f args mem aE nv r mem' pE JR ?_
   simp only[ig,hf] at h
   simp only[NF,hf]
   exact h
theorem J2 {T:Tb} : ∀ (n m:Nat),n≤m→j9 (ig T n) (ig T m)
 |0,_,_=>fun _ _ _ _ _ _ h=>by cases h
 |n+1,0,hn=>by omega
 | n + 1, m + 1, hn => fun f x mm t nv r h => by
  have ih:=J2 (T:=T) n m (by omega)
  unfold ig at h ⊢
  split at h
  ·exact h
  ·rename_i fn hf
   split at h
   ·cases h
   ·cases he : exec (ig T n) (fun g => ((T.fs g).map (·.sh)).getD false) n fn.body { slots := dN 0 x .lf, mem := mm, aE := t, nv } with
    |none=>rw[he] at h;cases h
    |some y=>
     rw[he] at h
     rw[uv ih n m fn.body _ y (by omega) he]
     exact h
end Go.bI
