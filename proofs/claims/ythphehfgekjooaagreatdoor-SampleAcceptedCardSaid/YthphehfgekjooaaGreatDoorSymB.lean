/- A part of the proof: EngZA, EngTop, EngMono, EngTb, SymB. -/
import Derived.Test.YthphehfgekjooaaGreatDoorEngZ
import Derived.Test.YthphehfgekjooaaGreatDoorSymA
set_option linter.unusedVariables false
set_option linter.unusedSimpArgs false
namespace Go.bq
open Go Go.RowKit
section
variable {P:Program} {X:Cx} {nt:Nat} {s:St} {a:Act}
def Hx (a:Act):ResultVar→Sem Value
 |.tmp t=>pure (a.tmps.getD t undef)
 |.cell c t=>do loadVar t (←asAddr (a.tmps.getD c undef))
theorem UA (hs:eC X nt s a) {rv:ResultVar} {ar:zB} {v:AV} (hp:Y2 P rv=some ar) (hr:GF s ar=some v) :
  ∃ u,(Hx a rv).run P X.w=.ok u X.w∧V1 X v u:=by
 cases rv with
 | tmp t =>
  cases hp
  simp[GF] at hr
  split at hr
  ·rename_i hn
   cases hr
   exact⟨_,rfl,V1.CZ hn (hs.slots t)⟩
  grind
 | cell c t =>
  simp[Y2] at hp
  split at hp
  ·rename_i sz agg hsz hag
   split at hp
   ·rename_i h1
    cases hp
    obtain⟨cs,hcs,hw⟩:=aJ hr
    obtain⟨b,off,vs,hv,hc,h2,hlen⟩:=GH hs.mem (hs.slots c) hcs
    obtain⟨u,hrun,hV⟩:=zI (P:=P) hsz hag h1 hc h2 hlen hw
    exact⟨u,by simp only[Hx,hv];simp[asAddr,hrun],hV⟩
   grind
  grind
theorem Dk (hs:eC X nt s a):∀ {l:List ResultVar} {rs:List zB} {vs:List AV},GG P l=some rs→kq s rs=some vs→
  ∃ us,(l.mapM (Hx a)).run P X.w=.ok us X.w∧aq (V1 X) vs us
 |[],rs,vs,hp,hr=>by
  simp_all[kq,GG,V1,aq,Hx]
 | rv :: r, rs, vs, hp, hr => by
  simp[GG] at hp
  split at hp
  ·rename_i y ys h1 h2
   cases hp
   simp[kq] at hr
   split at hr
   ·rename_i v vs' h3 h4
    cases hr
    obtain⟨u,g1,g2⟩:=UA hs h1 h3
    obtain⟨us,g3,g4⟩:=Dk hs h2 h4
    refine⟨u :: us,?_,g2,g4⟩<;>simp_all
   grind
  grind
theorem pP:∀ (l:List AV) (i:Nat) (t:Tr AV) (k:Nat),iJ (dm i l t) k=if h:i≤k∧k<i+l.length then l[k-i]'(by omega) else iJ t k
 |[],i,t,k=>by grind[dm,iJ]
 | x :: r, i, t, k => by
  rw[dm,pP r (i+1)]
  by_cases h1:i+1≤k∧k<i+1+r.length
  ·grind
  ·rw [dif_neg h1]
   by_cases h2:k=i
   ·subst h2
    simp[iJ,Tr.bQ]
   ·rw [dif_neg (by simp; omega)]
    unfold iJ
    rw[Tr.bQ,if_neg (Ne.symm h2)]
theorem UB {args:List AV} {bu:Array Value} (h:aq (V1 X) args bu.toList) (n:Nat) (t:Nat):VR X (iJ (dm 0 args .lf) t) ((bu++Array.replicate n undef).getD t undef):=by
 rw[pP]
 have hl:=h.length
 simp at hl
 by_cases ht:0≤t∧t<0+args.length
 ·rw [dif_pos ht]
  obtain⟨b,hb,hr⟩:=h.get t args[t] (List.getElem?_eq_getElem (by omega))
  have:(bu++Array.replicate n undef).getD t undef=b:=by
   rw[Array.getD_eq_getD_getElem?,Array.getElem?_append_left (by omega)]<;>grind
  rw[this]
  exact .ux hr
 ·rw [dif_neg ht]
  have:(bu++Array.replicate n undef).getD t undef=undef:=by
   rw[Array.getD_eq_getD_getElem?,Array.getElem?_append_right (by omega),Array.getElem?_replicate]<;>grind
  rw[this]
  exact mN
theorem ZC {vs:List AV} {us:List Value} (h:aq (V1 X) vs us):VR X (iH vs) (if h:us.toArray.size=1 then us.toArray[0] else .tuple us.toArray):=by
 match vs,us,h with
 |[],[],_=>grind[V1,aq,iH,VR]
 |[v],[u],h=>exact .ux h.1
 |v :: w :: r,u :: x :: q,h=>grind[V1,aq,iH,VR]
def QD (call:Go.bq.Call) (Fs:Nat→Option sQ) (n:Nat):Go.bq.Call:=fun f args mem aB nv=>match Fs f with
 |none=>none
 | some fn => match Nat.beq args.length fn.np with
  |false=>none
  |true=>match exec call (fun g=>((Fs g).map (·.sh)).getD false) n fn.body { slots:=dm 0 args .lf,mem,aB,nv } with
   |some (.normal,s)|some (.ret,s)=>(kq s fn.res).map fun vs=>(iH vs,s.mem,s.aB,s.nv)
   |_=>none
theorem Hy {call : Go.bq.Call} (cc : bX P call) {dP : Nat → Option TypeId} {md : Nat → Mode} {Fs : Nat → Option sQ} (hm : P.follows .mixedOrders = true) (iS : ∀ f T, dP f = some T → kf P f T) (NP : ∀ f fn, Fs f = some fn → Ch P dP md f = some fn) (n : Nat) : bX P (QD call Fs n) := by
  intro f args mem aB nv r mem' qm Ma h X bu hmem hdom hargs
  simp[QD] at h
  split at h
  ·cases h
  ·rename_i fn hfn
   split at h
   ·cases h
   ·rename_i hnp
    have hf:=NP f fn hfn
    unfold Ch at hf
    split at hf
    ·cases hf
    ·rename_i pf hpf
     split at hf
     ·cases hf
     ·rename_i c hbody
      split at hf
      ·cases hf
      ·rename_i hname
       split at hf
       ·rename_i b rs hc hrs
        simp only at hf
        split at hf
        ·cases hf
         refine⟨⟨pf,hpf,by rw[hbody];rfl,by simpa using hname⟩,?_⟩
         have hlen:=hargs.length
         simp at hlen
         simp at hnp h
         have start:eC X pf.ntmps { slots:=dm 0 args .lf,mem,aB,nv } { tmps:=bu++Array.replicate (pf.ntmps-bu.size) undef,defers:=[] }:=
          ⟨fun t=>UB hargs _ t,by simp;omega,rfl,hmem⟩
         have fin:∀ (x:AX) (s:St),(kq s rs).map (fun vs=>(iH vs,s.mem,s.aB,s.nv))=some (r,mem',qm,Ma)→∀ (Y:Cx) (a':Act),Ext X Y→eC Y pf.ntmps s a'→nv≤s.nv→(∀ v L,Y.ρ v=some L→X.ρ v=some L∨(nv≤v∧v<s.nv))→
           a'.defers=[]∧∃ v,(results pf a'.tmps).run P Y.w=.ok v Y.w∧∃ Z u,Ending.returned v=.returned u∧Z.w=Y.w∧Ext X Z∧VR Z r u∧aA Z mem' qm∧nv≤Ma∧∀ u L,Z.ρ u=some L→X.ρ u=some L∨(nv≤u∧u<Ma):=by
          intro x s hres Y a' hx hs' hn hd
          obtain⟨vs,hvs,he⟩:=aG hres
          cases he
          obtain⟨us,g1,g2⟩:=Dk hs' hrs hvs
          refine⟨hs'.defers,_,?_,Y,_,rfl,rfl,hx,ZC g2,hs'.mem,hn,hd⟩
          have e:results pf a'.tmps=(do
            let vs ←pf.results.mapM (Hx a')
            pure (if h:vs.size=1 then vs[0] else .tuple vs)):=by
           congr 1
          rw[e,List.mapM_toArray]
          simp[g1]
         split at h
         ·rename_i s he
          refine calls_of_wp hpf hbody ((Mi hm cc iS n).1 c b X _ _ (.normal,s) _ hc he start hdom fun Y a' hx hs' hn hd=>?_)
          exact fin .normal s h Y a' hx hs' hn hd
         ·rename_i s he
          refine calls_of_wp hpf hbody ((Mi hm cc iS n).1 c b X _ _ (.ret,s) _ hc he start hdom fun Y a' hx hs' hn hd=>?_)
          exact fin .ret s h Y a' hx hs' hn hd
         ·cases h
        grind
       grind
theorem Mp {dP:Nat→Option TypeId} {md:Nat→Mode} {Fs:Nat→Option sQ} (hm:P.follows .mixedOrders=true) (iS:∀ f T,dP f=some T→kf P f T) (NP:∀ f fn,Fs f=some fn→Ch P dP md f=some fn):∀ n,bX P (TV Fs n)
 |0=>fun _ _ _ _ _ _ _ _ _ h=>by simp[TV] at h
 |n+1=>Hy (Mp hm iS NP n) hm iS NP n
end
end Go.bq
namespace Go.bq
open Go Go.RowKit
def cx0 (w:World):Cx:={ w,F:=fun _ _=>False,ρ:=fun _=>none,old:=fun b=>b<w.heap.size }
theorem UC (w:World) (hg:(∀ b,vY b→b<w.heap.size)∧LY w) (m:List (Tr aZ)) (hm:∀ lv sl,aC m lv sl=none):aA (cx0 w) m .lf where
 dW lv sl e he:=by rw[hm] at he;cases he
 aB v hv:=by simp at hv
 apart k k' v v' L L' a b:=by
  rcases a with⟨_,_,_,_,he,_⟩|⟨_,he⟩
  ·rw[hm] at he;cases he
  ·simp at he
 ni b o h:=h.elim
 pz:=⟨fun _ h=>h,hg.1,hg.2⟩
theorem wD (lv sl:Nat):aC [.lf] lv sl=none:=by
 unfold aC
 cases lv<;>simp
theorem ZD {P:Program} {dP:Nat→Option TypeId} {md:Nat→Mode} {Fs:Nat→Option sQ} {n f:Nat} (hm:P.follows .mixedOrders=true) (iS:∀ f T,dP f=some T→kf P f T) (NP:∀ f fn,Fs f=some fn→Ch P dP md f=some fn)
  (h:(TV Fs n f [] [.lf] .lf 0).map (·.1)=some (.d (.sc (.bool true)))) (w:World) (hg:(∀ b,vY b→b<w.heap.size)∧LY w):Calls P f #[] w fun e w'=>e=.returned (.bool true)∧Below w.heap.size w w':=by
 obtain⟨⟨r,m,t,v⟩,hr,he⟩:=aG h
 obtain⟨_,hc⟩:=Mp hm iS NP n f [] [.lf] .lf 0 r m t v hr (cx0 w) #[] (UC w hg _ wD) (fun _ _=>rfl) trivial
 refine hc.mono ?_
 rintro e w' ⟨Y,u,rfl,rfl,hx,hv,_⟩
 subst he
 cases hv
 exact⟨rfl,hx.below.toBelow⟩
def Ax:List (Nat×sQ)→Nat→Option sQ
 |[],_=>none
 |(g,fn) :: r,f=>match Nat.beq g f with
  |true=>some fn
  |false=>Ax r f
inductive u0 (P:Program) (dP:Nat→Option TypeId) (md:Nat→Mode):List (Nat×sQ)→Prop where
 |nil:u0 P dP md []
 |cons {g:Nat} {fn:sQ} {r:List (Nat×sQ)} : Ch P dP md g=some fn→u0 P dP md r→u0 P dP md ((g,fn) :: r)
theorem QE {P:Program} {dP:Nat→Option TypeId} {md:Nat→Mode} {l:List (Nat×sQ)} (h:u0 P dP md l):∀ f fn,Ax l f=some fn→Ch P dP md f=some fn:=by
 induction h with
 |nil=>intro f fn h;cases h
 | @cons g fn' r h1 _ ih=>
  intro f fn h
  simp[Ax] at h
  split at h<;>simp_all
end Go.bq
namespace Go.bq
open Go
def ku (a b:Call):Prop:=∀ f x m t n r,a f x m t n=some r→b f x m t n=some r
variable {call call':Call} {sh:Nat→Bool}
theorem Ki (hc:ku call call') {s:St} {f lb sb vb:Nat} {args:List AV} {r:cR} (h:qE call s f lb sb vb args=some r):qE call' s f lb sb vb args=some r:=by
 unfold qE at h ⊢
 split at h
 ·cases h
 split at h
 ·split at h
  ·cases h
  ·rename_i he
   rw[hc _ _ _ _ _ _ he]<;>omega
 omega
theorem ru (hc:ku call call') {b:Bool} {row:Nat} {s:St} {lv sl aH f:Nat} {args:List AV} {r:cR} (h:eZ call b row s lv sl aH f args=some r):eZ call' b row s lv sl aH f args=some r:=by
 unfold eZ at h ⊢
 cases b with
 | false =>
  cases hba:nD args with
  |some x=>
   rw[hba] at h
   exact Ki hc h
  |none=>
  rw[hba] at h
  simp at h ⊢
  split at h
  ·cases h
  ·split at h
   ·cases h
   ·rename_i r' cm ts n he
    rw[hc _ _ _ _ _ _ he]<;>omega
 | true =>
  simp at h ⊢
  split at h
  ·cases h
  ·split at h
   ·cases h
   ·rename_i r' cm ts n he
    rw[hc _ _ _ _ _ _ he]<;>omega
theorem xQ (hc:ku call call') {s:St} {f:Nat} {args:List AV} {r:cR} (h:jB call s f args=some r):jB call' s f args=some r:=by
 unfold jB at h ⊢
 split at h
 ·cases h
 ·split at h
  ·cases h
  ·rename_i r' cm ts n he
   rw[hc _ _ _ _ _ _ he]<;>omega
theorem Hz (hc:ku call call') {s:St} {f:Nat} {args:List AV} {r:cR} (h:o8 call s f args=some r):o8 call' s f args=some r:=by
 unfold o8 at h ⊢
 split at h
 ·cases h
 ·split at h
  ·cases h
  ·rename_i r' cm ts n he
   rw[hc _ _ _ _ _ _ he]<;>omega
theorem HA (hc:ku call call') {s:St} {aH f:Nat} {args:List AV} {r:cR} (h:mK call s aH f args=some r):mK call' s aH f args=some r:=by
 unfold mK at h ⊢
 split at h
 ·cases h
 ·split at h
  ·cases h
  ·rename_i r' cm ts n he
   rw[hc _ _ _ _ _ _ he]<;>omega
theorem HB (hc:ku call call') {s:St} {aH f:Nat} {args:List AV} {r:cR} (h:o7 call s aH f args=some r):o7 call' s aH f args=some r:=by
 unfold o7 at h ⊢
 split at h
 ·cases h
 ·split at h
  ·cases h
  ·rename_i r' cm ts n he
   rw[hc _ _ _ _ _ _ he]<;>omega
theorem QF (hc:ku call call') {s:St} {row dst aH:Nat} {o:bL} {r:cR} (h:o.run call sh s row dst aH=some r):o.run call' sh s row dst aH=some r:=by
 cases o with
 | call f args =>
  simp[bL.run] at h ⊢
  split at h
  ·exact xQ hc h
  ·split at h
   ·exact Hz hc h
   ·split at h
    ·exact HA hc h
    split at h
    ·exact HB hc h
    ·exact ru hc h
 |um f args=>
  simp[bL.run] at h ⊢
  split at h
  ·exact ru hc h
  ·exact xQ hc h
 |zA x args=>
  simp[bL.run] at h ⊢
  split at h
  ·exact ru hc h
  ·cases h
 |_=>exact h
theorem Dl (hc:ku call call') {s:St} {aH:Nat} {o:aY} {r:cR} (h:o.step call sh s aH=some r):o.step call' sh s aH=some r:=by
 unfold aY.step at h ⊢
 split at h
 ·cases h
 ·exact QF hc h
 ·exact h
theorem xR (hc:ku call call') {lW:Nat} : ∀ {l:List aY} {i:Nat} {s r:St},ko call sh lW i l s=some r→ko call' sh lW i l s=some r
 |[],_,_,_,h=>h
 | o :: l, i, s, r, h => by
  unfold ko at h ⊢
  split at h
  ·cases h
  ·rename_i e he
   rw[Dl hc he]
   exact xR hc h
theorem xS (hc:ku call call') {lW:Nat} : ∀ {l:List aY} {i:Nat} {p:List (Nat×cR)} {s r:St},jC call sh lW i l p s=some r→jC call' sh lW i l p s=some r
 |[],_,_,_,_,h=>h
 | o :: l, i, p, s, r, h => by
  unfold jC at h ⊢
  split at h
  ·cases h
  ·rename_i e he
   rw[Dl hc he]
   simp
   split at h
   ·exact xS hc h
   omega
theorem Ay (hc:ku call call') {l:List aY} {d:Bool} {s r:St} (h:iw call sh l d s=some r):iw call' sh l d s=some r:=by
 cases d with
 |false=>exact xR hc h
 |true=>exact xS hc h
theorem u5 (hc:ku call call'):∀ (n m:Nat) (c:AC) (s:St) (r:AX×St),n≤m→exec call sh n c s=some r→exec call' sh m c s=some r
 |0,_,_,_,_,_,h=>by cases h
 |n+1,0,_,_,_,hn,_=>by omega
 | n + 1, m + 1, c, s, r, hn, h => by
  have ih:=u5 hc n m
  unfold exec at h ⊢
  cases c with
  |skip=>exact h
  |region ops d=>
   simp at h ⊢
   cases hr:iw call sh ops d s with
   |none=>grind
   |some s'=>rw[hr] at h;rw[Ay hc hr];exact h
  |seq a b=>
   grind
  |cond c a b=>
   grind
  |block id c=>
   grind
  |loop c=>
   grind
  |exit id=>exact h
  |ret=>exact h
end Go.bq
namespace Go.bq
open Go Go.RowKit
structure Tb where
 fs:Nat→Option sQ
 O:Go.bq.Call
instance:CoeFun Tb fun _=>Nat→Option sQ:=⟨Tb.fs⟩
instance:Coe Tb (Nat→Option sQ):=⟨Tb.fs⟩
def QG:Go.bq.Call:=fun _ _ _ _ _=>none
def gU (T : Tb) : Nat → Go.bq.Call
 |0,_,_,_,_,_=>none
 | n + 1, f, args, mem, aB, nv => match T.fs f with
  |none=>T.O f args mem aB nv
  | some fn => match Nat.beq args.length fn.np with
   |false=>none
   |true=>match exec (gU T n) (fun g=>((T.fs g).map (·.sh)).getD false) n fn.body { slots:=dm 0 args .lf,mem,aB,nv } with
    |some (.normal,s)|some (.ret,s)=>(kq s fn.res).map fun vs=>(iH vs,s.mem,s.aB,s.nv)
    |_=>none
theorem NQ {P:Program} : bX P QG:=fun _ _ _ _ _ _ _ _ _ h=>by cases h
theorem E3 {P:Program} {T:Tb} (hO:bX P T.O) {dP:Nat→Option TypeId} {md:Nat→Mode} (hm:P.follows .mixedOrders=true) (iS:∀ f T,dP f=some T→kf P f T) (NP:∀ f fn,T.fs f=some fn→Ch P dP md f=some fn):∀ n,bX P (gU T n)
 |0=>fun _ _ _ _ _ _ _ _ _ h=>by cases h
 | n + 1 => by
  intro f args mem aB nv r mem' qm Ma h
  cases hf:T.fs f with
  |none=>simp[gU,hf] at h;exact hO f args mem aB nv r mem' qm Ma h
  |some fn=>
   refine Hy (E3 hO hm iS NP n) hm iS NP n f args mem aB nv r mem' qm Ma ?_
   simp[gU,hf] at h
   simp[QD,hf]
   exact h
theorem Mq {T:Tb} : ∀ (n m:Nat),n≤m→ku (gU T n) (gU T m)
 |0,_,_=>fun _ _ _ _ _ _ h=>by cases h
 |n+1,0,hn=>by omega
 | n + 1, m + 1, hn => fun f x mm t nv r h => by
  have ih:=Mq (T:=T) n m (by omega)
  unfold gU at h ⊢
  split at h
  ·exact h
  ·rename_i fn hf
   split at h
   ·cases h
   ·cases he : exec (gU T n) (fun g => ((T.fs g).map (·.sh)).getD false) n fn.body { slots := dm 0 x .lf, mem := mm, aB := t, nv } with
    |none=>grind
    |some y=>
     rw[u5 ih n m fn.body _ y (by omega) he]<;>grind
end Go.bq
namespace Go.Sym
open Go Go.bq
abbrev aR:=Nat→Option Nat
def aS (t:Ty) (l:List t.den):List (List D):=l.map (dX t)
def RC (ρ : aR) (B:Nat) (m:List (Tr E2)):Cell→AV→Prop
 |.int k a,x=>x=.d (.sc (.int k a))
 |.bool b,x=>x=.d (.sc (.bool b))
 |.er b,x=>x=.d (match b with
  |true=>.er
  |false=>.sc .nilIface)
 |.str s,x=>x=.d (.sc (.string ⟨s.toArray⟩))
 |.raw v,x=>x=.d (.sc v)
 |.nil true,x=>x=.own [] .full
 |.nil false,x=>x=.d (.sl [])∨∃ o,o≠.bB∧x=.own [] o
 |.sl t l .d,x=>x=.d (.sl (aS t l))∨∃ o,o≠.bB∧x=.own (aS t l) o
 |.sl t l .bB,x=>x=.d (.sl (aS t l))∨∃ o,x=.own (aS t l) o
 |.sl t l .full,x=>x=.own (aS t l) .full
 |.sl t l (.app v),x=>v<B∧((ρ v=none∧x=.own (aS t l) .full)∨∃ u,ρ v=some u∧x=.own (aS t l) (.bR u t.size))
 |.ref lv sl aa t,x=>aa<B∧∃ u n,ρ aa=some u∧x=.ref lv sl u 0 n t.size∧∀ r,rowOf m lv sl aa=some r→n=r.l.length
 |.iT lv sl aa t off len,x=>aa<B∧∃ u,ρ aa=some u∧x=.ref lv sl u off len t.size∧∀ r,rowOf m lv sl aa=some r→off+len≤r.l.length
 |.ptr lv sl aa i off,x=>aa<B∧∃ u,ρ aa=some u∧x=.ptr lv sl u i off
 |.eW t e off,x=>x=.eW (dX t e) off
 |.eA lv sl aa off n sz,x=>aa<B∧∃ u,ρ aa=some u∧x=.eA lv sl u off n sz
 |.mp lv sl aa,x=>aa<B∧∃ u,ρ aa=some u∧x=.mp lv sl u
def R1 (ρ : aR) (B:Nat) (m:List (Tr E2)):Bool×List Cell→AV→Prop
 |(true,cs),a=>∃ aD,a=.agg aD∧aq (RC ρ B m) cs aD
 |(false,cs),a=>∃ c,cs=[c]∧RC ρ B m c a
def RV (ρ : aR) (B:Nat) (m:List (Tr E2)):V2→AV→Prop
 |.c x,a=>RC ρ B m x a
 |.agg cs,a=>∃ aD,a=.agg aD∧aq (RC ρ B m) cs aD
 |.fB f cs,a=>∃ aD,a=.fB f aD∧aq (RC ρ B m) cs aD
 |.gN vs,a=>∃ aD,a=.gN aD∧aq (R1 ρ B m) vs aD
def RE (ρ : aR) (B:Nat) (m:List (Tr E2)):E2→aZ→Prop
 |.row aa t l,e=>aa<B∧∃ u,ρ aa=some u∧e=.row u (aS t l)
 |.box aa cs,e=>aa<B∧∃ u aD,ρ aa=some u∧e=.box u aD∧aq (RC ρ B m) cs aD
 |.set aa l,e=>aa<B∧∃ u,ρ aa=some u∧e=.mp u l
structure MR (ρ : aR) (B:Nat) (m2:List (Tr E2)) (m:List (Tr aZ)):Prop where
 len:m2.length=m.length
 dW:∀ lv sl e2,gL m2 lv sl=some e2→∃ e,aC m lv sl=some e∧RE ρ B m2 e2 e
def TR (ρ : aR) (B:Nat) (t2 t:Tr Unit):Prop:=∀ v,t2.get? v=some ()→v<B∧∀ u,ρ v=some u→t.get? u=some ()
structure VOK (ρ : aR) (n2 n:Nat):Prop where
 low:∀ v u,v<n2→ρ v=some u→u<n
 high:∀ v,n2≤v→ρ v=some (n+(v-n2))
 inj:∀ v v' u,ρ v=some u→ρ v'=some u→v=v'
def tM (ρ : aR) (B:Nat) (m:List (Tr E2)) (t:Tr V2) (o:Tr AV):Prop:=∀ k v,t.get? k=some v→RV ρ B m v (iJ o k)
structure SR (ρ : aR) (B:Nat) (os:List (Tr AV)) (s2:S2) (s:St):Prop where
 slots:tM ρ B s2.mem s2.slots s.slots
 outer:aq (tM ρ B s2.mem) s2.outer os
 mem:MR ρ B s2.mem s.mem
 aB:TR ρ B s2.aB s.aB
 aa:VOK ρ s2.nv s.nv
 le:B≤s2.nv
def dR (B:Nat) (m m':List (Tr E2)):Prop:=∀ lv sl aa r',aa<B→rowOf m' lv sl aa=some r'→∃ r,rowOf m lv sl aa=some r∧r.l.length=r'.l.length
theorem dR.refl (B:Nat) (m:List (Tr E2)):dR B m m:=fun _ _ _ r _ h=>⟨r,h,rfl⟩
theorem dR.trans {B:Nat} {m m' m'':List (Tr E2)} (h:dR B m m') (k:dR B m' m''):dR B m m'':=by
 grind[dR]
theorem RC.move {ρ ρ':aR} {B B':Nat} {m m':List (Tr E2)} (hs:dR B m m') (hB:B≤B') (hρ : ∀ v,v<B→ρ' v = ρ v):∀ {c:Cell} {x:AV},RC ρ B m c x→RC ρ' B' m' c x:=by
 intro c x h
 cases c with
 |nil f=>cases f<;>exact h
 | sl t l o =>
  cases o with
  |app v=>
   obtain⟨hv,h⟩:=h
   refine⟨by omega,?_⟩<;>grind
  |d=>exact h
  |full=>exact h
  |bB=>exact h
 |ref lv sl aa t=>
  obtain⟨hv,u,n,hu,hx,hr⟩:=h
  refine⟨by omega,u,n,by rw[hρ aa hv];exact hu,hx,fun r' hr'=>?_⟩
  obtain⟨r,h1,h2⟩:=hs _ _ _ _ hv hr'<;>grind
 |iT lv sl aa t off len=>
  obtain⟨hv,u,hu,hx,hr⟩:=h
  refine⟨by omega,u,by rw[hρ aa hv];exact hu,hx,fun r' hr'=>?_⟩
  obtain⟨r,h1,h2⟩:=hs _ _ _ _ hv hr'<;>grind
 |ptr lv sl aa i off=>
  obtain⟨hv,u,hu,hx⟩:=h
  exact⟨by omega,u,by rw[hρ aa hv];exact hu,hx⟩
 |eA lv sl aa off n sz=>
  obtain⟨hv,u,hu,hx⟩:=h
  exact⟨by omega,u,by rw[hρ aa hv];exact hu,hx⟩
 |mp lv sl aa=>
  obtain⟨hv,u,hu,hx⟩:=h
  exact⟨by omega,u,by rw[hρ aa hv];exact hu,hx⟩
 |_=>exact h
theorem R1.mono {ρ ρ':aR} {B B':Nat} {m m':List (Tr E2)} (hc:∀ c x,RC ρ B m c x→RC ρ' B' m' c x):∀ {v:Bool×List Cell} {x:AV},R1 ρ B m v x→R1 ρ' B' m' v x
 |(true,_),_,⟨aD,h1,h2⟩=>⟨aD,h1,h2.mono hc⟩
 |(false,_),_,⟨c,h1,h2⟩=>⟨c,h1,hc _ _ h2⟩
theorem RV.mono {ρ ρ':aR} {B B':Nat} {m m':List (Tr E2)} (hc:∀ c x,RC ρ B m c x→RC ρ' B' m' c x):∀ {v:V2} {x:AV},RV ρ B m v x→RV ρ' B' m' v x:=by
 intro v x h
 cases v with
 |c c=>exact hc _ _ h
 |agg cs=>obtain⟨aD,h1,h2⟩:=h;exact⟨aD,h1,h2.mono hc⟩
 |fB f cs=>obtain⟨aD,h1,h2⟩:=h;exact⟨aD,h1,h2.mono hc⟩
 |gN vs=>obtain⟨aD,h1,h2⟩:=h;exact⟨aD,h1,h2.mono fun _ _=>R1.mono hc⟩
theorem RE.mono {ρ ρ':aR} {B B':Nat} {m m':List (Tr E2)} (hB:B≤B') (hρ : ∀ v,v<B→ρ' v = ρ v) (hc:∀ c x,RC ρ B m c x→RC ρ' B' m' c x):∀ {e2:E2} {e:aZ},RE ρ B m e2 e→RE ρ' B' m' e2 e:=by
 intro e2 e h
 cases e2 with
 |row aa t l=>obtain⟨hv,u,h1,h2⟩:=h;exact⟨by omega,u,by rw[hρ aa hv];exact h1,h2⟩
 |box aa cs=>obtain⟨hv,u,aD,h1,h2,h3⟩:=h;exact⟨by omega,u,aD,by rw[hρ aa hv];exact h1,h2,h3.mono hc⟩
 |set aa l=>obtain⟨hv,u,h1,h2⟩:=h;exact⟨by omega,u,by rw[hρ aa hv];exact h1,h2⟩
theorem tM.mono {ρ ρ':aR} {B B':Nat} {m m':List (Tr E2)} (hc:∀ c x,RC ρ B m c x→RC ρ' B' m' c x) {t:Tr V2} {o:Tr AV} (h:tM ρ B m t o):tM ρ' B' m' t o:=
 fun k v hk=>RV.mono hc (h k v hk)
theorem RV.move {ρ ρ':aR} {B B':Nat} {m m':List (Tr E2)} (hs:dR B m m') (hB:B≤B') (hρ : ∀ v,v<B→ρ' v = ρ v) {v:V2} {x:AV} (h:RV ρ B m v x):RV ρ' B' m' v x:=
 RV.mono (fun _ _=>RC.move hs hB hρ) h
theorem tM.move {ρ ρ':aR} {B B':Nat} {m m':List (Tr E2)} (hs:dR B m m') (hB:B≤B') (hρ : ∀ v,v<B→ρ' v = ρ v) {t:Tr V2} {o:Tr AV} (h:tM ρ B m t o):tM ρ' B' m' t o:=
 tM.mono (fun _ _=>RC.move hs hB hρ) h
theorem oA:∀ l:List oW,Db l=l.map Kb
 |[]=>by simp[Db]
 |v :: r=>by simp[Db,oA r]
theorem dM:∀ (t:Ty) (x:t.den),(dX t x).length=t.size
 |.val,v=>by cases v;simp[dX,Kb,Ty.size]
 |.int _,_=>rfl
 |.bool,_=>rfl
 |.str,_=>rfl
 |.sl _,_=>rfl
 |.unit,_=>rfl
 |.prod a b,x=>by simp[dX,Ty.size,dM a,dM b]
 |.sum _ _,_=>rfl
theorem kz {ρ : aR} {B:Nat} {m:List (Tr E2)} : ∀ (t:Ty) (x:t.den),aq (RC ρ B m) (gS t x) ((dX t x).map .d)
 |.val,v=>by
  cases v
  refine⟨rfl,rfl,rfl,.inl ?_,rfl,trivial⟩
  simp[aS,oW.list,oA,dX]
 |.int _,_=>⟨rfl,trivial⟩
 |.bool,_=>⟨rfl,trivial⟩
 |.str,_=>⟨rfl,trivial⟩
 |.sl _,_=>⟨.inl rfl,trivial⟩
 |.unit,_=>trivial
 |.prod a b,x=>by
  simp[gS,dX,List.map_append]
  exact (kz a x.1).append (kz b x.2)
 |.sum _ _,_=>trivial
theorem Az {a b:Ty} {l:List a.den} {l':List b.den} (h:iI a b l=some l'):∃ e:a=b,l'=e ▸ l:=by
 unfold iI at h
 split at h<;>grind
theorem NR {a b:Ty} {l:a.den} {l':b.den} (h:tI a b l=some l'):∃ e:a=b,l'=e ▸ l:=by
 unfold tI at h
 split at h<;>grind
def l9:Cell→Option D
 |.int k a=>some (.sc (.int k a))
 |.bool b=>some (.sc (.bool b))
 |.str s=>some (.sc (.string ⟨s.toArray⟩))
 |.raw v=>some (.sc v)
 |.nil _=>some (.sl [])
 |.sl t l _=>some (.sl (aS t l))
 |_=>none
def bH:List Cell→Option (List D)
 |[]=>some []
 |c :: r=>match l9 c,bH r with
  |some x,some xs=>some (x :: xs)
  |_,_=>none
theorem kY:∀ {l l':List Cell} {ds ds':List D},bH l=some ds→bH l'=some ds'→bH (l++l')=some (ds++ds')
 |[],_,_,_,h,h'=>by cases h<;>grind
 | c :: r, l', ds, ds', h, h' => by
  simp[bH] at h
  split at h
  ·rename_i x xs h1 h2
   cases h
   simp[List.cons_append,bH,h1,kY h2 h']
  grind
theorem fL {c:Cell} {r:List Cell} {ds:List D} (h:bH (c :: r)=some ds):∃ x xs,l9 c=some x∧bH r=some xs∧ds=x :: xs:=by
 grind[bH,l9]
theorem AA {k:IntKind} {cs r:List Cell} {x:Int} {ds:List D} (h:Hl k cs=some (x,r)) (hd:bH cs=some ds):∃ ds',ds=.sc (.int k x) :: ds'∧bH r=some ds':=by
 unfold Hl at h
 split at h
 ·split at h
  ·obtain ⟨y, ys, h1, h2, rfl⟩ := fL hd
   cases h1<;>grind
  grind
 grind
theorem Dm {cs r:List Cell} {x:Bool} {ds:List D} (h:ES cs=some (x,r)) (hd:bH cs=some ds):∃ ds',ds=.sc (.bool x) :: ds'∧bH r=some ds':=by
 unfold ES at h
 split at h
 ·obtain ⟨y, ys, h1, h2, rfl⟩ := fL hd
  cases h1<;>grind
 grind
theorem HC {cs r:List Cell} {x:List UInt8} {ds:List D} (h:Mj cs=some (x,r)) (hd:bH cs=some ds):∃ ds',ds=.sc (.string ⟨x.toArray⟩) :: ds'∧bH r=some ds':=by
 unfold Mj at h
 split at h
 ·obtain ⟨y, ys, h1, h2, rfl⟩ := fL hd
  cases h1<;>grind
 grind
theorem Mr {t:Ty} {cs r:List Cell} {x:List t.den} {ds:List D} (h:Us t cs=some (x,r)) (hd:bH cs=some ds):∃ ds',ds=.sl (aS t x) :: ds'∧bH r=some ds':=by
 unfold Us at h
 split at h
 ·cases h
  obtain⟨y,ys,h1,h2,rfl⟩:=fL hd
  cases h1
  exact⟨ys,rfl,h2⟩
 ·split at h
  ·rename_i hc
   obtain⟨e,hl⟩:=Az hc
   obtain⟨y,ys,h1,h2,rfl⟩:=fL hd
   cases h1<;>grind
  grind
 grind
theorem AB:∀ (t:Ty) {cs r:List Cell} {x:t.den},xJ t cs=some (x,r)→∀ {ds:List D},bH cs=some ds→∃ ds',ds=dX t x++ds'∧bH r=some ds'
 | .val, cs, r, x, h, ds, hd => by
  simp[xJ,Xe] at h
  split at h
  ·rename_i k r1 h1
   split at h
   ·rename_i i r2 h2
    split at h
    ·rename_i s r3 h3
     split at h
     ·rename_i l r4 h4
      split at h
      ·rename_i c r5 h5
       cases h
       obtain⟨d1,rfl,e1⟩:=AA h1 hd
       obtain⟨d2,rfl,e2⟩:=AA h2 e1
       obtain⟨d3,rfl,e3⟩:=HC h3 e2
       obtain⟨d4,rfl,e4⟩:=Mr h4 e3
       obtain⟨d5,rfl,e5⟩:=Dm h5 e4
       refine⟨d5,?_,e5⟩
       have:aS .val l=Db l:=by rw[oA];rfl
       simp[dX,Kb,this]
      grind
     grind
    grind
   grind
  grind
 |.int k,_,_,_,h,_,hd=>AA h hd
 |.bool,_,_,_,h,_,hd=>Dm h hd
 |.str,_,_,_,h,_,hd=>HC h hd
 |.sl t,_,_,_,h,_,hd=>Mr h hd
 |.unit,_,_,_,h,ds,hd=>by
  cases h
  exact⟨ds,rfl,hd⟩
 | .prod a b, cs, r, x, h, ds, hd => by
  simp[xJ] at h
  split at h
  ·rename_i x1 r1 h1
   split at h
   ·rename_i x2 r2 h2
    cases h
    obtain⟨d1,rfl,e1⟩:=AB a h1 hd
    obtain⟨d2,rfl,e2⟩:=AB b h2 e1<;>simp_all[xJ,bH,Ty.den,dX]
   grind
  grind
 |.sum _ _,_,_,_,h,_,_=>by simp[xJ] at h
theorem oB {t:Ty} {cs:List Cell} {x:t.den} {ds:List D} (h:xK t cs=some x) (hd:bH cs=some ds):ds=dX t x:=by
 unfold xK at h
 split at h
 ·rename_i y h1
  cases h
  obtain⟨ds',rfl,e⟩:=AB t h1 hd
  cases e
  simp
 grind
end Go.Sym
