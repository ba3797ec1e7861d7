/- A function of the program against the machine of pure data. -/
import Derived.Test.YtleacocdepjflaaGreatEngZ
namespace Go.Eng
open Go Go.RowKit
section
variable {P:Program} {X:Cx} {nt:NT} {s:St} {a:Act}
def resOf (a:Act):ResultVar→Sem Value
 |.tmp t=>pure (a.tmps.getD t undef)
 |.cell c t=>do loadVar t (←asAddr (a.tmps.getD c undef))
theorem resA_ok (hs:Sim X nt s a) {rv:ResultVar} {ar:ARes} {v:AV} (hp:resP P rv=some ar) (hr:resA s ar=some v) :
  ∃ u,(resOf a rv).run P X.w=.ok u X.w∧V1 X v u:=by
 cases rv with
 | tmp t =>
  simp only[resP,Option.some.injEq] at hp
  subst hp
  simp only[resA] at hr
  split at hr
  ·rename_i hn
   injection hr with hr;subst hr
   exact⟨_,rfl,V1.of_notTup hn (hs.slots t)⟩
  ·cases hr
 | cell c t =>
  simp only[resP] at hp
  split at hp
  ·rename_i sz agg hsz hag
   split at hp
   ·rename_i h1
    injection hp with hp;subst hp
    simp only[resA] at hr
    obtain⟨cs,hcs,hw⟩:=opt_bind hr
    obtain⟨b,off,vs,hv,hc,h2,hlen⟩:=loadA_ok hs.mem (hs.slots c) hcs
    obtain⟨u,hrun,hV⟩:=loadVar_ok (P:=P) hsz hag h1 hc h2 hlen hw
    exact⟨u,by simp only[resOf,hv];simp[asAddr,hrun],hV⟩
   ·cases hp
  ·cases hp
theorem resAll_ok (hs:Sim X nt s a):∀ {l:List ResultVar} {rs:List ARes} {vs:List AV},ressP P l=some rs→resAll s rs=some vs→
  ∃ us,(l.mapM (resOf a)).run P X.w=.ok us X.w∧All2 (V1 X) vs us
 |[],rs,vs,hp,hr=>by
  simp only[ressP,Option.some.injEq] at hp
  subst hp
  simp only[resAll,Option.some.injEq] at hr
  subst hr
  exact⟨[],rfl,trivial⟩
 | rv :: r, rs, vs, hp, hr => by
  simp only[ressP] at hp
  split at hp
  ·rename_i y ys h1 h2
   injection hp with hp;subst hp
   simp only[resAll] at hr
   split at hr
   ·rename_i v vs' h3 h4
    injection hr with hr;subst hr
    obtain⟨u,g1,g2⟩:=resA_ok hs h1 h3
    obtain⟨us,g3,g4⟩:=resAll_ok hs h2 h4
    refine⟨u :: us,?_,g2,g4⟩
    rw[List.mapM_cons]
    simp[g1,g3]
   ·cases hr
  ·cases hp
theorem argSlots_get:∀ (l:List AV) (i:Nat) (t:Tr AV) (k:Nat),getS (argSlots i l t) k=if h:i≤k∧k<i+l.length then l[k-i]'(by omega) else getS t k
 |[],i,t,k=>by rw[dif_neg (by simp)];rfl
 | x :: r, i, t, k => by
  rw[argSlots,argSlots_get r (i+1)]
  by_cases h1:i+1≤k∧k<i+1+r.length
  ·rw [dif_pos h1, dif_pos (by simp; omega)]
   have:k-i=(k-(i+1))+1:=by omega
   simp only[this,List.getElem_cons_succ]
  ·rw [dif_neg h1]
   by_cases h2:k=i
   ·subst h2
    rw[dif_pos (by simp)]
    simp[getS,Tr.get_set]
   ·rw [dif_neg (by simp; omega)]
    unfold getS
    rw[Tr.get_set,if_neg (Ne.symm h2)]
theorem args_ok {args:List AV} {vargs:Array Value} (h:All2 (V1 X) args vargs.toList) (n:Nat) (t:Nat):VR X (getS (argSlots 0 args .lf) t) ((vargs++Array.replicate n undef).getD t undef):=by
 rw[argSlots_get]
 have hl:=h.length
 simp only[Array.length_toList] at hl
 by_cases ht:0≤t∧t<0+args.length
 ·rw [dif_pos ht]
  obtain⟨b,hb,hr⟩:=h.get t args[t] (List.getElem?_eq_getElem (by omega))
  have:(vargs++Array.replicate n undef).getD t undef=b:=by
   rw[Array.getD_eq_getD_getElem?,Array.getElem?_append_left (by omega)]
   rw[Array.getElem?_toList] at hb
   rw[hb];rfl
  rw[this]
  exact .of_V1 hr
 ·rw [dif_neg ht]
  have:(vargs++Array.replicate n undef).getD t undef=undef:=by
   rw[Array.getD_eq_getD_getElem?,Array.getElem?_append_right (by omega),Array.getElem?_replicate]
   split<;>rfl
  rw[this]
  exact undef_ok
theorem tup_ok {vs:List AV} {us:List Value} (h:All2 (V1 X) vs us):VR X (tupOf vs) (if h:us.toArray.size=1 then us.toArray[0] else .tuple us.toArray):=by
 match vs,us,h with
 |[],[],_=>exact⟨#[],rfl,trivial⟩
 |[v],[u],h=>exact .of_V1 h.1
 |v :: w :: r,u :: x :: q,h=>exact⟨(u :: x :: q).toArray,by simp,h⟩
def stepF (call:Go.Eng.Call) (Fs:Nat→Option AFn) (n:Nat):Go.Eng.Call:=fun f args mem tips nv=>match Fs f with
 |none=>none
 | some fn => match Nat.beq args.length fn.np with
  |false=>none
  |true=>match exec call (fun g=>((Fs g).map (·.sh)).getD false) n fn.body { slots:=argSlots 0 args .lf,mem,tips,nv } with
   |some (.normal,s)|some (.ret,s)=>(resAll s fn.res).map fun vs=>(tupOf vs,s.mem,s.tips,s.nv)
   |_=>none
theorem stepF_wp {call : Go.Eng.Call} (hcall : CallOK P call) {lib : Nat → Option TypeId} {md : Nat → Mode} {Fs : Nat → Option AFn} (hm : P.follows .mixedOrders = true) (hlib : ∀ f T, lib f = some T → IsLib P f T) (hFs : ∀ f fn, Fs f = some fn → fnP P lib md f = some fn) (n : Nat)
  {f:Nat} {args:List AV} {mem:List (Tr Ent)} {tips:Tr Unit} {nv:Nat} {r:AV} {mem':List (Tr Ent)} {tips':Tr Unit} {nv':Nat} (h:stepF call Fs n f args mem tips nv=some (r,mem',tips',nv')) (X:Cx) (vargs:Array Value) (hmem:MemOK X mem tips) (hdom:∀ v,nv≤v→X.ρ v=none) (hargs:All2 (V1 X) args vargs.toList) :
  ∃ pf c,P.funcs[f]?=some pf∧pf.body=some c∧(pf.name == "runtime.NumGoroutine")=false∧
   c.wp P (bodyPost P pf (fun e w'=>∃ Y v,e=.returned v∧Y.w=w'∧Ext X Y∧VR Y r v∧MemOK Y mem' tips'∧nv≤nv'∧∀ u L,Y.ρ u=some L→X.ρ u=some L∨(nv≤u∧u<nv'))) { tmps:=vargs++Array.replicate (pf.ntmps-vargs.size) undef,defers:=[] } X.w:=by
  simp only[stepF] at h
  split at h
  ·cases h
  ·rename_i fn hfn
   split at h
   ·cases h
   ·rename_i hnp
    have hnp:=Nat.eq_of_beq_eq_true hnp
    have hf:=hFs f fn hfn
    unfold fnP at hf
    split at hf
    ·cases hf
    ·rename_i pf hpf
     split at hf
     ·cases hf
     ·rename_i c hbody
      split at hf
      ·cases hf
      ·rename_i hname
       split at hf
       ·rename_i b rs hc hrs
        simp only at hf
        split at hf
        ·rename_i hle
         injection hf with hf
         subst hf
         refine⟨pf,c,hpf,hbody,by simpa using hname,?_⟩
         have hlen:=hargs.length
         simp only[Array.length_toList] at hlen
         simp only at hnp h
         have start:Sim X ⟨pf.ntmps,[]⟩ { slots:=argSlots 0 args .lf,mem,tips,nv } { tmps:=vargs++Array.replicate (pf.ntmps-vargs.size) undef,defers:=[] }:=
          ⟨fun t=>args_ok hargs _ t,by simp;omega,rfl,hmem⟩
         have fin:∀ (x:AX) (s:St),(resAll s rs).map (fun vs=>(tupOf vs,s.mem,s.tips,s.nv))=some (r,mem',tips',nv')→∀ (Y:Cx) (a':Act),Ext X Y→Sim Y ⟨pf.ntmps,[]⟩ s a'→nv≤s.nv→(∀ v L,Y.ρ v=some L→X.ρ v=some L∨(nv≤v∧v<s.nv))→
           a'.defers=[]∧∃ v,(results pf a'.tmps).run P Y.w=.ok v Y.w∧∃ Z u,Ending.returned v=.returned u∧Z.w=Y.w∧Ext X Z∧VR Z r u∧MemOK Z mem' tips'∧nv≤nv'∧∀ u L,Z.ρ u=some L→X.ρ u=some L∨(nv≤u∧u<nv'):=by
          intro x s hres Y a' hx hs' hn hd
          obtain⟨vs,hvs,he⟩:=opt_map hres
          simp only[Prod.mk.injEq] at he
          obtain⟨rfl,rfl,rfl,rfl⟩:=he
          obtain⟨us,g1,g2⟩:=resAll_ok hs' hrs hvs
          refine⟨hs'.defers,_,?_,Y,_,rfl,rfl,hx,tup_ok g2,hs'.mem,hn,hd⟩
          have e:results pf a'.tmps=(do
            let vs ←pf.results.mapM (resOf a')
            pure (if h:vs.size=1 then vs[0] else .tuple vs)):=by
           unfold results
           congr 1
          rw[e,←Array.toArray_toList (xs:=pf.results),List.mapM_toArray]
          simp[g1]
         split at h
         ·rename_i s he
          refine (exec_ok (nt:=⟨pf.ntmps,[]⟩) hm hcall hlib n).1 c b X _ _ (.normal,s) _ hc he start hdom fun Y a' hx hs' hn hd=>?_
          exact fin .normal s h Y a' hx hs' hn hd
         ·rename_i s he
          refine (exec_ok (nt:=⟨pf.ntmps,[]⟩) hm hcall hlib n).1 c b X _ _ (.ret,s) _ hc he start hdom fun Y a' hx hs' hn hd=>?_
          exact fin .ret s h Y a' hx hs' hn hd
         ·cases h
        ·cases hf
       ·cases hf
theorem stepF_ok {call:Go.Eng.Call} (hcall:CallOK P call) {lib:Nat→Option TypeId} {md:Nat→Mode} {Fs:Nat→Option AFn} (hm:P.follows .mixedOrders=true) (hlib:∀ f T,lib f=some T→IsLib P f T) (hFs:∀ f fn,Fs f=some fn→fnP P lib md f=some fn) (n:Nat):CallOK P (stepF call Fs n):=by
  intro f args mem tips nv r mem' tips' nv' h X vargs hmem hdom hargs
  obtain⟨pf,c,h1,h2,h3,h4⟩:=stepF_wp hcall hm hlib hFs n h X vargs hmem hdom hargs
  exact⟨⟨pf,h1,by rw[h2];rfl,h3⟩,calls_of_wp h1 h2 h4⟩
theorem runF_ok {lib:Nat→Option TypeId} {md:Nat→Mode} {Fs:Nat→Option AFn} (hm:P.follows .mixedOrders=true) (hlib:∀ f T,lib f=some T→IsLib P f T) (hFs:∀ f fn,Fs f=some fn→fnP P lib md f=some fn):∀ n,CallOK P (runF Fs n)
 |0=>fun _ _ _ _ _ _ _ _ _ h=>by simp[runF] at h
 |n+1=>stepF_ok (runF_ok hm hlib hFs n) hm hlib hFs n
end
end Go.Eng
